import Derived.Test.YtiddaabodkglmaaCx
import Derived.Test.YtiddaabodkglmaaCy
import Derived.Test.YtiddaabodkglmaaK1
namespace Go.Proofs.Ytiddaabodkglmaa
open Go.RowKit Go.Fx
set_option linter.unusedVariables false
set_option linter.unusedSimpArgs false
theorem info_sl : (Try.prog.info? 22).map (fun i => (i.zero, i.size, i.bytes)) = some (some (.slice none 0 0), 1, 24) := by kernel_rfl
/-- fresh rows of singles -/
abbrev OG (w : World) (base : Nat) (v : Value) (us : List Value) (rss : List (List Nat)) : Prop := Rows2 w base 22 29 1 v us (rowsF rss)
theorem cut_some {rs : List Nat} {length a : Int} (h : (decide (0 ≤ a) && decide (a ≤ (rs.length : Int) - length)) = true) : cut1 rs length a = some (cutF rs a.toNat length.toNat) := by
  unfold cut1; rw [if_pos (by simpa using h)]
theorem cut_none {rs : List Nat} {length a : Int} (h : (decide (0 ≤ a) && decide (a ≤ (rs.length : Int) - length)) = false) : cut1 rs length a = none := by
  unfold cut1; rw [if_neg (by intro hc; simp [hc] at h)]
theorem rowsF_snoc (rss : List (List Nat)) (rs : List Nat) : rowsF rss ++ [(rs.length, rs.map fl)] = rowsF (rss ++ [rs]) := by simp
set_option maxRecDepth 100000 in
set_option maxHeartbeats 4000000 in
theorem iCutLines_any (A S : Option Addr) (c d : Nat) (rs : List Nat) (starts : List Int) (length : Int) (w : World) (h : Rd w A (rs.map fl)) (hs : Rd w S (starts.map it)) (hn : rs.length ≤ 1048576) (hm : starts.length ≤ 1048576) (hc : rs.length ≤ c) :
    Calls Try.prog 70 #[.slice A rs.length c, .slice S starts.length d, .int .i64 length] w fun e w' => (∃ v us, e = .returned v ∧ OG w' w.heap.size v us (cutLines rs starts length)) ∧ Ext w w' := by
  have H := Lib.hid h
  have HS := Lib.hid hs
  clear h hs
  cases hl : (decide (28 ≤ length) && decide (length ≤ 280))
  · have HE : Hid (cutLines rs starts length = []) := Lib.hid (by unfold cutLines; rw [if_neg]; intro hx; simp [hx.1, hx.2.1] at hl)
    go_enter Try.func70, Try.ntmps70
    go_wp2_with (go_at_call 163; refine (lengthOk_any _ _).mono ?_; rintro e w1 ⟨rfl, rfl⟩; rw [hl])
    go_ret
    exact ⟨⟨_, [], rfl, by rw [HE.out]; exact Rows2.nil _ _ _ _ _⟩, Ext.refl _⟩
  · have hl2 := hl
    simp only [Bool.and_eq_true, decide_eq_true_eq] at hl2
    by_cases hbig : 20000 < rs.length
    · have HE : Hid (cutLines rs starts length = []) := Lib.hid (by unfold cutLines; rw [if_neg]; intro hx; omega)
      go_enter Try.func70, Try.ntmps70
      go_wp2_with (go_at_call 163; refine (lengthOk_any _ _).mono ?_; rintro e w1 ⟨rfl, rfl⟩; rw [hl])
      go_ret
      exact ⟨⟨_, [], rfl, by rw [HE.out]; exact Rows2.nil _ _ _ _ _⟩, Ext.refl _⟩
    · have HE : Hid (cutLines rs starts length = starts.filterMap (cut1 rs length)) := Lib.hid (by unfold cutLines; rw [if_pos]; omega)
      go_enter Try.func70, Try.ntmps70
      go_wp2_with (go_at_call 163; refine (lengthOk_any _ _).mono ?_; rintro e w1 ⟨rfl, rfl⟩; rw [hl])
      go_loopw [7, 9, 20] (fun v u i wr => ∃ (k : Nat) (us : List Value), k ≤ starts.length ∧ i = .int .i64 k ∧ Hid (OG wr w.heap.size v us ((starts.take k).filterMap (cut1 rs length))) ∧ Ext w wr) (fun _ _ i _ => starts.length - (intOf i).toNat)
      case atStart => exact ⟨0, [], by omega, rfl, Lib.hid (Rows2.nil _ _ _ _ _), Ext.refl _⟩
      case round =>
        obtain ⟨k, us, hk, rfl, ho, hb⟩ := hrel
        by_cases hlt : k < starts.length
        · have hst := ri_at (HS.out.ext hb) hlt
          obtain ⟨b0, off, rfl, hbw, hcell⟩ := hst
          have HK := Lib.hid (cutLines_step (rs := rs) (length := length) hlt)
          generalize starts[k] = a at hcell HK
          obtain ⟨A2, c2, rfl, hou⟩ := ho.out.form
          have hul : us.length ≤ k := by
            have h1 := ho.out.len
            have h2 := List.length_filterMap_le (cut1 rs length) (starts.take k)
            simp at h1 h2
            omega
          cases hin : (decide (0 ≤ a) && decide (a ≤ (rs.length : Int) - length))
          · have HN := Lib.hid (cut_none hin)
            go_wp2_with (go_at_call 137; refine (within_any _ _ _ _).mono ?_; rintro e w1 ⟨rfl, rfl⟩; rw [hin])
            go_roundw
            case rel => exact ⟨k + 1, us, by omega, by go_num, Lib.hid (by rw [HK.out, HN.out]; simpa using ho.out), hb⟩
            case measure => simp [intOf]; omega
          · have HN := Lib.hid (cut_some hin)
            have hin2 := hin
            simp only [Bool.and_eq_true, decide_eq_true_eq] at hin2
            obtain ⟨p, rfl⟩ : ∃ p : Nat, a = p := ⟨a.toNat, by omega⟩
            obtain ⟨q, rfl⟩ : ∃ q : Nat, length = q := ⟨length.toNat, by omega⟩
            have hcl : (cutF rs p q).length = q := cutF_len (by omega)
            obtain ⟨b1, off1, rfl, hb1⟩ := rd_some H.out (by intro e; have := List.map_eq_nil_iff.1 e; subst this; simp at hin2; omega)
            have hclone := cloneF_any (some ⟨b1, off1 + p, none⟩) (c - p) (cutF rs p q) wr (rd_cut (H.out.ext hb) p q) (fun h => by cases h) (by rw [hcl]; omega)
            rw [hcl] at hclone
            go_wp2_with (first | (go_at_call 137; refine (within_any _ _ _ _).mono ?_; rintro e w1 ⟨rfl, rfl⟩; rw [hin]) | (go_at_call 148; refine hclone.mono ?_; rintro e w2 ⟨⟨u1, rfl, hu1⟩, hb2⟩; unfold OF at hu1; rw [hcl] at hu1; have hnew := fun b hb => (hu1.lt b hb).1; obtain ⟨A3, c3, rfl, -, -⟩ := own_slice hu1) | (at_builtin; refine wpList_app rfl _ _ 70 rfl w.heap.size 22 _ 1 24 Try.underlying70 info_sl rfl (by omega) (.slice A2 us.length c2) us.length us rfl (own_ext (own_ext hou hb2) ((Ext.refl _).alloc _)) _ 1 1 _ rfl (rd_new _ _ _ _) rfl (fun h => by cases h) (by intro u hu; simp at hu; rcases hu with rfl; rfl) (by unfold maxLen; omega) (by omega) (by have := hb.size; have := hb2.size; simp; omega) ?_; intro v1 w3 hown hg hat))
            go_roundw
            case rel =>
              have hR : Hid (OG w3 w.heap.size v1 (us ++ [.slice A3 q c3]) ((starts.take (k + 1)).filterMap (cut1 rs q))) := Lib.hid (by
                unfold OG
                rw [HK.out, HN.out]
                simp only [Option.toList_some, Int.toNat_natCast]
                rw [← rowsF_snoc, hcl]
                exact ((ho.out.ext hb2).ext ((Ext.refl _).alloc _)).snoc hown (own_base (own_ext hu1 ((Ext.refl _).alloc _)) hb.size) hg hat (Nat.le_refl _) ho.out.inR hnew)
              exact ⟨k + 1, _, by omega, by go_num, hR, ext_grow (base := w.heap.size) ((hb.trans hb2).alloc _) (own_ext (own_ext hou hb2) ((Ext.refl _).alloc _)) (Nat.le_refl _) hg⟩
            case measure => simp [intOf]; omega
        · go_wp2
          go_ret
          obtain rfl : k = starts.length := by omega
          exact ⟨⟨_, us, rfl, by rw [HE.out]; simpa using ho.out⟩, hb⟩
set_option maxRecDepth 100000 in
set_option maxHeartbeats 4000000 in
theorem sCutLines_any (A S : Option Addr) (c d : Nat) (rs : List Nat) (starts : List Int) (length : Int) (w : World) (h : Rd w A (rs.map fl)) (hs : Rd w S (starts.map it)) (hn : rs.length ≤ 1048576) (hm : starts.length ≤ 1048576) (hc : rs.length ≤ c) :
    Calls Try.prog 68 #[.slice A rs.length c, .slice S starts.length d, .int .i64 length] w fun e w' => (∃ v us, e = .returned v ∧ OG w' w.heap.size v us (cutLines rs starts length)) ∧ Ext w w' := by
  have H := Lib.hid h
  have HS := Lib.hid hs
  clear h hs
  have ha : Ext w (w.alloc (.cells #[] 22)) := (Ext.refl _).alloc _
  have hnew := Rows2.new w w.heap.size 22 29 1 (Nat.le_refl _)
  cases hl : (decide (28 ≤ length) && decide (length ≤ 280))
  · have HE : Hid (cutLines rs starts length = []) := Lib.hid (by unfold cutLines; rw [if_neg]; intro hx; simp [hx.1, hx.2.1] at hl)
    go_enter Try.func68, Try.ntmps68
    go_wp2_with (go_at_call 135; refine (sIn_any _ _ _ _).mono ?_; rintro e w1 ⟨rfl, rfl⟩; rw [hl])
    go_ret
    exact ⟨⟨_, [], rfl, by rw [HE.out]; exact hnew⟩, ha⟩
  · have hl2 := hl
    simp only [Bool.and_eq_true, decide_eq_true_eq] at hl2
    by_cases hbig : 20000 < rs.length
    · have HE : Hid (cutLines rs starts length = []) := Lib.hid (by unfold cutLines; rw [if_neg]; intro hx; omega)
      go_enter Try.func68, Try.ntmps68
      go_wp2_with (go_at_call 135; refine (sIn_any _ _ _ _).mono ?_; rintro e w1 ⟨rfl, rfl⟩; rw [hl])
      go_ret
      exact ⟨⟨_, [], rfl, by rw [HE.out]; exact hnew⟩, ha⟩
    · have HE : Hid (cutLines rs starts length = starts.filterMap (cut1 rs length)) := Lib.hid (by unfold cutLines; rw [if_pos]; omega)
      go_enter Try.func68, Try.ntmps68
      go_wp2_with (go_at_call 135; refine (sIn_any _ _ _ _).mono ?_; rintro e w1 ⟨rfl, rfl⟩; rw [hl])
      go_loopw [7, 8] (fun v i wr => ∃ (k : Nat) (us : List Value), k ≤ starts.length ∧ i = .int .i64 k ∧ Hid (OG wr w.heap.size v us ((starts.take k).filterMap (cut1 rs length))) ∧ Ext w wr) (fun _ i _ => starts.length - (intOf i).toNat)
      case atStart => exact ⟨0, [], by omega, rfl, Lib.hid hnew, ha⟩
      case round =>
        obtain ⟨k, us, hk, rfl, ho, hb⟩ := hrel
        clear hnew ha
        by_cases hlt : k < starts.length
        · have hst := ri_at (HS.out.ext hb) hlt
          obtain ⟨b0, off, rfl, hbw, hcell⟩ := hst
          have HK := Lib.hid (cutLines_step (rs := rs) (length := length) hlt)
          generalize starts[k] = a at hcell HK
          obtain ⟨A2, c2, rfl, hou⟩ := ho.out.form
          have hul : us.length ≤ k := by
            have h1 := ho.out.len
            have h2 := List.length_filterMap_le (cut1 rs length) (starts.take k)
            simp at h1 h2
            omega
          cases hin : (decide (0 ≤ a) && decide (a ≤ (rs.length : Int) - length))
          · have HN := Lib.hid (cut_none hin)
            go_wp2_with (go_at_call 135; refine (sIn_any _ _ _ _).mono ?_; rintro e w1 ⟨rfl, rfl⟩; rw [hin])
            go_roundw
            case rel => exact ⟨k + 1, us, by omega, by go_num, Lib.hid (by rw [HK.out, HN.out]; simpa using ho.out), hb⟩
            case measure => simp [intOf]; omega
          · have HN := Lib.hid (cut_some hin)
            have hin2 := hin
            simp only [Bool.and_eq_true, decide_eq_true_eq] at hin2
            obtain ⟨p, rfl⟩ : ∃ p : Nat, a = p := ⟨a.toNat, by omega⟩
            obtain ⟨q, rfl⟩ : ∃ q : Nat, length = q := ⟨length.toNat, by omega⟩
            have hcl : (cutF rs p q).length = q := cutF_len (by omega)
            obtain ⟨b1, off1, rfl, hb1⟩ := rd_some H.out (by intro e; have := List.map_eq_nil_iff.1 e; subst this; simp at hin2; omega)
            have hrc := Lib.hid (rd_cut (H.out.ext hb) p q)
            have hpq : p + q ≤ c := by omega
            have hcp : ¬ c = p := by omega
            have hw0 : IntKind.i64.wrap ((p : Int) + (q : Int)) = (p : Int) + (q : Int) := by rw [IntKind.wrap_i64]; omega
            have hw1 : (0 : Int) ≤ (p : Int) + (q : Int) := by omega
            have hw2 : (p : Int) + (q : Int) ≤ (c : Int) := by omega
            have hw3 : ((p : Int) + (q : Int)).toNat = p + q := by omega
            go_wp2_with (go_at_call 135; refine (sIn_any _ _ _ _).mono ?_; rintro e w1 ⟨rfl, rfl⟩; rw [hin])
            go_region_law (first | (refine step_app rfl _ _ 22 rfl wr.heap.size 29 _ 1 4 Try.underlying22 info_f32 rfl (by omega) (.slice (some ⟨wr.heap.size, 0, none⟩) 0 0) 0 [] rfl (own_ext (own_new wr _ _ 1 (Nat.le_refl _)) (by (repeat (first | exact Below.refl _ _ | assumption | refine below_drewN ?_ _ | refine Below.drew ?_ | refine Below.alloc ?_ (by first | exact Nat.le_refl _ | (simp; done) | (simp; omega)) _ | refine Below.setCell ?_ (by first | exact Nat.le_refl _ | (simp; done) | (simp; omega)) _)))) (some ⟨b1, off1 + p, none⟩) q _ ((cutF rs p q).map fl) rfl (hrc.out.ext (by (repeat (first | exact Below.refl _ _ | assumption | refine below_drewN ?_ _ | refine Below.drew ?_ | refine Below.alloc ?_ (by first | exact Nat.le_refl _ | (simp; done) | (simp; omega)) _ | refine Below.setCell ?_ (by first | exact Nat.le_refl _ | (simp; done) | (simp; omega)) _)))) (by rw [List.length_map, hcl, Nat.mul_one]) (fun h => by cases h) oneCell_fl (by unfold maxLen; omega) (by omega) (by simp) ?_; intro u1 w2 hu1 hg2 hat2; have hx2 : Ext wr w2 := ext_grow (by (repeat (first | exact Below.refl _ _ | assumption | refine below_drewN ?_ _ | refine Below.drew ?_ | refine Below.alloc ?_ (by first | exact Nat.le_refl _ | (simp; done) | (simp; omega)) _ | refine Below.setCell ?_ (by first | exact Nat.le_refl _ | (simp; done) | (simp; omega)) _))) (own_ext (own_new wr wr.heap.size 29 1 (Nat.le_refl _)) (by (repeat (first | exact Below.refl _ _ | assumption | refine below_drewN ?_ _ | refine Below.drew ?_ | refine Below.alloc ?_ (by first | exact Nat.le_refl _ | (simp; done) | (simp; omega)) _ | refine Below.setCell ?_ (by first | exact Nat.le_refl _ | (simp; done) | (simp; omega)) _)))) (Nat.le_refl _) hg2; rw [Nat.zero_add, List.nil_append] at hu1; have hnew := fun b hb => (hu1.lt b hb).1; obtain ⟨A3, c3, rfl, -, -⟩ := own_slice hu1) | (refine step_app rfl _ _ 70 rfl w.heap.size 22 _ 1 24 Try.underlying70 info_sl rfl (by omega) (.slice A2 us.length c2) us.length us rfl (own_ext (own_ext hou hx2) (by (repeat (first | exact Below.refl _ _ | assumption | refine below_drewN ?_ _ | refine Below.drew ?_ | refine Below.alloc ?_ (by first | exact Nat.le_refl _ | (simp; done) | (simp; omega)) _ | refine Below.setCell ?_ (by first | exact Nat.le_refl _ | (simp; done) | (simp; omega)) _)))) _ 1 1 _ rfl (rd_new _ _ _ _) rfl (fun h => by cases h) (by intro u hu; simp at hu; rcases hu with rfl; rfl) (by unfold maxLen; omega) (by omega) (by have := hb.size; have := hx2.size; simp; omega) ?_; intro v1 w3 hown hg hat))
            all_goals go_wp2
            all_goals go_roundw
            all_goals first | (simp [intOf]; done) | (simp [intOf]; omega) | skip
            all_goals (
              refine ⟨k + 1, us ++ [.slice A3 q c3], by omega, by go_num, ?_, ext_grow (base := w.heap.size) ((hb.trans hx2).trans (by (repeat (first | exact Below.refl _ _ | assumption | refine below_drewN ?_ _ | refine Below.drew ?_ | refine Below.alloc ?_ (by first | exact Nat.le_refl _ | (simp; done) | (simp; omega)) _ | refine Below.setCell ?_ (by first | exact Nat.le_refl _ | (simp; done) | (simp; omega)) _)))) (own_ext (own_ext hou hx2) (by (repeat (first | exact Below.refl _ _ | assumption | refine below_drewN ?_ _ | refine Below.drew ?_ | refine Below.alloc ?_ (by first | exact Nat.le_refl _ | (simp; done) | (simp; omega)) _ | refine Below.setCell ?_ (by first | exact Nat.le_refl _ | (simp; done) | (simp; omega)) _)))) (Nat.le_refl _) hg⟩
              refine Lib.hid ?_
              unfold OG
              rw [HK.out, HN.out]
              simp only [Option.toList_some, Int.toNat_natCast]
              rw [← rowsF_snoc, hcl]
              exact ((ho.out.ext hx2).ext (by (repeat (first | exact Below.refl _ _ | assumption | refine below_drewN ?_ _ | refine Below.drew ?_ | refine Below.alloc ?_ (by first | exact Nat.le_refl _ | (simp; done) | (simp; omega)) _ | refine Below.setCell ?_ (by first | exact Nat.le_refl _ | (simp; done) | (simp; omega)) _)))).snoc hown (own_base (own_ext hu1 (by (repeat (first | exact Below.refl _ _ | assumption | refine below_drewN ?_ _ | refine Below.drew ?_ | refine Below.alloc ?_ (by first | exact Nat.le_refl _ | (simp; done) | (simp; omega)) _ | refine Below.setCell ?_ (by first | exact Nat.le_refl _ | (simp; done) | (simp; omega)) _)))) hb.size) hg hat (Nat.le_refl _) ho.out.inR hnew)
        · go_wp2
          go_ret
          obtain rfl : k = starts.length := by omega
          exact ⟨⟨_, us, rfl, by rw [HE.out]; simpa using ho.out⟩, hb⟩
end Go.Proofs.Ytiddaabodkglmaa
