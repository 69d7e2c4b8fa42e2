import Derived.Test.YtiddaabodkglmaaBb
import Derived.Test.YtiddaabodkglmaaK5
namespace Go.Fx
set_option linter.unusedVariables false
open Go.RowKit
theorem rd_new2 (w : World) (o : Obj) (xs : List Value) (E : TypeId) : Rd ((w.alloc o).alloc (.cells xs.toArray E)) (some ⟨w.heap.size + 1, 0, none⟩) xs := by
  have h := rd_new (w.alloc o) xs.toArray E (0, 0)
  have e : (w.alloc o).heap.size = w.heap.size + 1 := by simp
  rw [e] at h
  simpa using h
/-- the colour of a cell -/
def clr (c : Cel) : Nat × Nat := (c.re, c.im)
/-- rows of width W whose pairs share their colours -/
structure Pd (W : Nat) (rss : List (List Cel)) : Prop where
  wide : ∀ r ∈ rss, r.length = W
  plain : ∀ r ∈ rss, ∃ ys, PlainRow r ys
  pair : ∀ i, i < rss.length → 2 ≤ i % 4 → (rss.getD i []).map clr = (rss.getD (i - 2) []).map clr
theorem Pd.nil (W : Nat) : Pd W [] where
  wide := fun r h => absurd h List.not_mem_nil
  plain := fun r h => absurd h List.not_mem_nil
  pair := fun i h => absurd h (Nat.not_lt_zero i)
theorem getD_app1 {α : Type} (l m : List α) (d : α) {n : Nat} (h : n < l.length) : (l ++ m).getD n d = l.getD n d := by
  rw [List.getD_eq_getElem?_getD, List.getD_eq_getElem?_getD, List.getElem?_append_left h]
theorem getD_app2 {α : Type} (l : List α) (a d : α) : (l ++ [a]).getD l.length d = a := by
  rw [List.getD_eq_getElem?_getD, List.getElem?_append_right (Nat.le_refl _)]; simp
theorem Pd.snoc {W : Nat} {rss : List (List Cel)} {row : List Cel} (h : Pd W rss) (hl : row.length = W) (hp : ∃ ys, PlainRow row ys) (hc : 2 ≤ rss.length % 4 → row.map clr = (rss.getD (rss.length - 2) []).map clr) : Pd W (rss ++ [row]) := by
  refine ⟨fun r hr => ?_, fun r hr => ?_, fun i hi h2 => ?_⟩
  · rcases List.mem_append.1 hr with h1 | h1
    · exact h.wide r h1
    · rw [List.mem_singleton] at h1; subst h1; exact hl
  · rcases List.mem_append.1 hr with h1 | h1
    · exact h.plain r h1
    · rw [List.mem_singleton] at h1; subst h1; exact hp
  · rw [List.length_append] at hi
    simp only [List.length_cons, List.length_nil] at hi
    have hpos : 2 ≤ i := by omega
    by_cases hlt : i < rss.length
    · have := h.pair i hlt h2
      rw [getD_app1 _ _ _ hlt, getD_app1 _ _ _ (by omega)]
      exact this
    · obtain rfl : i = rss.length := by omega
      rw [getD_app1 _ _ _ (by omega : rss.length - 2 < rss.length), getD_app2]
      exact hc h2
theorem clr_step {row : List Cel} {src : List Cel} {k : Nat} {d : Cel} (h : row.map clr = (src.map clr).take k) (hk : k < src.length) (hd : clr d = clr src[k]) : (row ++ [d]).map clr = (src.map clr).take (k + 1) := by
  rw [List.map_append, h, List.take_add_one]
  congr 1
  simp [hk, hd]
end Go.Fx
namespace Go.Proofs.Ytiddaabodkglmaa
open Go.RowKit Go.Fx
set_option linter.unusedVariables false
set_option linter.unusedSimpArgs false
theorem plain_cell' {y : Nat} {c : Cel} {ys : List I3} {row : List Cel} (h1 : Six y 1024) (hp : PlainRow row ys) (hc : c ∈ row) : ∃ a, CV 4 ⟨y, c.re, c.im⟩ a ∧ Small 1024 a := by
  obtain ⟨m1, l1, v1⟩ := h1
  obtain ⟨i, hi, rfl⟩ := List.getElem_of_mem hc
  have hj : i < ys.length := by rw [← hp.1.len]; exact hi
  have ha := hp.1.at i hi hj
  have hs := hp.2 _ (List.getElem_mem hj)
  exact ⟨(m1, ys[i].2.1, ys[i].2.2), ⟨v1, ha.2.1, ha.2.2⟩, ⟨l1, hs.2.1, hs.2.2⟩⟩
set_option maxRecDepth 100000 in
set_option maxHeartbeats 4000000 in
theorem paired_any (bk : Nat) (w : World) (h : Cu w bk) :
    Calls Try.prog 199 #[.pointer (some ⟨bk, 0, none⟩)] w fun e w' => (∃ v us rss W, e = .returned v ∧ OCC w' w.heap.size v us rss ∧ Pd W rss ∧ 1 ≤ W ∧ W ≤ 4 ∧ (rss.length = 4 ∨ rss.length = 8)) ∧ CuT bk w w' := by
  have hz := h.size
  have hal : Ext w (w.alloc (.cells #[] 43)) := (Ext.refl _).alloc _
  have hnew : OCC (w.alloc (.cells #[] 43)) w.heap.size (.slice (some ⟨w.heap.size, 0, none⟩) 0 0) [] [] := Rows2.new _ _ _ _ _ (Nat.le_refl _)
  have hin := hnew.inR
  have hcc := CuT.ext (CuT.refl h) hal
  go_enter Try.func199, Try.ntmps199
  go_wp2_with fail
  refine (below_any bk 4 _ hcc.1 (by omega)).mono ?_
  rintro e w1 ⟨⟨x, rfl, hx0, hx1, -⟩, hc1⟩
  have hx2 := hx1 (by omega)
  clear hx1
  obtain ⟨p, rfl⟩ : ∃ p : Nat, x = p := ⟨x.toNat, by omega⟩
  have hnew1 := hnew.turn hc1.2 hin (.inr (by omega))
  have hcc1 := hcc.trans hc1
  clear hc1
  go_wp2_with fail
  refine (below_any bk 2 _ hcc1.1 (by omega)).mono ?_
  rintro e w2 ⟨⟨x, rfl, hx0', hx1, -⟩, hc2⟩
  have hx2' := hx1 (by omega)
  clear hx1
  obtain ⟨q, rfl⟩ : ∃ q : Nat, x = q := ⟨x.toNat, by omega⟩
  have hnew2 := Lib.hid (hnew1.turn hc2.2 hnew1.inR (.inr (by omega)))
  have hcc2 := hcc1.trans hc2
  clear hc2 hcc1 hnew1 hcc hin hnew hal
  go_wp2_with fail
  go_loopw [3, 6, 7, 8, 9] (fun o r z1 z2 z3 wr => ∃ (k : Nat) (us : List Value) (rss : List (List Cel)), k ≤ 4 * (1 + q) ∧ r = .int .i64 k ∧ Hid (rss.length = k) ∧ Hid (OCC wr w.heap.size o us rss) ∧ Hid (Pd (1 + p) rss) ∧ CuT bk w wr) (fun _ r _ _ _ _ => 4 * (1 + q) - (intOf r).toNat)
  case atStart => exact ⟨0, [], [], by omega, rfl, Lib.hid rfl, hnew2, Lib.hid (Pd.nil _), hcc2⟩
  case round =>
    rename World => wo
    clear hnew2 hcc2
    obtain ⟨k, us, rss, hk, rfl, HK, ho, HP, hcr⟩ := hrel
    obtain ⟨A2, c2, rfl, hou⟩ := ho.out.form
    have hul : us.length = k := by
      have h1 := ho.out.len
      have h2 := HK.out
      simp at h1
      omega
    rw [hul] at ho hou
    rw [hul]
    by_cases hlt : k < 4 * (1 + q)
    · have hltI : (k : Int) < 4 * (1 + (q : Int)) := by omega
      have hInR := Lib.hid ho.out.inR
      have hws : w.heap.size ≤ wo.heap.size := hcr.2.size
      have hal : Ext wo (wo.alloc (.cells #[] 90)) := (Ext.refl _).alloc _
      have hnew := own_new wo wo.heap.size 90 2 (Nat.le_refl _)
      have HO2 := Lib.hid (ho.out.ext hal)
      have hcr2 := CuT.ext hcr hal
      clear hal
      go_wp2_with fail
      go_loopw [7, 8, 9] (fun v i z wr => ∃ (m : Nat) (row : List Cel), m ≤ 1 + p ∧ row.length = m ∧ i = .int .i64 m ∧ wr.ownsRow wo.heap.size 90 2 v m (ccells row) ∧ Hid (∃ ys, PlainRow row ys) ∧ Hid (2 ≤ k % 4 → row.map clr = ((rss.getD (k - 2) []).map clr).take m) ∧ Hid (OCC wr w.heap.size (.slice A2 k c2) us rss) ∧ CuT bk w wr ∧ wo.heap.size ≤ wr.heap.size) (fun _ i _ _ => (1 + p) - (intOf i).toNat)
      case atStart => exact ⟨0, [], by omega, rfl, rfl, hnew, Lib.hid ⟨[], trivial, fun _ h => by cases h⟩, Lib.hid (fun _ => by simp), HO2, hcr2, by simp⟩
      case round =>
        obtain ⟨m, row, hm, hrl, rfl, hrow, HR, HC, hoc, hcc, hsz⟩ := hrel
        clear hnew HO2 hcr2
        obtain ⟨A1, c1, rfl, -, -⟩ := own_slice hrow
        by_cases hlt2 : m < 1 + p
        · have hltJ : (m : Int) < 1 + (p : Int) := by omega
          go_wp2_with fail
          refine (plain_any bk _ hcc.1).mono ?_
          rintro e w3 ⟨⟨d, rfl, s1, s2, s3⟩, hc3⟩
          have HOC := Lib.hid (hoc.out.turn hc3.2 hoc.out.inR (.inr (by omega)))
          have hrow3 := own_up hrow hc3.2 (by omega)
          have hcc3 := hcc.trans hc3
          have HS := Lib.hid s1
          have hsz3 : wo.heap.size ≤ w3.heap.size := Nat.le_trans hsz hc3.2.size
          have HPL := Lib.hid (plain_cell s1 s2 s3)
          clear hrow hoc hcc hc3 s1 s2 s3
          by_cases hk2 : 2 ≤ k % 4
          · obtain ⟨j, rfl⟩ : ∃ j, k = j + 2 := ⟨k - 2, by omega⟩
            have hjl : j < rss.length := by rw [HK.out]; omega
            have hlw : rss[j].length = 1 + p := HP.out.wide _ (List.getElem_mem hjl)
            have hkI : (2 : Int) ≤ ((j + 2 : Nat) : Int) % 4 := by omega
            have hx3 : Ext w3 (w3.alloc (.cells #[.float .f32 d.y, .complex .f32 d.re d.im] 90)) := (Ext.refl _).alloc _
            obtain ⟨b, off, B, dd, rfl, hbw, -, hcell, hrw, -, -⟩ := (HOC.out.ext hx3).rd.1.atC hjl
            have hml : m < rss[j].length := by omega
            have hgd : rss.getD (j + 2 - 2) [] = rss[j] := by rw [List.getD_eq_getElem?_getD]; simp [hjl]
            obtain ⟨b', off', rfl, hbw', -, hcol⟩ := rc_at hrw hml
            rw [hlw] at hcell
            go_wp2_with (at_builtin; refine wpList_app rfl _ _ 43 rfl wo.heap.size 90 _ 2 12 Try.underlying43 info_cell rfl (by omega) (.slice A1 m c1) m (ccells row) rfl (own_ext hrow3 (((Ext.refl _).alloc _).alloc _)) _ 1 1 _ rfl (rd_new2 w3 _ [.float .f32 d.y, .complex .f32 rss[j][m].re rss[j][m].im] _) rfl (fun h => by cases h) (by intro u hu; simp at hu; rcases hu with rfl | rfl <;> rfl) (by unfold maxLen; omega) (by omega) (Nat.le_trans hsz3 (ext_size (((Ext.refl _).alloc _).alloc _))) ?_; intro v1 w4 hown hg hat)
            go_roundw
            case rel =>
              (repeat apply Exists.intro)
              refine ⟨⟨m + 1, row ++ [⟨d.y, rss[j][m].re, rss[j][m].im⟩], by omega, by simp [hrl], by go_num, by simpa [snoc2] using hown, Lib.hid (by
                obtain ⟨ys, hp⟩ := HR.out
                obtain ⟨zs, hq⟩ := HP.out.plain _ (List.getElem_mem hjl)
                obtain ⟨a, ha, hsa⟩ := plain_cell' HS.out hq (List.getElem_mem hml)
                exact ⟨ys ++ [a], hp.1.snoc ha, small_snoc hp.2 hsa⟩), Lib.hid (fun h2 => by rw [hgd]; exact clr_step (by have := HC.out h2; rw [hgd] at this; exact this) hml rfl), Lib.hid ((HOC.out.ext (((Ext.refl _).alloc _).alloc _)).past hg hInR.out (own_in hrow3) (.inl (Nat.le_refl _))), CuT.grow (hcc3.ext (((Ext.refl _).alloc _).alloc _)) (own_ext hrow3 (((Ext.refl _).alloc _).alloc _)) hws hg hz, Nat.le_trans (Nat.le_trans hsz3 (by simp; omega)) hg.size⟩, rfl⟩
            case measure => simp [intOf]; omega
          · have hkI : ¬ (2 : Int) ≤ ((k : Nat) : Int) % 4 := by omega
            go_wp2_with (at_builtin; refine wpList_app rfl _ _ 43 rfl wo.heap.size 90 _ 2 12 Try.underlying43 info_cell rfl (by omega) (.slice A1 m c1) m (ccells row) rfl (own_ext hrow3 (((Ext.refl _).alloc _).alloc _)) _ 1 1 _ rfl (rd_new2 w3 _ [.float .f32 d.y, .complex .f32 d.re d.im] _) rfl (fun h => by cases h) (by intro u hu; simp at hu; rcases hu with rfl | rfl <;> rfl) (by unfold maxLen; omega) (by omega) (Nat.le_trans hsz3 (ext_size (((Ext.refl _).alloc _).alloc _))) ?_; intro v1 w4 hown hg hat)
            go_roundw
            case rel =>
              exact ⟨m + 1, row ++ [d], by omega, by simp [hrl], by go_num, by simpa [snoc2] using hown, Lib.hid (by
                obtain ⟨ys, hp⟩ := HR.out
                obtain ⟨a, ha, hsa⟩ := HPL.out
                exact ⟨ys ++ [a], hp.1.snoc ha, small_snoc hp.2 hsa⟩), Lib.hid (fun h2 => by exfalso; omega), Lib.hid ((HOC.out.ext (((Ext.refl _).alloc _).alloc _)).past hg hInR.out (own_in hrow3) (.inl (Nat.le_refl _))), CuT.grow (hcc3.ext (((Ext.refl _).alloc _).alloc _)) (own_ext hrow3 (((Ext.refl _).alloc _).alloc _)) hws hg hz, Nat.le_trans (Nat.le_trans hsz3 (by simp; omega)) hg.size⟩
            case measure => simp [intOf]; omega
        · have hnb := fun b hb => (hrow.lt b hb).1
          obtain rfl : m = 1 + p := by omega
          have hou3 := hoc.out.own
          rw [← hoc.out.len, hul] at hou3
          go_wp2_with (at_builtin; refine wpList_app rfl _ _ 28 rfl w.heap.size 43 _ 1 24 Try.underlying28 info_sc rfl (by omega) (.slice A2 k c2) k us rfl (own_ext hou3 (by (repeat (first | exact Below.refl _ _ | assumption | refine below_drewN ?_ _ | refine Below.drew ?_ | refine Below.alloc ?_ (by first | exact Nat.le_refl _ | (simp; done) | (simp; omega)) _ | refine Below.setCell ?_ (by first | exact Nat.le_refl _ | (simp; done) | (simp; omega)) _)))) _ 1 1 _ rfl (rd_new _ _ _ _) rfl (fun h => by cases h) (by intro u hu; simp at hu; rcases hu with rfl; rfl) (by unfold maxLen; omega) (by omega) (by simp; omega) ?_; intro v2 w4 hown hg hat)
          go_roundw
          case rel =>
            have hR : Hid (OCC w4 w.heap.size v2 (us ++ [.slice A1 (1 + p) c1]) (rss ++ [row])) := Lib.hid (by
              unfold OCC
              rw [← rowsC_snoc, hrl]
              exact (hoc.out.ext ((Ext.refl _).alloc _)).snoc (by rw [hul]; exact hown) (own_base (own_ext hrow ((Ext.refl _).alloc _)) hws) hg hat (Nat.le_refl _) hInR.out hnb)
            exact ⟨k + 1, _, rss ++ [row], by omega, by go_num, Lib.hid (by simp [HK.out]), hR, Lib.hid (HP.out.snoc hrl HR.out (fun h2 => by
              rw [HK.out] at h2 ⊢
              have hj : k - 2 < rss.length := by rw [HK.out]; omega
              have hgd : rss.getD (k - 2) [] = rss[k - 2] := by rw [List.getD_eq_getElem?_getD]; simp [hj]
              have := HC.out h2
              rw [hgd] at this ⊢
              rw [this]
              exact List.take_of_length_le (by rw [List.length_map, HP.out.wide _ (List.getElem_mem hj)]; exact Nat.le_refl _))), CuT.grow (hcc.ext ((Ext.refl _).alloc _)) (own_ext hou3 ((Ext.refl _).alloc _)) (Nat.le_refl _) hg hz⟩
          case measure => simp [intOf]; omega
    · go_wp2_with fail
      go_ret
      obtain rfl : k = 4 * (1 + q) := by omega
      exact ⟨⟨_, us, rss, 1 + p, rfl, ho.out, HP.out, by omega, by omega, by have := HK.out; omega⟩, hcr⟩
end Go.Proofs.Ytiddaabodkglmaa
