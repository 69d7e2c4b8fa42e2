import Derived.Test.YtiddaabodkglmaaCn
import Derived.Test.YtiddaabodkglmaaK2
import Derived.Deep.RegionLaw
namespace Go.Proofs.Ytiddaabodkglmaa
open Go.RowKit Go.Fx
set_option linter.unusedVariables false
set_option linter.unusedSimpArgs false
/-- samples with an echo -/
def echoAll (rs : List Nat) (cells : Int) (k : Nat) : List Nat := (List.range rs.length).map fun i => add32 (cn .f32 (rs.getD i 0)) (mul32 (cn .f32 k) (cn .f32 ((delay rs cells).getD i 0)))
def echoOk (rs : List Nat) (cells : Int) (k : Nat) : Bool := samplesOk rs && delayOk cells && samplesOk (echoAll rs cells k)
def echo (rs : List Nat) (cells : Int) (k : Nat) : List Nat := if echoOk rs cells k = true then echoAll rs cells k else []
theorem echoAll_len (rs : List Nat) (cells : Int) (k : Nat) : (echoAll rs cells k).length = rs.length := by simp [echoAll]
theorem delay_len {rs : List Nat} {cells : Int} (h : delayOk cells = true) : (delay rs cells).length = rs.length := by unfold delay; rw [if_pos h, delayL_len]
theorem echoAll_at {rs : List Nat} {cells : Int} {k i : Nat} (hd : delayOk cells = true) (h : i < rs.length) : (echoAll rs cells k)[i]'(by rw [echoAll_len]; exact h) = add32 (cn .f32 rs[i]) (mul32 (cn .f32 k) (cn .f32 ((delay rs cells)[i]'(by rw [delay_len hd]; exact h)))) := by
  simp only [echoAll, List.getElem_map, List.getElem_range]
  rw [List.getD_eq_getElem?_getD, List.getElem?_eq_getElem h, List.getD_eq_getElem?_getD, List.getElem?_eq_getElem (by rw [delay_len hd]; exact h)]
  rfl
theorem echo_len {gs rs : List Nat} {cells : Int} {x : Nat} (h : cns gs = echo rs cells x) : gs.length ≤ rs.length := by
  have := congrArg List.length h
  simp only [List.length_map] at this
  rw [this]; unfold echo; split <;> simp [echoAll_len]
theorem set_at_len {gs ds : List Nat} {k m : Nat} (hg : gs.length = k) (hk : k < ds.length) : ((gs ++ ds.drop k).map fl).set k (fl m) = ((gs ++ [m]) ++ ds.drop (k + 1)).map fl := by
  subst hg
  rw [← List.map_set, List.set_append_right _ _ (Nat.le_refl _), Nat.sub_self, List.drop_eq_getElem_cons hk, List.set_cons_zero, List.append_assoc]
  rfl
set_option maxRecDepth 100000 in
set_option maxHeartbeats 1000000 in
theorem iEcho_any (A : Option Addr) (c : Nat) (rs : List Nat) (cells : Int) (x : Nat) (w : World) (h : Rd w A (rs.map fl)) (hA : A = none → rs.length = 0) (hn : rs.length ≤ 1048576) :
    Calls Try.prog 77 #[.slice A rs.length c, .int .i64 cells, .float .f32 x] w fun e w' => (∃ v gs, e = .returned (.tuple #[v, .bool (echoOk rs cells x)]) ∧ OF w' w.heap.size v gs ∧ cns gs = echo rs cells x) ∧ Ext w w' := by
  have H := Lib.hid h
  have hm : rs.length ≤ maxLen := by unfold maxLen; omega
  cases hok : (samplesOk rs && delayOk cells)
  · have HE : Hid (echoOk rs cells x = false) := Lib.hid (by unfold echoOk; rw [hok]; rfl)
    have HE2 : Hid (echo rs cells x = []) := Lib.hid (by unfold echo; rw [HE.out]; rfl)
    cases hs : samplesOk rs
    · go_enter Try.func77, Try.ntmps77
      go_wp2_with (first | (go_at_call 165; refine (iDelay_any _ _ _ _ _ H.out hA hn).mono ?_; rintro e w1 ⟨⟨v, rfl, ho⟩, hb1⟩) | (go_at_call 37; refine (iSamplesOk_any _ _ _ _ (H.out.ext hb1) hm).mono ?_; rintro e w1 ⟨rfl, rfl⟩; rw [hs]))
      go_ret2
      exact ⟨⟨_, [], by rw [HE.out]; rfl, World.ownsRow_nil _ _ _ _, by rw [HE2.out]; rfl⟩, hb1⟩
    · have hd : delayOk cells = false := by rw [hs] at hok; exact hok
      go_enter Try.func77, Try.ntmps77
      go_wp2_with (first | (go_at_call 165; refine (iDelay_any _ _ _ _ _ H.out hA hn).mono ?_; rintro e w1 ⟨⟨v, rfl, ho⟩, hb1⟩; rw [hd]) | (go_at_call 37; refine (iSamplesOk_any _ _ _ _ (H.out.ext hb1) hm).mono ?_; rintro e w1 ⟨rfl, rfl⟩; rw [hs]))
      go_ret2
      exact ⟨⟨_, [], by rw [HE.out]; rfl, World.ownsRow_nil _ _ _ _, by rw [HE2.out]; rfl⟩, hb1⟩
  · have hs : samplesOk rs = true := (Bool.and_eq_true_iff.1 hok).1
    have hd : delayOk cells = true := (Bool.and_eq_true_iff.1 hok).2
    have HD := Lib.hid hd
    have HO := Lib.hid hok
    have HL := Lib.hid (delay_len (rs := rs) hd)
    go_enter Try.func77, Try.ntmps77
    go_wp2_with (first | (go_at_call 165; refine (iDelay_any _ _ _ _ _ H.out hA hn).mono ?_; rintro e w1 ⟨⟨v, rfl, ho⟩, hb1⟩; rw [hd]; unfold OF at ho; rw [HL.out] at ho; obtain ⟨A1, c1, rfl, -, -⟩ := own_slice ho) | (go_at_call 37; refine (iSamplesOk_any _ _ _ _ (H.out.ext hb1) hm).mono ?_; rintro e w1 ⟨rfl, rfl⟩; rw [hs]))
    clear h hok hs hd
    go_loopw [10, 11, 27] (fun p q i wr => ∃ (k : Nat) (gs : List Nat), k ≤ rs.length ∧ gs.length = k ∧ i = .int .i64 k ∧ wr.ownsRow w.heap.size 29 1 (.slice A1 rs.length c1) rs.length ((gs ++ (delay rs cells).drop k).map fl) ∧ Hid (cns gs = (echoAll rs cells x).take k) ∧ Ext w wr) (fun _ _ i _ => rs.length - (intOf i).toNat)
    case atStart => exact ⟨0, [], by omega, rfl, rfl, by simpa using ho, Lib.hid rfl, hb1⟩
    case round =>
      obtain ⟨k, gs, hk, hgl, rfl, ho', hcn, hb⟩ := hrel
      clear ho
      have HO' := Lib.hid ho'
      by_cases hlt : k < rs.length
      · obtain ⟨b0, off, rfl, hbw, hcell⟩ := rf_at (H.out.ext hb) hlt
        obtain ⟨g, rfl, hbg, hgs⟩ := own_at ho' (by omega)
        have hdl : k < (delay rs cells).length := by rw [HL.out]; exact hlt
        have hcell2 := own_cell ho' (j := k) (u := fl ((delay rs cells)[k]'hdl)) (by rw [List.getElem?_map, List.getElem?_append_right (by omega), hgl, Nat.sub_self]; simp [hdl])
        have hf := own_frozen ho' k
        clear ho'
        go_wp2_with (first | (with_reducible refine upon_mul ?_; intro m1 n1 hm1) | (with_reducible refine upon_add ?_; intro m2 n2 hm2))
        go_roundw
        case rel => exact ⟨k + 1, gs ++ [m2], hlt, by simp [hgl], by go_num, by rw [← set_at_len hgl hdl]; exact own_set HO'.out _, Lib.hid (cns_snoc hcn.out (by rw [echoAll_len]; exact hlt) (by rw [echoAll_at HD.out hlt, hm2, hm1])), by (repeat (first | exact Below.refl _ _ | assumption | refine below_drewN ?_ _ | refine Below.drew ?_ | refine Below.alloc ?_ (by first | exact Nat.le_refl _ | (simp; done) | (simp; omega)) _ | refine Below.setCell ?_ (by first | exact Nat.le_refl _ | (simp; done) | (simp; omega)) _))⟩
        case measure => simp [intOf]; omega
      · obtain rfl : k = rs.length := by omega
        have hcn2 : cns gs = echoAll rs cells x := by rw [hcn.out]; apply List.take_of_length_le; rw [echoAll_len]; exact Nat.le_refl _
        have HT : Hid (echoOk rs cells x = samplesOk gs) := Lib.hid (by unfold echoOk; rw [HO.out, Bool.true_and, samplesOk_of hcn2])
        have HC := Lib.hid hcn2
        clear hcn2
        have hgs : (gs ++ (delay rs cells).drop rs.length) = gs := by rw [List.drop_of_length_le (by rw [HL.out]; exact Nat.le_refl _), List.append_nil]
        rw [hgs] at ho'
        clear hgs HO'
        have hlo := iSamplesOk_any A1 c1 gs wr (own_rd ho') (by omega)
        rw [hgl] at hlo
        cases hlg : samplesOk gs
        · have HG := Lib.hid hlg
          go_wp2_with (go_at_call 37; refine hlo.mono ?_; rintro e w2 ⟨rfl, rfl⟩; rw [hlg])
          go_ret2
          exact ⟨⟨_, [], by rw [HT.out, HG.out]; rfl, World.ownsRow_nil _ _ _ _, by unfold echo; rw [HT.out, HG.out]; rfl⟩, hb⟩
        · have HG := Lib.hid hlg
          go_wp2_with (go_at_call 37; refine hlo.mono ?_; rintro e w2 ⟨rfl, rfl⟩; rw [hlg])
          go_ret2
          refine ⟨⟨.slice A1 rs.length c1, gs, by rw [HT.out, HG.out]; rfl, ?_, by unfold echo; rw [HT.out, HG.out, HC.out]; rfl⟩, hb⟩
          unfold OF
          rw [hgl]
          exact ho'

theorem snoc_own {w : World} {base : Nat} {v : Value} {k m : Nat} {gs : List Nat} {E : TypeId} (h : w.ownsRow base E 1 v (k + 1) (gs.map fl ++ #[Value.float .f32 m].toList)) : w.ownsRow base E 1 v (k + 1) ((gs ++ [m]).map fl) := by
  rw [List.map_append]; exact h
set_option maxRecDepth 100000 in
set_option maxHeartbeats 4000000 in
theorem sEcho_any (A : Option Addr) (c : Nat) (rs : List Nat) (cells : Int) (x : Nat) (w : World) (h : Rd w A (rs.map fl)) (hA : A = none → rs.length = 0) (hn : rs.length ≤ 1048576) :
    Calls Try.prog 76 #[.slice A rs.length c, .int .i64 cells, .float .f32 x] w fun e w' => (∃ v gs, e = .returned (.tuple #[v, .bool (echoOk rs cells x)]) ∧ OF w' w.heap.size v gs ∧ cns gs = echo rs cells x) ∧ Ext w w' := by
  have H := Lib.hid h
  have hm : rs.length ≤ maxLen := by unfold maxLen; omega
  have ha : Ext w (w.alloc (.cells #[] 29)) := (Ext.refl _).alloc _
  have hnew := own_new w w.heap.size 29 1 (Nat.le_refl _)
  cases hok : (samplesOk rs && delayOk cells)
  · have HE : Hid (echoOk rs cells x = false) := Lib.hid (by unfold echoOk; rw [hok]; rfl)
    have HE2 : Hid (echo rs cells x = []) := Lib.hid (by unfold echo; rw [HE.out]; rfl)
    cases hs : samplesOk rs
    · go_enter Try.func76, Try.ntmps76
      go_wp2_with (first | (go_at_call 164; refine (sDelay_any _ _ _ _ _ (H.out.ext ha) hA hn).mono ?_; rintro e w1 ⟨⟨v, rfl, ho⟩, hb1⟩) | (go_at_call 35; refine (sSamplesOk_any _ _ _ _ (H.out.ext (ha.trans hb1)) hm).mono ?_; rintro e w1 ⟨rfl, rfl⟩; rw [hs]))
      go_ret2
      exact ⟨⟨_, [], by rw [HE.out]; rfl, own_ext hnew hb1, by rw [HE2.out]; rfl⟩, ha.trans hb1⟩
    · have hd : delayOk cells = false := by rw [hs] at hok; exact hok
      go_enter Try.func76, Try.ntmps76
      go_wp2_with (first | (go_at_call 164; refine (sDelay_any _ _ _ _ _ (H.out.ext ha) hA hn).mono ?_; rintro e w1 ⟨⟨v, rfl, ho⟩, hb1⟩; rw [hd]) | (go_at_call 35; refine (sSamplesOk_any _ _ _ _ (H.out.ext (ha.trans hb1)) hm).mono ?_; rintro e w1 ⟨rfl, rfl⟩; rw [hs]))
      go_ret2
      exact ⟨⟨_, [], by rw [HE.out]; rfl, own_ext hnew hb1, by rw [HE2.out]; rfl⟩, ha.trans hb1⟩
  · have hs : samplesOk rs = true := (Bool.and_eq_true_iff.1 hok).1
    have hd : delayOk cells = true := (Bool.and_eq_true_iff.1 hok).2
    have HD := Lib.hid hd
    have HO := Lib.hid hok
    have HL := Lib.hid (delay_len (rs := rs) hd)
    go_enter Try.func76, Try.ntmps76
    go_wp2_with (first | (go_at_call 164; refine (sDelay_any _ _ _ _ _ (H.out.ext ha) hA hn).mono ?_; rintro e w1 ⟨⟨v, rfl, ho⟩, hb1⟩; rw [hd]; unfold OF at ho; rw [HL.out] at ho; have hi := own_in ho; obtain ⟨A1, c1, rfl, -, -⟩ := own_slice ho) | (go_at_call 35; refine (sSamplesOk_any _ _ _ _ (H.out.ext (ha.trans hb1)) hm).mono ?_; rintro e w1 ⟨rfl, rfl⟩; rw [hs]))
    replace hnew := own_ext hnew hb1
    have hin := own_in hnew
    have hb2 := ha.trans hb1
    clear h hok hs hd hb1 ha
    have h4 : 0 < rs.length := by have := HO.out; simp [samplesOk] at this; omega
    obtain ⟨g1, rfl, hg1, hg2⟩ := own_at ho h4
    have hr1 := own_rd ho
    have hg3 : w.heap.size < g1 := by have := hg1; simp at this; omega
    clear hi hin hg1 ho
    go_loopw [8, 11] (fun v i wr => ∃ (k : Nat) (gs : List Nat), k ≤ rs.length ∧ gs.length = k ∧ i = .int .i64 k ∧ wr.ownsRow w.heap.size 29 1 v k (gs.map fl) ∧ Rd wr (some ⟨g1, 0, none⟩) ((delay rs cells).map fl) ∧ v.ownBlock ≠ some g1 ∧ g1 < wr.heap.size ∧ Hid (cns gs = (echoAll rs cells x).take k) ∧ Ext w wr) (fun _ i _ => rs.length - (intOf i).toNat)
    case atStart => exact ⟨0, [], by omega, rfl, rfl, hnew, hr1, by simp [Value.ownBlock]; omega, hg2, Lib.hid rfl, hb2⟩
    case round =>
      obtain ⟨k, gs, hk, hgl, rfl, ho', hrd, hne, hgs, hcn, hb⟩ := hrel
      clear hnew hr1 hg2
      obtain ⟨A2, c2, rfl, -, -⟩ := own_slice ho'
      by_cases hlt : k < rs.length
      · obtain ⟨b0, off, rfl, hbw, hcell⟩ := rf_at (H.out.ext hb) hlt
        have hdl : k < (delay rs cells).length := by rw [HL.out]; exact hlt
        obtain ⟨b1, off1, he1, hbw1, hcell2⟩ := rf_at hrd hdl
        cases he1
        rw [Nat.zero_add] at hcell2
        generalize hdk : (delay rs cells)[k] = dk at hcell2
        have HDK := Lib.hid hdk
        clear hdk
        have hmul : ∀ W, (binOp .mul 29 (.float .f32 x) (.float .f32 dk)).run Try.prog W = .ok (.float .f32 (fbits W .mul .f32 x dk)) (W.drewN (fcnt .mul .f32 x dk)) := fun W => run_fop W .mul (by simp) _ _ _ _
        have hadd : ∀ W y, (binOp .add 29 (.float .f32 rs[k]) (.float .f32 y)).run Try.prog W = .ok (.float .f32 (fbits W .add .f32 rs[k] y)) (W.drewN (fcnt .add .f32 rs[k] y)) := fun W y => run_fop W .add (by simp) _ _ _ _
        go_wp2_with fail
        go_region_law (refine step_app rfl _ _ 22 rfl w.heap.size 29 _ 1 4 Try.underlying22 info_f32 rfl (by omega) (.slice A2 k c2) k (gs.map fl) rfl (own_ext ho' (by (repeat (first | exact Below.refl _ _ | assumption | refine below_drewN ?_ _ | refine Below.drew ?_ | refine Below.alloc ?_ (by first | exact Nat.le_refl _ | (simp; done) | (simp; omega)) _ | refine Below.setCell ?_ (by first | exact Nat.le_refl _ | (simp; done) | (simp; omega)) _)))) _ 1 1 _ rfl (rd_new _ _ _ _) rfl (fun h => by cases h) (by intro u hu; simp at hu; rcases hu with rfl; rfl) (by unfold maxLen; omega) (by omega) (by have := hb.size; simp; omega) ?_; intro v1 w2 hown hg hat)
        all_goals go_wp2
        all_goals go_roundw
        all_goals first | (simp [intOf]; done) | (simp [intOf]; omega) | skip
        all_goals (
          have hx : Ext wr wr := Ext.refl _
          refine ⟨k + 1, gs ++ [_], hlt, by simp [hgl], by go_num, snoc_own hown, Rd.grown (Rd.ext hrd (Ext.alloc (Ext.drewN _ _) _)) hg (fun ad h _ => by cases h; exact hne.symm), ?_, ?_, Lib.hid (cns_snoc hcn.out (by rw [echoAll_len]; exact hlt) (by rw [echoAll_at HD.out hlt, cn_fbits, cn_fbits, HDK.out])), ext_grow (base := w.heap.size) ((hb.trans (Ext.drewN _ _)).alloc _) (own_ext ho' (by (repeat (first | exact Below.refl _ _ | assumption | refine below_drewN ?_ _ | refine Below.drew ?_ | refine Below.alloc ?_ (by first | exact Nat.le_refl _ | (simp; done) | (simp; omega)) _ | refine Below.setCell ?_ (by first | exact Nat.le_refl _ | (simp; done) | (simp; omega)) _)))) (Nat.le_refl _) hg⟩
          · intro he
            rcases hat with h | h
            · exact hne (h.symm.trans he)
            · rw [h] at he
              simp at he
              omega
          · have := hg.size
            simp at this
            omega)
      · obtain rfl : k = rs.length := by omega
        have hcn2 : cns gs = echoAll rs cells x := by rw [hcn.out]; apply List.take_of_length_le; rw [echoAll_len]; exact Nat.le_refl _
        have HT : Hid (echoOk rs cells x = samplesOk gs) := Lib.hid (by unfold echoOk; rw [HO.out, Bool.true_and, samplesOk_of hcn2])
        have HC := Lib.hid hcn2
        clear hcn2
        have hlo := sSamplesOk_any A2 c2 gs wr (own_rd ho') (by omega)
        rw [hgl] at hlo
        cases hlg : samplesOk gs
        · have HG := Lib.hid hlg
          go_wp2_with (go_at_call 35; refine hlo.mono ?_; rintro e w2 ⟨rfl, rfl⟩; rw [hlg])
          go_ret2
          exact ⟨⟨_, [], by rw [HT.out, HG.out]; rfl, own_new wr _ _ 1 hb.size, by unfold echo; rw [HT.out, HG.out]; rfl⟩, hb.alloc _⟩
        · have HG := Lib.hid hlg
          go_wp2_with (go_at_call 35; refine hlo.mono ?_; rintro e w2 ⟨rfl, rfl⟩; rw [hlg])
          go_ret2
          refine ⟨⟨.slice A2 rs.length c2, gs, by rw [HT.out, HG.out]; rfl, ?_, by unfold echo; rw [HT.out, HG.out, HC.out]; rfl⟩, hb⟩
          unfold OF
          rw [hgl]
          exact ho'
end Go.Proofs.Ytiddaabodkglmaa
