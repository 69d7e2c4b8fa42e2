import Derived.Test.YtiddaabodkglmaaGreatK2
import Derived.Test.YtiddaabodkglmaaGreatK1
namespace Go.Proofs.YtiddaabodkglmaaGreat
open Go.RowKit Go.Fx
set_option linter.unusedVariables false
set_option linter.unusedSimpArgs false
theorem c64 : cn .f32 1115684864 = 1115684864 := by decide +kernel
set_option maxRecDepth 100000 in
set_option maxHeartbeats 1000000 in
theorem iToLevel_any (A : Option Addr) (c : Nat) (rs : List Nat) (w : World) (h : Rd w A (rs.map fl)) (hn : rs.length ≤ maxLen) (hc : rs.length ≤ c) :
    Calls Tryz.prog 28 #[.slice A rs.length c] w fun e w' => (∃ v gs, e = .returned (.tuple #[v, .bool (tlOk rs)]) ∧ OF w' w.heap.size v gs ∧ cns gs = tl rs) ∧ Ext w w' := by
  have H := Lib.hid h
  clear h
  have HN := Lib.hid hn
  cases hlv : levelsOk rs
  · have HT : Hid (tlOk rs = false) := Lib.hid (by unfold tlOk; rw [hlv]; rfl)
    have HT2 : Hid (tl rs = []) := Lib.hid (by unfold tl; rw [HT.out]; rfl)
    go_enter Tryz.func28, Tryz.ntmps28
    go_wp2_with (go_at_call 57; refine (iLevels_any _ _ _ _ H.out hn hc).mono ?_; rintro e w1 ⟨⟨p, b, rfl, -, -⟩, hb1⟩; rw [hlv])
    go_ret2
    exact ⟨⟨_, [], by rw [HT.out]; rfl, World.ownsRow_nil _ _ _ _, by rw [HT2.out]; rfl⟩, hb1⟩
  · have hl : lineOk rs = true := by unfold levelsOk at hlv; exact (Bool.and_eq_true_iff.1 hlv).1
    obtain ⟨l1, l2, l3, l4⟩ := lineOk_len hl
    go_enter Tryz.func28, Tryz.ntmps28
    go_wp2_with (first | (go_at_call 57; refine (iLevels_any _ _ _ _ H.out hn hc).mono ?_; rintro e w1 ⟨⟨p, b, rfl, ht, -⟩, hb1⟩; rw [hlv]; obtain ⟨hp, hq⟩ := ht hlv; clear ht) | (with_reducible refine upon_sub ?_; intro d n1 hd) | (with_reducible refine upon_quo ?_; intro q n2 hk))
    have HK : Hid (cn .f32 q = quo32 1115684864 (sub32 (lvBlack rs) (lvPulse rs))) := Lib.hid (by rw [hk, hd, c64, hp, hq])
    have HQ := Lib.hid hq
    have hb2 : Ext w (w1.drewN (n1 + n2)) := hb1.trans (Ext.drewN _ _)
    have HL := Lib.hid hlv
    clear hk hd hp hq hb1 hlv
    go_loopw [8, 10, 25] (fun v u i wr => ∃ (k : Nat) (gs : List Nat), k ≤ rs.length ∧ gs.length = k ∧ i = .int .i64 k ∧ OF wr w.heap.size v gs ∧ Hid (cns gs = (tlAll rs).take k) ∧ Ext w wr) (fun _ _ i _ => rs.length - (intOf i).toNat)
    case atStart => exact ⟨0, [], by omega, rfl, rfl, World.ownsRow_nil _ _ _ _, Lib.hid rfl, hb2⟩
    case round =>
      obtain ⟨k, gs, hk, hgl, rfl, ho, hcn, hb⟩ := hrel
      unfold OF at ho
      rw [hgl] at ho
      obtain ⟨A1, c1, rfl, -, -⟩ := own_slice ho
      by_cases hlt : k < rs.length
      · obtain ⟨b0, off, rfl, hbw, hcell⟩ := rf_at (H.out.ext hb) hlt
        go_wp2_with (first | (with_reducible refine upon_sub ?_; intro d n1 hd) | (with_reducible refine upon_mul ?_; intro m n2 hm) | (at_builtin; refine wpList_app rfl _ _ 26 rfl w.heap.size 22 _ 1 4 Tryz.underlying26 info_f32 rfl (by omega) (.slice A1 k c1) k (gs.map fl) rfl (own_ext ho (by (repeat (first | exact Below.refl _ _ | assumption | refine below_drewN ?_ _ | refine Below.drew ?_ | refine Below.alloc ?_ (by first | exact Nat.le_refl _ | (simp; done) | (simp; omega)) _ | refine Below.setCell ?_ (by first | exact Nat.le_refl _ | (simp; done) | (simp; omega)) _)))) _ 1 1 _ rfl (rd_new _ _ _ _) rfl (fun h => by cases h) (by intro u hu; simp at hu; rcases hu with rfl; rfl) (by unfold maxLen; omega) (by omega) (by have := hb.size; simp; omega) ?_; intro v1 w2 hown hg hat))
        go_roundw
        case rel => exact ⟨k + 1, gs ++ [m], hlt, by simp [hgl], by go_num, by unfold OF; simpa [hgl] using hown, Lib.hid (cns_snoc hcn.out (by simpa [tlAll] using hlt) (by simp only [tlAll, List.getElem_map, tl1]; rw [hm, HK.out, hd, HQ.out])), ext_grow (base := w.heap.size) ((hb.trans (Ext.drewN _ _)).alloc _) (own_ext ho (by (repeat (first | exact Below.refl _ _ | assumption | refine below_drewN ?_ _ | refine Below.drew ?_ | refine Below.alloc ?_ (by first | exact Nat.le_refl _ | (simp; done) | (simp; omega)) _ | refine Below.setCell ?_ (by first | exact Nat.le_refl _ | (simp; done) | (simp; omega)) _)))) (Nat.le_refl _) hg⟩
        case measure => simp [intOf]; omega
      · obtain rfl : k = rs.length := by omega
        have hcn2 : cns gs = tlAll rs := by rw [hcn.out]; apply List.take_of_length_le; simp [tlAll]
        have HT : Hid (tlOk rs = lineOk gs) := Lib.hid (by unfold tlOk; rw [HL.out, Bool.true_and, lineOk_of hcn2])
        have HC := Lib.hid hcn2
        clear hcn2
        have hlo := iLineOk_any A1 c1 gs wr (by have := (own_rd ho); exact this) (by omega)
        rw [hgl] at hlo
        cases hlg : lineOk gs
        · have HG := Lib.hid hlg
          go_wp2_with (go_at_call 58; refine hlo.mono ?_; rintro e w2 ⟨rfl, rfl⟩; rw [hlg])
          go_ret2
          exact ⟨⟨_, [], by rw [HT.out, HG.out]; rfl, World.ownsRow_nil _ _ _ _, by unfold tl; rw [HT.out, HG.out]; rfl⟩, hb⟩
        · have HG := Lib.hid hlg
          go_wp2_with (go_at_call 58; refine hlo.mono ?_; rintro e w2 ⟨rfl, rfl⟩; rw [hlg])
          go_ret2
          refine ⟨⟨.slice A1 rs.length c1, gs, by rw [HT.out, HG.out]; rfl, ?_, by unfold tl; rw [HT.out, HG.out, HC.out]; rfl⟩, hb⟩
          unfold OF
          rw [hgl]
          exact ho
set_option maxRecDepth 100000 in
set_option maxHeartbeats 1000000 in
theorem sToLevel_any (A : Option Addr) (c : Nat) (rs : List Nat) (w : World) (h : Rd w A (rs.map fl)) (hn : rs.length ≤ maxLen) (hc : rs.length ≤ c) :
    Calls Tryz.prog 21 #[.slice A rs.length c] w fun e w' => (∃ v gs, e = .returned (.tuple #[v, .bool (tlOk rs)]) ∧ OF w' w.heap.size v gs ∧ cns gs = tl rs) ∧ Ext w w' := by
  have H := Lib.hid h
  clear h
  have HN := Lib.hid hn
  cases hlv : levelsOk rs
  · have HT : Hid (tlOk rs = false) := Lib.hid (by unfold tlOk; rw [hlv]; rfl)
    have HT2 : Hid (tl rs = []) := Lib.hid (by unfold tl; rw [HT.out]; rfl)
    go_enter Tryz.func21, Tryz.ntmps21
    go_wp2_with (go_at_call 40; refine (sLevels_any _ _ _ _ (H.out.ext ((Ext.refl _).alloc _)) hn hc).mono ?_; rintro e w1 ⟨⟨p, b, rfl, -, -⟩, hb1⟩; rw [hlv]; have hnew := own_ext (own_new w w.heap.size 22 1 (Nat.le_refl _)) hb1; replace hb1 := Ext.trans ((Ext.refl _).alloc _) hb1)
    go_ret2
    exact ⟨⟨_, [], by rw [HT.out]; rfl, hnew, by rw [HT2.out]; rfl⟩, hb1⟩
  · have hl : lineOk rs = true := by unfold levelsOk at hlv; exact (Bool.and_eq_true_iff.1 hlv).1
    obtain ⟨l1, l2, l3, l4⟩ := lineOk_len hl
    go_enter Tryz.func21, Tryz.ntmps21
    go_wp2_with (first | (go_at_call 40; refine (sLevels_any _ _ _ _ (H.out.ext ((Ext.refl _).alloc _)) hn hc).mono ?_; rintro e w1 ⟨⟨p, b, rfl, ht, -⟩, hb1⟩; rw [hlv]; have hnew := own_ext (own_new w w.heap.size 22 1 (Nat.le_refl _)) hb1; replace hb1 := Ext.trans ((Ext.refl _).alloc _) hb1; obtain ⟨hp, hq⟩ := ht hlv; clear ht) | (with_reducible refine upon_sub ?_; intro d n1 hd) | (with_reducible refine upon_quo ?_; intro q n2 hk))
    have HK : Hid (cn .f32 q = quo32 1115684864 (sub32 (lvBlack rs) (lvPulse rs))) := Lib.hid (by rw [hk, hd, c64, hp, hq])
    have HQ := Lib.hid hq
    have hb2 : Ext w (w1.drewN (n1 + n2)) := hb1.trans (Ext.drewN _ _)
    have HL := Lib.hid hlv
    clear hk hd hp hq hb1 hlv
    go_loopw [4, 10, 9] (fun v u i wr => ∃ (k : Nat) (gs : List Nat), k ≤ rs.length ∧ gs.length = k ∧ i = .int .i64 k ∧ OF wr w.heap.size v gs ∧ Hid (cns gs = (tlAll rs).take k) ∧ Ext w wr) (fun _ _ i _ => rs.length - (intOf i).toNat)
    case atStart => exact ⟨0, [], by omega, rfl, rfl, own_ext hnew (Ext.drewN _ _), Lib.hid rfl, hb2⟩
    case round =>
      obtain ⟨k, gs, hk, hgl, rfl, ho, hcn, hb⟩ := hrel
      unfold OF at ho
      rw [hgl] at ho
      obtain ⟨A1, c1, rfl, -, -⟩ := own_slice ho
      by_cases hlt : k < rs.length
      · obtain ⟨b0, off, rfl, hbw, hcell⟩ := rf_at (H.out.ext hb) hlt
        go_wp2_with (first | (with_reducible refine upon_sub ?_; intro d n1 hd) | (with_reducible refine upon_mul ?_; intro m n2 hm) | (at_builtin; refine wpList_app rfl _ _ 26 rfl w.heap.size 22 _ 1 4 Tryz.underlying26 info_f32 rfl (by omega) (.slice A1 k c1) k (gs.map fl) rfl (own_ext ho (by (repeat (first | exact Below.refl _ _ | assumption | refine below_drewN ?_ _ | refine Below.drew ?_ | refine Below.alloc ?_ (by first | exact Nat.le_refl _ | (simp; done) | (simp; omega)) _ | refine Below.setCell ?_ (by first | exact Nat.le_refl _ | (simp; done) | (simp; omega)) _)))) _ 1 1 _ rfl (rd_new _ _ _ _) rfl (fun h => by cases h) (by intro u hu; simp at hu; rcases hu with rfl; rfl) (by unfold maxLen; omega) (by omega) (by have := hb.size; simp; omega) ?_; intro v1 w2 hown hg hat))
        go_roundw
        case rel => exact ⟨k + 1, gs ++ [m], hlt, by simp [hgl], by go_num, by unfold OF; simpa [hgl] using hown, Lib.hid (cns_snoc hcn.out (by simpa [tlAll] using hlt) (by simp only [tlAll, List.getElem_map, tl1]; rw [hm, HK.out, hd, HQ.out, fop_mul_comm])), ext_grow (base := w.heap.size) ((hb.trans (Ext.drewN _ _)).alloc _) (own_ext ho (by (repeat (first | exact Below.refl _ _ | assumption | refine below_drewN ?_ _ | refine Below.drew ?_ | refine Below.alloc ?_ (by first | exact Nat.le_refl _ | (simp; done) | (simp; omega)) _ | refine Below.setCell ?_ (by first | exact Nat.le_refl _ | (simp; done) | (simp; omega)) _)))) (Nat.le_refl _) hg⟩
        case measure => simp [intOf]; omega
      · obtain rfl : k = rs.length := by omega
        have hcn2 : cns gs = tlAll rs := by rw [hcn.out]; apply List.take_of_length_le; simp [tlAll]
        have HT : Hid (tlOk rs = lineOk gs) := Lib.hid (by unfold tlOk; rw [HL.out, Bool.true_and, lineOk_of hcn2])
        have HC := Lib.hid hcn2
        clear hcn2
        have hlo := sLineOk_any A1 c1 gs wr (by have := (own_rd ho); exact this) (by omega)
        rw [hgl] at hlo
        cases hlg : lineOk gs
        · have HG := Lib.hid hlg
          go_wp2_with (go_at_call 41; refine hlo.mono ?_; rintro e w2 ⟨rfl, rfl⟩; rw [hlg])
          go_ret2
          exact ⟨⟨_, [], by rw [HT.out, HG.out]; rfl, own_new wr _ _ 1 hb.size, by unfold tl; rw [HT.out, HG.out]; rfl⟩, hb.alloc _⟩
        · have HG := Lib.hid hlg
          go_wp2_with (go_at_call 41; refine hlo.mono ?_; rintro e w2 ⟨rfl, rfl⟩; rw [hlg])
          go_ret2
          refine ⟨⟨.slice A1 rs.length c1, gs, by rw [HT.out, HG.out]; rfl, ?_, by unfold tl; rw [HT.out, HG.out, HC.out]; rfl⟩, hb⟩
          unfold OF
          rw [hgl]
          exact ho
end Go.Proofs.YtiddaabodkglmaaGreat
