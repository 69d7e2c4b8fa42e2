import Derived.Test.YtiddaabodkglmaaEe
import Derived.Test.YtiddaabodkglmaaK6
namespace Go.Fx
open Go.RowKit
set_option linter.unusedVariables false
theorem drawn_take {bk c p : Nat} {w : World} {A : Option Addr} {gs : List Nat} (h : Drawn bk w A c gs) : Drawn bk w A c (gs.take p) := by
  refine ⟨?_, fun hA => by rw [List.length_take, h.2.1 hA]; simp, by have := h.2.2.1; rw [List.length_take]; omega, h.2.2.2⟩
  rcases h.1 with h0 | ⟨b, off, hA, hb, hc⟩
  · have : gs = [] := by simpa using h0
    subst this; exact .inl (by simp)
  · refine .inr ⟨b, off, hA, hb, fun j u hu => hc j u ?_⟩
    rw [List.map_take, List.getElem?_take] at hu
    split at hu
    · exact hu
    · cases hu
end Go.Fx
namespace Go.Proofs.Ytiddaabodkglmaa
open Go.RowKit Go.Fx
set_option linter.unusedVariables false
set_option linter.unusedSimpArgs false
set_option maxRecDepth 100000 in
set_option maxHeartbeats 4000000 in
theorem cells_any (bk : Nat) (n : Int) (w : World) (h : Cu w bk) (h0 : 0 ≤ n) (hn : n ≤ 70) :
    Calls Try.prog 222 #[.pointer (some ⟨bk, 0, none⟩), .int .i64 n] w fun e w' => (∃ v row, e = .returned v ∧ OC w' w.heap.size v row ∧ (row.length : Int) = n) ∧ CuT bk w w' := by
  have hz := h.size
  have ha : Ext w (w.alloc (.cells #[] 90)) := (Ext.refl _).alloc _
  have hnew := own_new w w.heap.size 90 2 (Nat.le_refl _)
  go_enter Try.func222, Try.ntmps222
  go_wp2_with fail
  refine (cell_any bk _ (h.ext ha)).mono ?_
  rintro e w1 ⟨⟨d0, rfl⟩, hc1⟩
  replace hnew := own_up hnew hc1.2 hz
  have hcc := (CuT.ext (CuT.refl h) ha).trans hc1
  have hw1 : w.heap.size < w1.heap.size := by have := hc1.size; simp at this; omega
  clear hc1 ha
  have hal : Ext w1 (w1.alloc (.cells #[.float .f32 d0.y, .complex .f32 d0.re d0.im] 90)) := (Ext.refl _).alloc _
  go_wp2_with fail
  go_loopw [1, 5] (fun m v wr => ∃ (j : Nat) (row : List Cel) (d : Cel), (j : Int) ≤ n ∧ m = .int .i64 (n - j) ∧ row.length = j ∧ wr.ownsRow w.heap.size 90 2 v j (ccells row) ∧ v.ownBlock ≠ some w1.heap.size ∧ Hid (wr.heap[w1.heap.size]? = some (.cells #[.float .f32 d.y, .complex .f32 d.re d.im] 90 (0, 0))) ∧ CuT bk w wr) (fun m _ _ => (intOf m).toNat)
  case atStart =>
    exact ⟨0, [], d0, by omega, by simp, rfl, own_ext hnew hal, by simp [Value.ownBlock]; omega, Lib.hid (heap_alloc_new w1 _), hcc.ext hal⟩
  case round =>
    obtain ⟨j, row, d, hj, rfl, hrl, ho, hne, HK, hcr⟩ := hrel
    clear hnew hcc hal
    obtain ⟨A1, c1, rfl, -, -⟩ := own_slice ho
    have hup : bk + 1 ≤ w1.heap.size := by omega
    by_cases hlt : (j : Int) < n
    · go_wp2_with fail
      refine (once_any bk 3 _ hcr.1 (by omega)).mono ?_
      rintro e w3 ⟨⟨q, rfl⟩, hc3⟩
      have kb := blk_turn HK.out hc3.2 hup
      replace ho := own_up ho hc3.2 hz
      have hc4 := hcr.trans hc3
      clear hcr hc3 HK
      cases q
      · go_wp2_with fail
        refine (cell_any bk _ hc4.1).mono ?_
        rintro e w5 ⟨⟨d2, rfl⟩, hc5⟩
        replace kb := blk_turn kb hc5.2 hup
        replace ho := own_up ho hc5.2 hz
        have hc6 := hc4.trans hc5
        clear hc4 hc5
        have HO := Lib.hid (own_other (p := ⟨w1.heap.size, 1, none⟩) (own_other (p := ⟨w1.heap.size, 0, none⟩) ho (fun b hb e => hne (by rw [hb, e])) (.float .f32 d2.y)) (fun b hb e => hne (by rw [hb, e])) (.complex .f32 d2.re d2.im))
        have HK : Hid (((w5.setCell ⟨w1.heap.size, 0, none⟩ (.float .f32 d2.y)).setCell ⟨w1.heap.size, 1, none⟩ (.complex .f32 d2.re d2.im)).heap[w1.heap.size]? = some (.cells #[.float .f32 d2.y, .complex .f32 d2.re d2.im] 90 (0, 0))) := Lib.hid (by
          have h1 := blk_set (blk_set kb 0 (.float .f32 d2.y)) 1 (.complex .f32 d2.re d2.im)
          rw [h1]; simp)
        have HC := Lib.hid (CuT.below hc6 (Below.setCell (p := ⟨w1.heap.size, 1, none⟩) (Below.setCell (p := ⟨w1.heap.size, 0, none⟩) (Below.refl w.heap.size w5) (Nat.le_of_lt hw1) (.float .f32 d2.y)) (Nat.le_of_lt hw1) (.complex .f32 d2.re d2.im)) hz)
        have hw5 : w1.heap.size < w5.heap.size := (Array.getElem?_eq_some_iff.1 kb).1
        obtain ⟨kc0, kc1, kf⟩ := blk2 kb
        clear ho hc6 kb
        go_wp2_with (at_builtin; refine wpList_app rfl _ _ 43 rfl w.heap.size 90 _ 2 12 Try.underlying43 info_cell rfl (by omega) (.slice A1 j c1) j (ccells row) rfl (own_ext HO.out (by (repeat (first | exact Below.refl _ _ | assumption | refine below_drewN ?_ _ | refine Below.drew ?_ | refine Below.alloc ?_ (by first | exact Nat.le_refl _ | (simp; done) | (simp; omega)) _ | refine Below.setCell ?_ (by first | exact Nat.le_refl _ | (simp; done) | (simp; omega)) _)))) _ 1 1 _ rfl (rd_at (by simp [World.setCell])) rfl (fun h => by cases h) (by intro u hu; simp at hu; rcases hu with rfl | rfl <;> rfl) (by unfold maxLen; omega) (by omega) (HC.out.ext (by (repeat (first | exact Below.refl _ _ | assumption | refine below_drewN ?_ _ | refine Below.drew ?_ | refine Below.alloc ?_ (by first | exact Nat.le_refl _ | (simp; done) | (simp; omega)) _ | refine Below.setCell ?_ (by first | exact Nat.le_refl _ | (simp; done) | (simp; omega)) _)))).size ?_; intro v1 w7 hown hg hat)
        go_roundw
        case rel => exact ⟨j + 1, row ++ [d2], d2, by omega, by go_num, by simp [hrl], by simpa [snoc2] using hown, own_ne hat hne (by simp [World.setCell]; omega), Lib.hid (blk_past (blk_alloc HK.out) hg (fun e => hne e.symm)), CuT.grow (HC.out.ext ((Ext.refl _).alloc _)) (own_ext HO.out ((Ext.refl _).alloc _)) (Nat.le_refl _) hg hz⟩
        case measure => simp [intOf]; omega
      · have HK := Lib.hid kb
        have hw5 : w1.heap.size < w3.heap.size := (Array.getElem?_eq_some_iff.1 kb).1
        obtain ⟨kc0, kc1, kf⟩ := blk2 kb
        clear kb
        go_wp2_with (at_builtin; refine wpList_app rfl _ _ 43 rfl w.heap.size 90 _ 2 12 Try.underlying43 info_cell rfl (by omega) (.slice A1 j c1) j (ccells row) rfl (own_ext ho (by (repeat (first | exact Below.refl _ _ | assumption | refine below_drewN ?_ _ | refine Below.drew ?_ | refine Below.alloc ?_ (by first | exact Nat.le_refl _ | (simp; done) | (simp; omega)) _ | refine Below.setCell ?_ (by first | exact Nat.le_refl _ | (simp; done) | (simp; omega)) _)))) _ 1 1 _ rfl (rd_new _ _ _ _) rfl (fun h => by cases h) (by intro u hu; simp at hu; rcases hu with rfl | rfl <;> rfl) (by unfold maxLen; omega) (by omega) (hc4.ext (by (repeat (first | exact Below.refl _ _ | assumption | refine below_drewN ?_ _ | refine Below.drew ?_ | refine Below.alloc ?_ (by first | exact Nat.le_refl _ | (simp; done) | (simp; omega)) _ | refine Below.setCell ?_ (by first | exact Nat.le_refl _ | (simp; done) | (simp; omega)) _)))).size ?_; intro v1 w7 hown hg hat)
        go_roundw
        case rel => exact ⟨j + 1, row ++ [d], d, by omega, by go_num, by simp [hrl], by simpa [snoc2] using hown, own_ne hat hne (by simp; omega), Lib.hid (blk_past (blk_alloc HK.out) hg (fun e => hne e.symm)), CuT.grow (hc4.ext ((Ext.refl _).alloc _)) (own_ext ho ((Ext.refl _).alloc _)) (Nat.le_refl _) hg hz⟩
        case measure => simp [intOf]; omega
    · go_wp2_with fail
      go_ret
      refine ⟨⟨.slice A1 j c1, rfl, row, ?_, by omega⟩, hcr⟩
      unfold OC
      rw [hrl]
      exact ho
set_option maxRecDepth 100000 in
set_option maxHeartbeats 4000000 in
theorem any_any (bk : Nat) (w : World) (h : Cu w bk) :
    Calls Try.prog 221 #[.pointer (some ⟨bk, 0, none⟩)] w fun e w' => (∃ v row, e = .returned v ∧ OC w' w.heap.size v row ∧ row.length ≤ 65) ∧ CuT bk w w' := by
  go_enter Try.func221, Try.ntmps221
  go_wp2_with fail
  refine (below_any bk 5 _ h (by omega)).mono ?_
  rintro e w1 ⟨⟨x, rfl, hx0, hx1, -⟩, hc1⟩
  have hx2 := hx1 (by omega)
  go_wp2_with fail
  refine (once_any bk 25 _ hc1.1 (by omega)).mono ?_
  rintro e w2 ⟨⟨q, rfl⟩, hc2⟩
  have hc := hc1.trans hc2
  clear hc1 hc2
  have hz := hc.1.size
  cases q
  · go_wp2_with fail
    refine (cells_any bk (1 + x) _ hc.1 (by omega) (by omega)).mono ?_
    rintro e w3 ⟨⟨v, row, rfl, ho, hl⟩, hc3⟩
    go_wp2_with fail
    go_ret
    exact ⟨⟨v, row, rfl, own_base ho hc.size, by omega⟩, hc.trans hc3⟩
  · go_wp2_with fail
    refine (pick_any bk (some ⟨w2.heap.size, 0, none⟩) 3 [0, 64, 65] _ (hc.1.ext ((Ext.refl _).alloc _)) (rd_new _ _ _ _) (fun a ha => by cases ha; exact hz) (by simp) (by simp)).mono ?_
    rintro e w3 ⟨⟨y, hy, rfl⟩, hc3⟩
    have hy2 : 0 ≤ y ∧ y ≤ 65 := by simp at hy; omega
    have hcc := (hc.ext ((Ext.refl _).alloc _)).trans hc3
    go_wp2_with fail
    refine (cells_any bk y _ hcc.1 (by omega) (by omega)).mono ?_
    rintro e w4 ⟨⟨v, row, rfl, ho, hl⟩, hc4⟩
    go_wp2_with fail
    go_ret
    exact ⟨⟨v, row, rfl, own_base ho hcc.size, by omega⟩, hcc.trans hc4⟩
end Go.Proofs.Ytiddaabodkglmaa
