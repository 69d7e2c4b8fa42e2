import Derived.Test.YtfmghfghhipmhaaDoorUb
import Derived.Test.YtfmghfghhipmhaaDoorTs
namespace Go.Proofs.YtfmghfghhipmhaaDoor
open Go.RowKit Go.Fx Go.Sort
set_option linter.unusedVariables false
set_option linter.unusedSimpArgs false
set_option maxRecDepth 100000 in
set_option maxHeartbeats 8000000 in
theorem report_walk (s : TS) (A : Option Addr) (c : Nat) (w : World) (E : Env w) (h : Rd w A (s.log.map st)) (hn : s.log.length ≤ maxLen) (hs : ∀ x ∈ s.log, x.size ≤ maxLen) :
    Calls Tryd.prog 3 #[setT s (.slice A s.log.length c)] w fun e w' => e = .returned (.bool true) ∧ Ext w w' := by
  have H := Lib.hid h
  have HN := Lib.hid hn
  have HS := Lib.hid hs
  have HE := Lib.hid E
  clear h hn hs E
  go_enter Tryd.func3, Tryd.ntmps3
  have hB0 : Ext w w := Ext.refl w
  go_wp2_with fail
  refine (szSet_any s.cells s.rows s.slice s.least s.sat A c s.log _ _ (H.out.ext (Ext.trans hB0 ((Ext.refl _).alloc _))) HN.out HS.out (by omega) (by omega)).mono ?_
  rintro e w1 ⟨⟨r, rfl, hr1, hr2⟩, hb1⟩
  have kb0 : w1.heap[w.heap.size]? = some (.cells #[.int .i64 s.cells, .int .i64 s.rows, .float .f32 s.slice, .float .f32 s.least, .float .f32 s.sat, .slice A s.log.length c] 25 (0, 0)) := blk_ext (heap_alloc_new _ _) hb1
  have hp1 : Ext w (w.alloc (.cells #[.int .i64 s.cells, .int .i64 s.rows, .float .f32 s.slice, .float .f32 s.least, .float .f32 s.sat, .slice A s.log.length c] 25)) := (Ext.refl _).alloc _
  have hq1 : w.heap.size < w1.heap.size := by have h9 := hb1.size; rw [size_alloc1] at h9; omega
  replace hb1 : Ext w w1 := Ext.trans hp1 hb1
  clear hp1
  have hz1 := size_alloc1 w (.cells #[.int .i64 s.cells, .int .i64 s.rows, .float .f32 s.slice, .float .f32 s.least, .float .f32 s.sat, .slice A s.log.length c] 25)
  have hs1 := ext_size hb1
  have hB1 := Ext.trans hB0 hb1
  by_cases hr : r < 0
  · go_wp2_with fail
    go_ret
    exact ⟨rfl, hB1⟩
  have hn0 : s.log.length ≤ 1048576 := by have := hr2 (by omega); omega
  clear hr2
  have hl64 : (s.log.length : Int) ≤ 1048576 := by omega
  obtain ⟨O, hO⟩ : ∃ O, ba (report s) = O := ⟨_, rfl⟩
  have HI : Hid (∀ (A : Option Addr) (c : Nat) (W : World), Env W → Calls Tryd.prog 13 #[setT s (.slice A s.log.length c)] W fun e w' => e = .returned (.string O) ∧ Ext W w') := Lib.hid (fun A c W e => by have h := iReport_any s A c hn0 W e; rw [hO] at h; exact h)
  have HJ : Hid (∀ (A : Option Addr) (c : Nat) (W : World), Calls Tryd.prog 11 #[setT s (.slice A s.log.length c)] W fun e w' => e = .returned (.string O) ∧ Ext W w') := Lib.hid (fun A c W => by have h := sReport_any s A c hn0 W; rw [hO] at h; exact h)
  clear hO
  have fkb0 := kb0
  obtain ⟨pkb0c0, pkb0c1, pkb0c2, pkb0c3, pkb0c4, pkb0c5, pkb0f⟩ := blk6 fkb0
  clear fkb0
  go_wp2_with fail
  refine (toSet_any s.cells s.rows s.slice s.least s.sat A c s.log _ (H.out.ext hB1) hn0).mono ?_
  rintro e w2 ⟨⟨v1, rfl, o1⟩, hb2⟩
  clear pkb0c0 pkb0c1 pkb0c2 pkb0c3 pkb0c4 pkb0c5 pkb0f
  have hs2 := ext_size hb2
  have hB2 := Ext.trans hB1 hb2
  replace kb0 := blk_ext kb0 hb2
  have io1 := own_in o1
  obtain ⟨Av1, cv1, rfl, -, zv1⟩ := own_slice o1
  go_wp2_with fail
  refine (HJ.out Av1 cv1 _).mono ?_
  rintro e w3 ⟨rfl, hb3⟩
  have hs3 := ext_size hb3
  have hB3 := Ext.trans hB2 hb3
  replace o1 := own_ext o1 hb3
  replace kb0 := blk_ext kb0 hb3
  have fkb0 := kb0
  obtain ⟨pkb0c0, pkb0c1, pkb0c2, pkb0c3, pkb0c4, pkb0c5, pkb0f⟩ := blk6 fkb0
  clear fkb0
  go_wp2_with fail
  refine (toSet_any s.cells s.rows s.slice s.least s.sat A c s.log _ (H.out.ext hB3) hn0).mono ?_
  rintro e w4 ⟨⟨v2, rfl, o2⟩, hb4⟩
  clear pkb0c0 pkb0c1 pkb0c2 pkb0c3 pkb0c4 pkb0c5 pkb0f
  have hs4 := ext_size hb4
  have hB4 := Ext.trans hB3 hb4
  replace o1 := own_ext o1 hb4
  replace kb0 := blk_ext kb0 hb4
  have io2 := own_in o2
  obtain ⟨Av2, cv2, rfl, -, zv2⟩ := own_slice o2
  go_wp2_with fail
  refine (HI.out Av2 cv2 _ (HE.out.ext (Ext.trans hB4 ((Ext.refl _).alloc _)))).mono ?_
  rintro e w5 ⟨rfl, hb5⟩
  have kb8 : w5.heap[w4.heap.size]? = some (.cells #[.int .i64 s.cells, .int .i64 s.rows, .float .f32 s.slice, .float .f32 s.least, .float .f32 s.sat, .slice Av2 s.log.length cv2] 28 (0, 0)) := blk_ext (heap_alloc_new _ _) hb5
  have hp5 : Ext w4 (w4.alloc (.cells #[.int .i64 s.cells, .int .i64 s.rows, .float .f32 s.slice, .float .f32 s.least, .float .f32 s.sat, .slice Av2 s.log.length cv2] 28)) := (Ext.refl _).alloc _
  have hq5 : w4.heap.size < w5.heap.size := by have h9 := hb5.size; rw [size_alloc1] at h9; omega
  replace hb5 : Ext w4 w5 := Ext.trans hp5 hb5
  clear hp5
  have hz5 := size_alloc1 w4 (.cells #[.int .i64 s.cells, .int .i64 s.rows, .float .f32 s.slice, .float .f32 s.least, .float .f32 s.sat, .slice Av2 s.log.length cv2] 28)
  have hs5 := ext_size hb5
  have hB5 := Ext.trans hB4 hb5
  replace o1 := own_ext o1 hb5
  replace o2 := own_ext o2 hb5
  replace kb0 := blk_ext kb0 hb5
  have KR : Hid (∀ W, Ext w5 W → W.cell? ⟨w4.heap.size, 0, none⟩ = some (.int .i64 s.cells) ∧ W.cell? ⟨w4.heap.size, 1, none⟩ = some (.int .i64 s.rows) ∧ W.cell? ⟨w4.heap.size, 2, none⟩ = some (.float .f32 s.slice) ∧ W.cell? ⟨w4.heap.size, 3, none⟩ = some (.float .f32 s.least) ∧ W.cell? ⟨w4.heap.size, 4, none⟩ = some (.float .f32 s.sat) ∧ W.cell? ⟨w4.heap.size, 5, none⟩ = some (.slice Av2 s.log.length cv2) ∧ W.cell? ⟨w.heap.size, 0, none⟩ = some (.int .i64 s.cells) ∧ W.cell? ⟨w.heap.size, 1, none⟩ = some (.int .i64 s.rows) ∧ W.cell? ⟨w.heap.size, 2, none⟩ = some (.float .f32 s.slice) ∧ W.cell? ⟨w.heap.size, 3, none⟩ = some (.float .f32 s.least) ∧ W.cell? ⟨w.heap.size, 4, none⟩ = some (.float .f32 s.sat) ∧ W.cell? ⟨w.heap.size, 5, none⟩ = some (.slice A s.log.length c)) := Lib.hid (fun W hW => by
    have f1 := blk_ext kb8 hW
    have f2 := blk_ext kb0 hW
    obtain ⟨ac0, ac1, ac2, ac3, ac4, ac5, af⟩ := blk6 f1
    obtain ⟨bc0, bc1, bc2, bc3, bc4, bc5, bf⟩ := blk6 f2
    exact ⟨ac0, ac1, ac2, ac3, ac4, ac5, bc0, bc1, bc2, bc3, bc4, bc5⟩)
  obtain ⟨r0, r1, r2, r3, r4, r5, r6, r7, r8, r9, r10, r11⟩ := KR.out _ (Ext.refl _)
  have HX1 := Lib.hid o2
  have HB9 := Lib.hid hB5
  go_wp2_with fail
  go_region_held3 (fun W => W.cell? ⟨w4.heap.size, 0, none⟩ = some (.int .i64 s.cells) ∧ W.cell? ⟨w4.heap.size, 1, none⟩ = some (.int .i64 s.rows) ∧ W.cell? ⟨w4.heap.size, 2, none⟩ = some (.float .f32 s.slice) ∧ W.cell? ⟨w4.heap.size, 3, none⟩ = some (.float .f32 s.least) ∧ W.cell? ⟨w4.heap.size, 4, none⟩ = some (.float .f32 s.sat) ∧ W.cell? ⟨w4.heap.size, 5, none⟩ = some (.slice Av2 s.log.length cv2) ∧ W.cell? ⟨w.heap.size, 0, none⟩ = some (.int .i64 s.cells) ∧ W.cell? ⟨w.heap.size, 1, none⟩ = some (.int .i64 s.rows) ∧ W.cell? ⟨w.heap.size, 2, none⟩ = some (.float .f32 s.slice) ∧ W.cell? ⟨w.heap.size, 3, none⟩ = some (.float .f32 s.least) ∧ W.cell? ⟨w.heap.size, 4, none⟩ = some (.float .f32 s.sat) ∧ W.cell? ⟨w.heap.size, 5, none⟩ = some (.slice A s.log.length c))
    (first | exact KR.out _ (Ext.trans hb6 hb7) | exact KR.out _ hb6 | exact KR.out _ (by (repeat (first | exact Below.refl _ _ | assumption | refine below_drewN ?_ _ | refine Below.drew ?_ | refine Below.alloc ?_ (by first | exact Nat.le_refl _ | (simp; done) | (simp; omega)) _ | refine Below.setCell ?_ (by first | exact Nat.le_refl _ | (simp; done) | (simp; omega)) _))))
    (first
      | (go_at_call 12; refine (toSet_any s.cells s.rows s.slice s.least s.sat A c s.log _ (H.out.ext (Ext.trans HB9.out (by (repeat (first | exact Below.refl _ _ | assumption | refine below_drewN ?_ _ | refine Below.drew ?_ | refine Below.alloc ?_ (by first | exact Nat.le_refl _ | (simp; done) | (simp; omega)) _ | refine Below.setCell ?_ (by first | exact Nat.le_refl _ | (simp; done) | (simp; omega)) _))))) hn0).mono ?_; rintro e w6 ⟨⟨v3, rfl, o3⟩, hb6⟩; have o3r := o3; unfold OS at o3r; obtain ⟨Av3, cv3, rfl, -, -⟩ := own_slice o3r; replace hb6 := Ext.trans (a := w5) (by (repeat (first | exact Below.refl _ _ | assumption | refine below_drewN ?_ _ | refine Below.drew ?_ | refine Below.alloc ?_ (by first | exact Nat.le_refl _ | (simp; done) | (simp; omega)) _ | refine Below.setCell ?_ (by first | exact Nat.le_refl _ | (simp; done) | (simp; omega)) _))) hb6)
      | (go_at_call 14; refine (eqSet_any s.cells s.rows s.slice s.least s.sat s.slice s.least s.sat Av2 Av3 cv2 cv3 s.log _ (Rd.ext (own_rd HX1.out) (by (repeat (first | exact Below.refl _ _ | assumption | refine below_drewN ?_ _ | refine Below.drew ?_ | refine Below.alloc ?_ (by first | exact Nat.le_refl _ | (simp; done) | (simp; omega)) _ | refine Below.setCell ?_ (by first | exact Nat.le_refl _ | (simp; done) | (simp; omega)) _)))) (Rd.ext (own_rd o3) (by (repeat (first | exact Below.refl _ _ | assumption | refine below_drewN ?_ _ | refine Below.drew ?_ | refine Below.alloc ?_ (by first | exact Nat.le_refl _ | (simp; done) | (simp; omega)) _ | refine Below.setCell ?_ (by first | exact Nat.le_refl _ | (simp; done) | (simp; omega)) _)))) (by unfold maxLen; omega) rfl rfl rfl).mono ?_; rintro e w7 ⟨rfl, hb7⟩; replace hb7 := Ext.trans (a := w6) (by (repeat (first | exact Below.refl _ _ | assumption | refine below_drewN ?_ _ | refine Below.drew ?_ | refine Below.alloc ?_ (by first | exact Nat.le_refl _ | (simp; done) | (simp; omega)) _ | refine Below.setCell ?_ (by first | exact Nat.le_refl _ | (simp; done) | (simp; omega)) _))) hb7))
  clear r0 r1 r2 r3 r4 r5 r6 r7 r8 r9 r10 r11 KR HX1 HB9 o3 o3r
  have hs6 := ext_size hb6
  have hB6 := Ext.trans hB5 hb6
  replace o1 := own_ext o1 hb6
  replace o2 := own_ext o2 hb6
  replace kb0 := blk_ext kb0 hb6
  replace kb8 := blk_ext kb8 hb6
  have hs7 := ext_size hb7
  have hB7 := Ext.trans hB6 hb7
  replace o1 := own_ext o1 hb7
  replace o2 := own_ext o2 hb7
  replace kb0 := blk_ext kb0 hb7
  replace kb8 := blk_ext kb8 hb7
  go_wp2_with fail
  go_ret
  exact ⟨rfl, hB7⟩
end Go.Proofs.YtfmghfghhipmhaaDoor
