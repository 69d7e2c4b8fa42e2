import Derived.Test.YtiddaabodkglmaaDoorSu
namespace Go.Proofs.YtiddaabodkglmaaDoor
open Go.RowKit Go.Fx Go.Sort
set_option linter.unusedVariables false
set_option linter.unusedSimpArgs false
set_option maxRecDepth 100000 in
set_option maxHeartbeats 8000000 in
theorem tune_walk (s : TS) (A : Option Addr) (c : Nat) (l : ByteArray) (w : World) (E : Env w) (h : Rd w A (s.log.map st)) (hn : s.log.length ≤ maxLen) (hs : ∀ x ∈ s.log, x.size ≤ maxLen) (hl0 : l.size ≤ maxLen) :
    Calls Tryd.prog 5 #[setT s (.slice A s.log.length c), .string l] w fun e w' => e = .returned (.bool true) ∧ Ext w w' := by
  have hM1 := hl0
  unfold maxLen at hM1
  have H := Lib.hid h
  have HN := Lib.hid hn
  have HS := Lib.hid hs
  have HE := Lib.hid E
  clear h hn hs E hl0
  by_cases hbig1 : 1048576 < l.size
  · go_enter Tryd.func5, Tryd.ntmps5
    go_wp2_with fail
    go_ret
    exact ⟨rfl, (Ext.refl _).alloc _⟩
  have hl1 : l.size ≤ 1048576 := by omega
  clear hbig1
  obtain ⟨T, hT⟩ : ∃ T, tune s l.data.toList = T := ⟨_, rfl⟩
  obtain ⟨q, hq⟩ : ∃ q, tuneOk s l.data.toList = q := ⟨_, rfl⟩
  have HI : Hid (∀ (A : Option Addr) (c : Nat) (W : World), Env W → Rd W A (s.log.map st) → (A = none → s.log.length = 0) → s.log.length ≤ 1048576 → Calls Tryd.prog 22 #[setT s (.slice A s.log.length c), .string l] W fun e w' => (∃ v, e = .returned (.tuple #[setT T v, .bool q]) ∧ OS w' W.heap.size v T.log) ∧ Ext W w') := Lib.hid (fun A c W e h1 h2 h3 => by have h := iTune_any s A c l W e h1 h2 h3 hl1; rw [hT, hq] at h; exact h)
  have HJ : Hid (∀ (A : Option Addr) (c : Nat) (W : World), Rd W A (s.log.map st) → (A = none → s.log.length = 0) → s.log.length ≤ 1048576 → Calls Tryd.prog 21 #[setT s (.slice A s.log.length c), .string l] W fun e w' => (∃ v, e = .returned (.tuple #[setT T v, .bool q]) ∧ OS w' W.heap.size v T.log) ∧ Ext W w') := Lib.hid (fun A c W h1 h2 h3 => by have h := sTune_any s A c l W h1 h2 h3 hl1; rw [hT, hq] at h; exact h)
  have hTL : T.log.length ≤ s.log.length + 1 := by
    rw [← hT]
    cases hk : tuneOk s l.data.toList
    · rw [tune_no hk]; omega
    · rw [tune_log hk]; simp
  clear hT hq
  go_enter Tryd.func5, Tryd.ntmps5
  have hB0 : Ext w w := Ext.refl w
  go_wp2_with fail
  refine (szSet_any s.cells s.rows s.slice s.least s.sat A c s.log _ _ (H.out.ext (Ext.trans hB0 ((Ext.refl _).alloc _))) HN.out HS.out (by omega) (by omega)).mono ?_
  rintro e w1 ⟨⟨r, rfl, hr1, hr2⟩, hb1⟩
  have kb0 : w1.heap[w.heap.size]? = some (.cells #[.int .i64 s.cells, .int .i64 s.rows, .float .f32 s.slice, .float .f32 s.least, .float .f32 s.sat, .slice A s.log.length c] 25 (0, 0)) := blk_ext (heap_alloc_new _ _) hb1
  have hp1 : Ext w (w.alloc (.cells #[.int .i64 s.cells, .int .i64 s.rows, .float .f32 s.slice, .float .f32 s.least, .float .f32 s.sat, .slice A s.log.length c] 25)) := (Ext.refl _).alloc _
  have hq1 : w.heap.size < w1.heap.size := by have h9 := hb1.size; rw [size_alloc1] at h9; omega
  replace hb1 : Ext w w1 := Ext.trans hp1 hb1
  clear hp1
  have hz1 := size_alloc1 w (.cells #[.int .i64 s.cells, .int .i64 s.rows, .float .f32 s.slice, .float .f32 s.least, .float .f32 s.sat, .slice A s.log.length c] 25)
  have hs1 := ext_size hb1
  have hB1 := Ext.trans hB0 hb1
  by_cases hr : r < 0
  · go_wp2_with fail
    go_ret
    exact ⟨rfl, hB1⟩
  have hn0 : s.log.length ≤ 1048576 := by have := hr2 (by omega); omega
  clear hr2
  have hl64 : (s.log.length : Int) ≤ 9223372036854775807 := by omega
  have hT64 : (T.log.length : Int) ≤ 1048577 := by omega
  have fkb0 := kb0
  obtain ⟨pkb0c0, pkb0c1, pkb0c2, pkb0c3, pkb0c4, pkb0c5, pkb0f⟩ := blk6 fkb0
  clear fkb0
  go_wp2_with fail
  refine (toSet_any s.cells s.rows s.slice s.least s.sat A c s.log _ (H.out.ext hB1) hn0).mono ?_
  rintro e w2 ⟨⟨v1, rfl, o1⟩, hb2⟩
  clear pkb0c0 pkb0c1 pkb0c2 pkb0c3 pkb0c4 pkb0c5 pkb0f
  have hs2 := ext_size hb2
  have hB2 := Ext.trans hB1 hb2
  replace kb0 := blk_ext kb0 hb2
  have io1 := own_in o1
  obtain ⟨Av1, cv1, rfl, -, zv1⟩ := own_slice o1
  go_wp2_with fail
  refine (HJ.out Av1 cv1 _ (own_rd o1) zv1 hn0).mono ?_
  rintro e w3 ⟨⟨v2, rfl, o2⟩, hb3⟩
  have hs3 := ext_size hb3
  have hB3 := Ext.trans hB2 hb3
  replace o1 := own_ext o1 hb3
  replace kb0 := blk_ext kb0 hb3
  have io2 := own_in o2
  obtain ⟨Av2, cv2, rfl, -, zv2⟩ := own_slice o2
  have fkb0 := blk_alloc (p := (.cells #[.int .i64 T.cells, .int .i64 T.rows, .float .f32 T.slice, .float .f32 T.least, .float .f32 T.sat, .slice Av2 T.log.length cv2] 28)) kb0
  obtain ⟨pkb0c0, pkb0c1, pkb0c2, pkb0c3, pkb0c4, pkb0c5, pkb0f⟩ := blk6 fkb0
  clear fkb0
  go_wp2_with fail
  refine (toSet_any s.cells s.rows s.slice s.least s.sat A c s.log _ (H.out.ext (Ext.trans hB3 ((Ext.refl _).alloc _))) hn0).mono ?_
  rintro e w4 ⟨⟨v3, rfl, o3⟩, hb4⟩
  clear pkb0c0 pkb0c1 pkb0c2 pkb0c3 pkb0c4 pkb0c5 pkb0f
  have kb6 : w4.heap[w3.heap.size]? = some (.cells #[.int .i64 T.cells, .int .i64 T.rows, .float .f32 T.slice, .float .f32 T.least, .float .f32 T.sat, .slice Av2 T.log.length cv2] 28 (0, 0)) := blk_ext (heap_alloc_new _ _) hb4
  have hp4 : Ext w3 (w3.alloc (.cells #[.int .i64 T.cells, .int .i64 T.rows, .float .f32 T.slice, .float .f32 T.least, .float .f32 T.sat, .slice Av2 T.log.length cv2] 28)) := (Ext.refl _).alloc _
  have hq4 : w3.heap.size < w4.heap.size := by have h9 := hb4.size; rw [size_alloc1] at h9; omega
  replace hb4 : Ext w3 w4 := Ext.trans hp4 hb4
  clear hp4
  have hz4 := size_alloc1 w3 (.cells #[.int .i64 T.cells, .int .i64 T.rows, .float .f32 T.slice, .float .f32 T.least, .float .f32 T.sat, .slice Av2 T.log.length cv2] 28)
  have hs4 := ext_size hb4
  have hB4 := Ext.trans hB3 hb4
  replace o1 := own_ext o1 hb4
  replace o2 := own_ext o2 hb4
  replace kb0 := blk_ext kb0 hb4
  have io3 := own_in o3
  obtain ⟨Av3, cv3, rfl, -, zv3⟩ := own_slice o3
  go_wp2_with fail
  refine (HI.out Av3 cv3 _ (HE.out.ext (Ext.trans hB4 ((Ext.refl _).alloc _))) ((own_rd o3).ext ((Ext.refl _).alloc _)) zv3 hn0).mono ?_
  rintro e w5 ⟨⟨v4, rfl, o4⟩, hb5⟩
  have kb8 : w5.heap[w4.heap.size]? = some (.cells #[.int .i64 s.cells, .int .i64 s.rows, .float .f32 s.slice, .float .f32 s.least, .float .f32 s.sat, .slice Av3 s.log.length cv3] 28 (0, 0)) := blk_ext (heap_alloc_new _ _) hb5
  have hp5 : Ext w4 (w4.alloc (.cells #[.int .i64 s.cells, .int .i64 s.rows, .float .f32 s.slice, .float .f32 s.least, .float .f32 s.sat, .slice Av3 s.log.length cv3] 28)) := (Ext.refl _).alloc _
  have hq5 : w4.heap.size < w5.heap.size := by have h9 := hb5.size; rw [size_alloc1] at h9; omega
  replace hb5 : Ext w4 w5 := Ext.trans hp5 hb5
  clear hp5
  have hz5 := size_alloc1 w4 (.cells #[.int .i64 s.cells, .int .i64 s.rows, .float .f32 s.slice, .float .f32 s.least, .float .f32 s.sat, .slice Av3 s.log.length cv3] 28)
  have hs5 := ext_size hb5
  have hB5 := Ext.trans hB4 hb5
  replace o1 := own_ext o1 hb5
  replace o2 := own_ext o2 hb5
  replace o3 := own_ext o3 hb5
  replace kb0 := blk_ext kb0 hb5
  replace kb6 := blk_ext kb6 hb5
  have io4 := own_in o4
  obtain ⟨Av4, cv4, rfl, -, zv4⟩ := own_slice o4
  have fkb6 := blk_alloc (p := (.cells #[.int .i64 T.cells, .int .i64 T.rows, .float .f32 T.slice, .float .f32 T.least, .float .f32 T.sat, .slice Av4 T.log.length cv4] 28)) kb6
  obtain ⟨pkb6c0, pkb6c1, pkb6c2, pkb6c3, pkb6c4, pkb6c5, pkb6f⟩ := blk6 fkb6
  clear fkb6
  go_wp2_with fail
  refine (eqSet_any T.cells T.rows T.slice T.least T.sat T.slice T.least T.sat Av4 Av2 cv4 cv2 T.log _ ((own_rd o4).ext ((Ext.refl _).alloc _)) ((own_rd o2).ext ((Ext.refl _).alloc _)) (by unfold maxLen; omega) rfl rfl rfl).mono ?_
  rintro e w6 ⟨rfl, hb6⟩
  clear pkb6c0 pkb6c1 pkb6c2 pkb6c3 pkb6c4 pkb6c5 pkb6f
  have kb9 : w6.heap[w5.heap.size]? = some (.cells #[.int .i64 T.cells, .int .i64 T.rows, .float .f32 T.slice, .float .f32 T.least, .float .f32 T.sat, .slice Av4 T.log.length cv4] 28 (0, 0)) := blk_ext (heap_alloc_new _ _) hb6
  have hp6 : Ext w5 (w5.alloc (.cells #[.int .i64 T.cells, .int .i64 T.rows, .float .f32 T.slice, .float .f32 T.least, .float .f32 T.sat, .slice Av4 T.log.length cv4] 28)) := (Ext.refl _).alloc _
  have hq6 : w5.heap.size < w6.heap.size := by have h9 := hb6.size; rw [size_alloc1] at h9; omega
  replace hb6 : Ext w5 w6 := Ext.trans hp6 hb6
  clear hp6
  have hz6 := size_alloc1 w5 (.cells #[.int .i64 T.cells, .int .i64 T.rows, .float .f32 T.slice, .float .f32 T.least, .float .f32 T.sat, .slice Av4 T.log.length cv4] 28)
  have hs6 := ext_size hb6
  have hB6 := Ext.trans hB5 hb6
  replace o1 := own_ext o1 hb6
  replace o2 := own_ext o2 hb6
  replace o3 := own_ext o3 hb6
  replace o4 := own_ext o4 hb6
  replace kb0 := blk_ext kb0 hb6
  replace kb6 := blk_ext kb6 hb6
  replace kb8 := blk_ext kb8 hb6
  have KR : Hid (∀ W, Ext w6 W → W.cell? ⟨w4.heap.size, 0, none⟩ = some (.int .i64 s.cells) ∧ W.cell? ⟨w4.heap.size, 1, none⟩ = some (.int .i64 s.rows) ∧ W.cell? ⟨w4.heap.size, 2, none⟩ = some (.float .f32 s.slice) ∧ W.cell? ⟨w4.heap.size, 3, none⟩ = some (.float .f32 s.least) ∧ W.cell? ⟨w4.heap.size, 4, none⟩ = some (.float .f32 s.sat) ∧ W.cell? ⟨w4.heap.size, 5, none⟩ = some (.slice Av3 s.log.length cv3) ∧ W.cell? ⟨w.heap.size, 0, none⟩ = some (.int .i64 s.cells) ∧ W.cell? ⟨w.heap.size, 1, none⟩ = some (.int .i64 s.rows) ∧ W.cell? ⟨w.heap.size, 2, none⟩ = some (.float .f32 s.slice) ∧ W.cell? ⟨w.heap.size, 3, none⟩ = some (.float .f32 s.least) ∧ W.cell? ⟨w.heap.size, 4, none⟩ = some (.float .f32 s.sat) ∧ W.cell? ⟨w.heap.size, 5, none⟩ = some (.slice A s.log.length c)) := Lib.hid (fun W hW => by
    have f1 := blk_ext kb8 hW
    have f2 := blk_ext kb0 hW
    obtain ⟨ac0, ac1, ac2, ac3, ac4, ac5, af⟩ := blk6 f1
    obtain ⟨bc0, bc1, bc2, bc3, bc4, bc5, bf⟩ := blk6 f2
    exact ⟨ac0, ac1, ac2, ac3, ac4, ac5, bc0, bc1, bc2, bc3, bc4, bc5⟩)
  obtain ⟨r0, r1, r2, r3, r4, r5, r6, r7, r8, r9, r10, r11⟩ := KR.out _ (Ext.refl _)
  have HX1 := Lib.hid o3
  have HB9 := Lib.hid hB6
  go_wp2_with fail
  go_region_held3 (fun W => W.cell? ⟨w4.heap.size, 0, none⟩ = some (.int .i64 s.cells) ∧ W.cell? ⟨w4.heap.size, 1, none⟩ = some (.int .i64 s.rows) ∧ W.cell? ⟨w4.heap.size, 2, none⟩ = some (.float .f32 s.slice) ∧ W.cell? ⟨w4.heap.size, 3, none⟩ = some (.float .f32 s.least) ∧ W.cell? ⟨w4.heap.size, 4, none⟩ = some (.float .f32 s.sat) ∧ W.cell? ⟨w4.heap.size, 5, none⟩ = some (.slice Av3 s.log.length cv3) ∧ W.cell? ⟨w.heap.size, 0, none⟩ = some (.int .i64 s.cells) ∧ W.cell? ⟨w.heap.size, 1, none⟩ = some (.int .i64 s.rows) ∧ W.cell? ⟨w.heap.size, 2, none⟩ = some (.float .f32 s.slice) ∧ W.cell? ⟨w.heap.size, 3, none⟩ = some (.float .f32 s.least) ∧ W.cell? ⟨w.heap.size, 4, none⟩ = some (.float .f32 s.sat) ∧ W.cell? ⟨w.heap.size, 5, none⟩ = some (.slice A s.log.length c))
    (first | exact KR.out _ (Ext.trans hb7 hb8) | exact KR.out _ hb7 | exact KR.out _ (by (repeat (first | exact Below.refl _ _ | assumption | refine below_drewN ?_ _ | refine Below.drew ?_ | refine Below.alloc ?_ (by first | exact Nat.le_refl _ | (simp; done) | (simp; omega)) _ | refine Below.setCell ?_ (by first | exact Nat.le_refl _ | (simp; done) | (simp; omega)) _))))
    (first
      | (go_at_call 12; refine (toSet_any s.cells s.rows s.slice s.least s.sat A c s.log _ (H.out.ext (Ext.trans HB9.out (by (repeat (first | exact Below.refl _ _ | assumption | refine below_drewN ?_ _ | refine Below.drew ?_ | refine Below.alloc ?_ (by first | exact Nat.le_refl _ | (simp; done) | (simp; omega)) _ | refine Below.setCell ?_ (by first | exact Nat.le_refl _ | (simp; done) | (simp; omega)) _))))) hn0).mono ?_; rintro e w7 ⟨⟨v5, rfl, o5⟩, hb7⟩; have o5r := o5; unfold OS at o5r; obtain ⟨Av5, cv5, rfl, -, -⟩ := own_slice o5r; replace hb7 := Ext.trans (a := w6) (by (repeat (first | exact Below.refl _ _ | assumption | refine below_drewN ?_ _ | refine Below.drew ?_ | refine Below.alloc ?_ (by first | exact Nat.le_refl _ | (simp; done) | (simp; omega)) _ | refine Below.setCell ?_ (by first | exact Nat.le_refl _ | (simp; done) | (simp; omega)) _))) hb7)
      | (go_at_call 14; refine (eqSet_any s.cells s.rows s.slice s.least s.sat s.slice s.least s.sat Av3 Av5 cv3 cv5 s.log _ (Rd.ext (own_rd HX1.out) (by (repeat (first | exact Below.refl _ _ | assumption | refine below_drewN ?_ _ | refine Below.drew ?_ | refine Below.alloc ?_ (by first | exact Nat.le_refl _ | (simp; done) | (simp; omega)) _ | refine Below.setCell ?_ (by first | exact Nat.le_refl _ | (simp; done) | (simp; omega)) _)))) (Rd.ext (own_rd o5) (by (repeat (first | exact Below.refl _ _ | assumption | refine below_drewN ?_ _ | refine Below.drew ?_ | refine Below.alloc ?_ (by first | exact Nat.le_refl _ | (simp; done) | (simp; omega)) _ | refine Below.setCell ?_ (by first | exact Nat.le_refl _ | (simp; done) | (simp; omega)) _)))) (by unfold maxLen; omega) rfl rfl rfl).mono ?_; rintro e w8 ⟨rfl, hb8⟩; replace hb8 := Ext.trans (a := w7) (by (repeat (first | exact Below.refl _ _ | assumption | refine below_drewN ?_ _ | refine Below.drew ?_ | refine Below.alloc ?_ (by first | exact Nat.le_refl _ | (simp; done) | (simp; omega)) _ | refine Below.setCell ?_ (by first | exact Nat.le_refl _ | (simp; done) | (simp; omega)) _))) hb8))
  clear r0 r1 r2 r3 r4 r5 r6 r7 r8 r9 r10 r11 KR HX1 HB9 o5 o5r
  have hs7 := ext_size hb7
  have hB7 := Ext.trans hB6 hb7
  replace o1 := own_ext o1 hb7
  replace o2 := own_ext o2 hb7
  replace o3 := own_ext o3 hb7
  replace o4 := own_ext o4 hb7
  replace kb0 := blk_ext kb0 hb7
  replace kb6 := blk_ext kb6 hb7
  replace kb8 := blk_ext kb8 hb7
  replace kb9 := blk_ext kb9 hb7
  have hs8 := ext_size hb8
  have hB8 := Ext.trans hB7 hb8
  replace o1 := own_ext o1 hb8
  replace o2 := own_ext o2 hb8
  replace o3 := own_ext o3 hb8
  replace o4 := own_ext o4 hb8
  replace kb0 := blk_ext kb0 hb8
  replace kb6 := blk_ext kb6 hb8
  replace kb8 := blk_ext kb8 hb8
  replace kb9 := blk_ext kb9 hb8
  have fkb8 := kb8
  obtain ⟨pkb8c0, pkb8c1, pkb8c2, pkb8c3, pkb8c4, pkb8c5, pkb8f⟩ := blk6 fkb8
  clear fkb8
  go_wp2_with fail
  refine (markSet_any s.cells s.rows s.slice s.least s.sat Av3 cv3 s.log.length 1 (by omega) (by omega) (by omega) _ _ _ o3).mono ?_
  rintro e w9 ⟨rfl, o3m, hg9⟩
  clear pkb8c0 pkb8c1 pkb8c2 pkb8c3 pkb8c4 pkb8c5 pkb8f
  have ht9 := turn_grown hg9 io3
  clear hg9
  have hs9 := turn_size ht9
  have hB9 := ext_turn hB8 ht9 (by omega)
  replace o1 := own_turn o1 ht9 io1 (by omega)
  replace o2 := own_turn o2 ht9 io2 (by omega)
  replace o4 := own_turn o4 ht9 io4 (by omega)
  replace kb0 := blk_turn kb0 ht9 (by omega)
  replace kb6 := blk_turn kb6 ht9 (by omega)
  replace kb8 := blk_turn kb8 ht9 (by omega)
  replace kb9 := blk_turn kb9 ht9 (by omega)
  clear o3
  have o3 := o3m
  clear o3m
  have fkb6 := kb6
  obtain ⟨pkb6c0, pkb6c1, pkb6c2, pkb6c3, pkb6c4, pkb6c5, pkb6f⟩ := blk6 fkb6
  clear fkb6
  have fkb9 := kb9
  obtain ⟨pkb9c0, pkb9c1, pkb9c2, pkb9c3, pkb9c4, pkb9c5, pkb9f⟩ := blk6 fkb9
  clear fkb9
  go_wp2_with fail
  refine (eqSet_any T.cells T.rows T.slice T.least T.sat T.slice T.least T.sat Av4 Av2 cv4 cv2 T.log _ (own_rd o4) (own_rd o2) (by unfold maxLen; omega) rfl rfl rfl).mono ?_
  rintro e w10 ⟨rfl, hb10⟩
  clear pkb6c0 pkb6c1 pkb6c2 pkb6c3 pkb6c4 pkb6c5 pkb6f
  clear pkb9c0 pkb9c1 pkb9c2 pkb9c3 pkb9c4 pkb9c5 pkb9f
  have hs10 := ext_size hb10
  have hB10 := Ext.trans hB9 hb10
  replace o1 := own_ext o1 hb10
  replace o2 := own_ext o2 hb10
  replace o3 := own_ext o3 hb10
  replace o4 := own_ext o4 hb10
  replace kb0 := blk_ext kb0 hb10
  replace kb6 := blk_ext kb6 hb10
  replace kb8 := blk_ext kb8 hb10
  replace kb9 := blk_ext kb9 hb10
  have fkb9 := kb9
  obtain ⟨pkb9c0, pkb9c1, pkb9c2, pkb9c3, pkb9c4, pkb9c5, pkb9f⟩ := blk6 fkb9
  clear fkb9
  go_wp2_with fail
  refine (markSet_any T.cells T.rows T.slice T.least T.sat Av4 cv4 T.log.length 1 (by omega) (by omega) (by omega) _ _ _ o4).mono ?_
  rintro e w11 ⟨rfl, o4m, hg9⟩
  clear pkb9c0 pkb9c1 pkb9c2 pkb9c3 pkb9c4 pkb9c5 pkb9f
  have ht11 := turn_grown hg9 io4
  clear hg9
  have hs11 := turn_size ht11
  have hB11 := ext_turn hB10 ht11 (by omega)
  replace o1 := own_turn o1 ht11 io1 (by omega)
  replace o2 := own_turn o2 ht11 io2 (by omega)
  replace o3 := own_turn o3 ht11 io3 (by omega)
  replace kb0 := blk_turn kb0 ht11 (by omega)
  replace kb6 := blk_turn kb6 ht11 (by omega)
  replace kb8 := blk_turn kb8 ht11 (by omega)
  replace kb9 := blk_turn kb9 ht11 (by omega)
  clear o4
  have o4 := o4m
  clear o4m
  have fkb9 := kb9
  obtain ⟨pkb9c0, pkb9c1, pkb9c2, pkb9c3, pkb9c4, pkb9c5, pkb9f⟩ := blk6 fkb9
  clear fkb9
  go_wp2_with fail
  refine (heldSet_any T.cells T.rows T.slice T.least T.sat Av4 cv4 T.log.length 1 (by omega) (by omega) (by omega) _ (own_rd o4)).mono ?_
  rintro e w12 ⟨rfl, hb12⟩
  clear pkb9c0 pkb9c1 pkb9c2 pkb9c3 pkb9c4 pkb9c5 pkb9f
  have hs12 := ext_size hb12
  have hB12 := Ext.trans hB11 hb12
  replace o1 := own_ext o1 hb12
  replace o2 := own_ext o2 hb12
  replace o3 := own_ext o3 hb12
  replace o4 := own_ext o4 hb12
  replace kb0 := blk_ext kb0 hb12
  replace kb6 := blk_ext kb6 hb12
  replace kb8 := blk_ext kb8 hb12
  replace kb9 := blk_ext kb9 hb12
  have fkb0 := kb0
  obtain ⟨pkb0c0, pkb0c1, pkb0c2, pkb0c3, pkb0c4, pkb0c5, pkb0f⟩ := blk6 fkb0
  clear fkb0
  go_wp2_with fail
  refine (toSet_any s.cells s.rows s.slice s.least s.sat A c s.log _ (H.out.ext hB12) hn0).mono ?_
  rintro e w13 ⟨⟨v6, rfl, o6⟩, hb13⟩
  clear pkb0c0 pkb0c1 pkb0c2 pkb0c3 pkb0c4 pkb0c5 pkb0f
  have hs13 := ext_size hb13
  have hB13 := Ext.trans hB12 hb13
  replace o1 := own_ext o1 hb13
  replace o2 := own_ext o2 hb13
  replace o3 := own_ext o3 hb13
  replace o4 := own_ext o4 hb13
  replace kb0 := blk_ext kb0 hb13
  replace kb6 := blk_ext kb6 hb13
  replace kb8 := blk_ext kb8 hb13
  replace kb9 := blk_ext kb9 hb13
  have io6 := own_in o6
  obtain ⟨Av6, cv6, rfl, -, zv6⟩ := own_slice o6
  go_wp2_with fail
  refine (HI.out Av6 cv6 _ (HE.out.ext hB13) (own_rd o6) zv6 hn0).mono ?_
  rintro e w14 ⟨⟨v7, rfl, o7⟩, hb14⟩
  have hs14 := ext_size hb14
  have hB14 := Ext.trans hB13 hb14
  replace o1 := own_ext o1 hb14
  replace o2 := own_ext o2 hb14
  replace o3 := own_ext o3 hb14
  replace o4 := own_ext o4 hb14
  replace o6 := own_ext o6 hb14
  replace kb0 := blk_ext kb0 hb14
  replace kb6 := blk_ext kb6 hb14
  replace kb8 := blk_ext kb8 hb14
  replace kb9 := blk_ext kb9 hb14
  have io7 := own_in o7
  obtain ⟨Av7, cv7, rfl, -, zv7⟩ := own_slice o7
  have fkb6 := blk_alloc (p := (.cells #[.int .i64 T.cells, .int .i64 T.rows, .float .f32 T.slice, .float .f32 T.least, .float .f32 T.sat, .slice Av7 T.log.length cv7] 28)) kb6
  obtain ⟨pkb6c0, pkb6c1, pkb6c2, pkb6c3, pkb6c4, pkb6c5, pkb6f⟩ := blk6 fkb6
  clear fkb6
  go_wp2_with fail
  refine (eqSet_any T.cells T.rows T.slice T.least T.sat T.slice T.least T.sat Av7 Av2 cv7 cv2 T.log _ ((own_rd o7).ext ((Ext.refl _).alloc _)) ((own_rd o2).ext ((Ext.refl _).alloc _)) (by unfold maxLen; omega) rfl rfl rfl).mono ?_
  rintro e w15 ⟨rfl, hb15⟩
  clear pkb6c0 pkb6c1 pkb6c2 pkb6c3 pkb6c4 pkb6c5 pkb6f
  have kb14 : w15.heap[w14.heap.size]? = some (.cells #[.int .i64 T.cells, .int .i64 T.rows, .float .f32 T.slice, .float .f32 T.least, .float .f32 T.sat, .slice Av7 T.log.length cv7] 28 (0, 0)) := blk_ext (heap_alloc_new _ _) hb15
  have hp15 : Ext w14 (w14.alloc (.cells #[.int .i64 T.cells, .int .i64 T.rows, .float .f32 T.slice, .float .f32 T.least, .float .f32 T.sat, .slice Av7 T.log.length cv7] 28)) := (Ext.refl _).alloc _
  have hq15 : w14.heap.size < w15.heap.size := by have h9 := hb15.size; rw [size_alloc1] at h9; omega
  replace hb15 : Ext w14 w15 := Ext.trans hp15 hb15
  clear hp15
  have hz15 := size_alloc1 w14 (.cells #[.int .i64 T.cells, .int .i64 T.rows, .float .f32 T.slice, .float .f32 T.least, .float .f32 T.sat, .slice Av7 T.log.length cv7] 28)
  have hs15 := ext_size hb15
  have hB15 := Ext.trans hB14 hb15
  replace o1 := own_ext o1 hb15
  replace o2 := own_ext o2 hb15
  replace o3 := own_ext o3 hb15
  replace o4 := own_ext o4 hb15
  replace o6 := own_ext o6 hb15
  replace o7 := own_ext o7 hb15
  replace kb0 := blk_ext kb0 hb15
  replace kb6 := blk_ext kb6 hb15
  replace kb8 := blk_ext kb8 hb15
  replace kb9 := blk_ext kb9 hb15
  have fkb9 := kb9
  obtain ⟨pkb9c0, pkb9c1, pkb9c2, pkb9c3, pkb9c4, pkb9c5, pkb9f⟩ := blk6 fkb9
  clear fkb9
  go_wp2_with fail
  refine (heldSet_any T.cells T.rows T.slice T.least T.sat Av4 cv4 T.log.length 1 (by omega) (by omega) (by omega) _ (own_rd o4)).mono ?_
  rintro e w16 ⟨rfl, hb16⟩
  clear pkb9c0 pkb9c1 pkb9c2 pkb9c3 pkb9c4 pkb9c5 pkb9f
  have hs16 := ext_size hb16
  have hB16 := Ext.trans hB15 hb16
  replace o1 := own_ext o1 hb16
  replace o2 := own_ext o2 hb16
  replace o3 := own_ext o3 hb16
  replace o4 := own_ext o4 hb16
  replace o6 := own_ext o6 hb16
  replace o7 := own_ext o7 hb16
  replace kb0 := blk_ext kb0 hb16
  replace kb6 := blk_ext kb6 hb16
  replace kb8 := blk_ext kb8 hb16
  replace kb9 := blk_ext kb9 hb16
  replace kb14 := blk_ext kb14 hb16
  go_wp2_with fail
  go_ret
  exact ⟨rfl, hB16⟩
end Go.Proofs.YtiddaabodkglmaaDoor
