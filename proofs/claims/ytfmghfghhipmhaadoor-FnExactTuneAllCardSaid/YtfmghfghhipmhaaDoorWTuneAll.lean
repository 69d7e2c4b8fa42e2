import Derived.Test.YtfmghfghhipmhaaDoorTs
namespace Go.Proofs.YtfmghfghhipmhaaDoor
open Go.RowKit Go.Fx Go.Sort
set_option linter.unusedVariables false
set_option linter.unusedSimpArgs false
set_option maxRecDepth 100000 in
set_option maxHeartbeats 8000000 in
theorem tuneAll_walk (s : TS) (A : Option Addr) (c : Nat) (A1 : Option Addr) (c1 : Nat) (ls : List ByteArray) (w : World) (E : Env w) (h : Rd w A (s.log.map st)) (hn : s.log.length ≤ maxLen) (hs : ∀ x ∈ s.log, x.size ≤ maxLen) (h1 : Rd w A1 (ls.map st)) (hn1 : ls.length ≤ maxLen) (hs1 : ∀ x ∈ ls, x.size ≤ maxLen) :
    Calls Tryd.prog 8 #[setT s (.slice A s.log.length c), .slice A1 ls.length c1] w fun e w' => e = .returned (.bool true) ∧ Ext w w' := by
  have H := Lib.hid h
  have HN := Lib.hid hn
  have HS := Lib.hid hs
  have HE := Lib.hid E
  have H1 := Lib.hid h1
  have HN1 := Lib.hid hn1
  have HS1 := Lib.hid hs1
  clear h hn hs E h1 hn1 hs1
  go_enter Tryd.func8, Tryd.ntmps8
  have hB0 : Ext w w := Ext.refl w
  go_wp2_with fail
  refine (szSet_any s.cells s.rows s.slice s.least s.sat A c s.log _ _ (H.out.ext (Ext.trans hB0 ((Ext.refl _).alloc _))) HN.out HS.out (by omega) (by omega)).mono ?_
  rintro e w1 ⟨⟨r, rfl, hr1, hr2⟩, hb1⟩
  have kb0 : w1.heap[w.heap.size]? = some (.cells #[.int .i64 s.cells, .int .i64 s.rows, .float .f32 s.slice, .float .f32 s.least, .float .f32 s.sat, .slice A s.log.length c] 25 (0, 0)) := blk_ext (heap_alloc_new _ _) hb1
  have hp1 : Ext w (w.alloc (.cells #[.int .i64 s.cells, .int .i64 s.rows, .float .f32 s.slice, .float .f32 s.least, .float .f32 s.sat, .slice A s.log.length c] 25)) := (Ext.refl _).alloc _
  have hq1 : w.heap.size < w1.heap.size := by have h9 := hb1.size; rw [size_alloc1] at h9; omega
  replace hb1 : Ext w w1 := Ext.trans hp1 hb1
  clear hp1
  have hz1 := size_alloc1 w (.cells #[.int .i64 s.cells, .int .i64 s.rows, .float .f32 s.slice, .float .f32 s.least, .float .f32 s.sat, .slice A s.log.length c] 25)
  have hs1 := ext_size hb1
  have hB1 := Ext.trans hB0 hb1
  by_cases hr : r < 0
  · go_wp2_with fail
    go_ret
    exact ⟨rfl, hB1⟩
  have hn0 : s.log.length ≤ 1048576 := by have := hr2 (by omega); omega
  clear hr2
  go_wp2_with fail
  refine (szS2_any A1 c1 ls _ _ (H1.out.ext hB1) HN1.out HS1.out (by omega) (by omega)).mono ?_
  rintro e w2 ⟨⟨y, rfl, ya, yb⟩, hw⟩
  have hb2 : Ext w1 w2 := by rw [hw]; exact Ext.refl _
  clear hw
  have hs2 := ext_size hb2
  have hB2 := Ext.trans hB1 hb2
  replace kb0 := blk_ext kb0 hb2
  by_cases hry : y < 0
  · go_wp2_with fail
    go_ret
    exact ⟨rfl, hB2⟩
  obtain ⟨yl, hx1⟩ := yb (by omega)
  have hn1 : ls.length ≤ 1048576 := by omega
  clear yb
  obtain ⟨T, hT⟩ : ∃ T, tuneAll s (ls.map (·.data.toList)) = T := ⟨_, rfl⟩
  obtain ⟨fl, hfl⟩ : ∃ fl, tuneFlags s (ls.map (·.data.toList)) = fl := ⟨_, rfl⟩
  have HI : Hid (∀ (A : Option Addr) (c : Nat) (A1 : Option Addr) (c1 : Nat) (W : World), Env W → Rd W A (s.log.map st) → (A = none → s.log.length = 0) → Rd W A1 (ls.map st) → Calls Tryd.prog 17 #[setT s (.slice A s.log.length c), .slice A1 ls.length c1] W fun e w' => (∃ v f, e = .returned (.tuple #[setT T v, f]) ∧ OS w' W.heap.size v T.log ∧ OBo w' W.heap.size f fl ∧ ∀ b, v.ownBlock = some b → f.ownBlock ≠ some b) ∧ Ext W w') := Lib.hid (fun A c A1 c1 W e h1 h2 h3 => by have h := iTuneAll_any s A c A1 c1 ls W e h1 h2 hn0 h3 hn1 hx1; rw [hT, hfl] at h; exact h)
  have HJ : Hid (∀ (A : Option Addr) (c : Nat) (A1 : Option Addr) (c1 : Nat) (W : World), Rd W A (s.log.map st) → (A = none → s.log.length = 0) → Rd W A1 (ls.map st) → Calls Tryd.prog 33 #[setT s (.slice A s.log.length c), .slice A1 ls.length c1] W fun e w' => (∃ v f, e = .returned (.tuple #[setT T v, f]) ∧ OS w' W.heap.size v T.log ∧ OBo w' W.heap.size f fl ∧ ∀ b, v.ownBlock = some b → f.ownBlock ≠ some b) ∧ Ext W w') := Lib.hid (fun A c A1 c1 W h1 h2 h3 => by have h := sTuneAll_any s A c A1 c1 ls W h1 h2 hn0 h3 hn1 hx1; rw [hT, hfl] at h; exact h)
  have hTL : T.log.length ≤ 1048576 := by
    rw [← hT]
    have := tuneAll_max (ls.map (·.data.toList)) s
    omega
  have hFL : fl.length ≤ 1048576 := by
    rw [← hfl, tuneFlags_len, List.length_map]; exact hn1
  have HX1 := Lib.hid hx1
  clear hT hfl hx1
  have hl64 : (s.log.length : Int) ≤ 1048576 := by omega
  have hT64 : (T.log.length : Int) ≤ 1048576 := by omega
  have hF64 : (fl.length : Int) ≤ 1048576 := by omega
  have hL64 : (ls.length : Int) ≤ 1048576 := by omega
  have fkb0 := kb0
  obtain ⟨pkb0c0, pkb0c1, pkb0c2, pkb0c3, pkb0c4, pkb0c5, pkb0f⟩ := blk6 fkb0
  clear fkb0
  go_wp2_with fail
  refine (toSet_any s.cells s.rows s.slice s.least s.sat A c s.log _ (H.out.ext hB2) hn0).mono ?_
  rintro e w3 ⟨⟨v1, rfl, o1⟩, hb3⟩
  clear pkb0c0 pkb0c1 pkb0c2 pkb0c3 pkb0c4 pkb0c5 pkb0f
  have hs3 := ext_size hb3
  have hB3 := Ext.trans hB2 hb3
  replace kb0 := blk_ext kb0 hb3
  have io1 := own_in o1
  obtain ⟨Av1, cv1, rfl, -, zv1⟩ := own_slice o1
  go_wp2_with fail
  refine (toS_any A1 c1 ls _ (H1.out.ext hB3) hn1).mono ?_
  rintro e w4 ⟨⟨v2, rfl, o2⟩, hb4⟩
  have hs4 := ext_size hb4
  have hB4 := Ext.trans hB3 hb4
  replace o1 := own_ext o1 hb4
  replace kb0 := blk_ext kb0 hb4
  have io2 := own_in o2
  obtain ⟨Av2, cv2, rfl, -, zv2⟩ := own_slice o2
  go_wp2_with fail
  refine (HJ.out Av1 cv1 Av2 cv2 _ (own_rd o1) zv1 (own_rd o2)).mono ?_
  rintro e w5 ⟨⟨v3, v4, rfl, o3, o4, hap4⟩, hb5⟩
  have hs5 := ext_size hb5
  have hB5 := Ext.trans hB4 hb5
  replace o1 := own_ext o1 hb5
  replace o2 := own_ext o2 hb5
  replace kb0 := blk_ext kb0 hb5
  have io3 := own_in o3
  obtain ⟨Av3, cv3, rfl, -, zv3⟩ := own_slice o3
  have io4 := own_in o4
  obtain ⟨Av4, cv4, rfl, -, zv4⟩ := own_slice o4
  have fkb0 := blk_alloc (p := (.cells #[.int .i64 T.cells, .int .i64 T.rows, .float .f32 T.slice, .float .f32 T.least, .float .f32 T.sat, .slice Av3 T.log.length cv3] 28)) kb0
  obtain ⟨pkb0c0, pkb0c1, pkb0c2, pkb0c3, pkb0c4, pkb0c5, pkb0f⟩ := blk6 fkb0
  clear fkb0
  go_wp2_with fail
  refine (toSet_any s.cells s.rows s.slice s.least s.sat A c s.log _ (H.out.ext (Ext.trans hB5 ((Ext.refl _).alloc _))) hn0).mono ?_
  rintro e w6 ⟨⟨v5, rfl, o5⟩, hb6⟩
  clear pkb0c0 pkb0c1 pkb0c2 pkb0c3 pkb0c4 pkb0c5 pkb0f
  have kb6 : w6.heap[w5.heap.size]? = some (.cells #[.int .i64 T.cells, .int .i64 T.rows, .float .f32 T.slice, .float .f32 T.least, .float .f32 T.sat, .slice Av3 T.log.length cv3] 28 (0, 0)) := blk_ext (heap_alloc_new _ _) hb6
  have hp6 : Ext w5 (w5.alloc (.cells #[.int .i64 T.cells, .int .i64 T.rows, .float .f32 T.slice, .float .f32 T.least, .float .f32 T.sat, .slice Av3 T.log.length cv3] 28)) := (Ext.refl _).alloc _
  have hq6 : w5.heap.size < w6.heap.size := by have h9 := hb6.size; rw [size_alloc1] at h9; omega
  replace hb6 : Ext w5 w6 := Ext.trans hp6 hb6
  clear hp6
  have hz6 := size_alloc1 w5 (.cells #[.int .i64 T.cells, .int .i64 T.rows, .float .f32 T.slice, .float .f32 T.least, .float .f32 T.sat, .slice Av3 T.log.length cv3] 28)
  have hs6 := ext_size hb6
  have hB6 := Ext.trans hB5 hb6
  replace o1 := own_ext o1 hb6
  replace o2 := own_ext o2 hb6
  replace o3 := own_ext o3 hb6
  replace o4 := own_ext o4 hb6
  replace kb0 := blk_ext kb0 hb6
  have io5 := own_in o5
  obtain ⟨Av5, cv5, rfl, -, zv5⟩ := own_slice o5
  go_wp2_with fail
  refine (toS_any A1 c1 ls _ (H1.out.ext (Ext.trans hB6 ((Ext.refl _).alloc _))) hn1).mono ?_
  rintro e w7 ⟨⟨v6, rfl, o6⟩, hb7⟩
  have kb8 : w7.heap[w6.heap.size]? = some (.cells #[.int .i64 s.cells, .int .i64 s.rows, .float .f32 s.slice, .float .f32 s.least, .float .f32 s.sat, .slice Av5 s.log.length cv5] 28 (0, 0)) := blk_ext (heap_alloc_new _ _) hb7
  have hp7 : Ext w6 (w6.alloc (.cells #[.int .i64 s.cells, .int .i64 s.rows, .float .f32 s.slice, .float .f32 s.least, .float .f32 s.sat, .slice Av5 s.log.length cv5] 28)) := (Ext.refl _).alloc _
  have hq7 : w6.heap.size < w7.heap.size := by have h9 := hb7.size; rw [size_alloc1] at h9; omega
  replace hb7 : Ext w6 w7 := Ext.trans hp7 hb7
  clear hp7
  have hz7 := size_alloc1 w6 (.cells #[.int .i64 s.cells, .int .i64 s.rows, .float .f32 s.slice, .float .f32 s.least, .float .f32 s.sat, .slice Av5 s.log.length cv5] 28)
  have hs7 := ext_size hb7
  have hB7 := Ext.trans hB6 hb7
  replace o1 := own_ext o1 hb7
  replace o2 := own_ext o2 hb7
  replace o3 := own_ext o3 hb7
  replace o4 := own_ext o4 hb7
  replace o5 := own_ext o5 hb7
  replace kb0 := blk_ext kb0 hb7
  replace kb6 := blk_ext kb6 hb7
  have io6 := own_in o6
  obtain ⟨Av6, cv6, rfl, -, zv6⟩ := own_slice o6
  have fkb8 := kb8
  obtain ⟨pkb8c0, pkb8c1, pkb8c2, pkb8c3, pkb8c4, pkb8c5, pkb8f⟩ := blk6 fkb8
  clear fkb8
  go_wp2_with fail
  refine (HI.out Av5 cv5 Av6 cv6 _ (HE.out.ext hB7) (own_rd o5) zv5 (own_rd o6)).mono ?_
  rintro e w8 ⟨⟨v7, v8, rfl, o7, o8, hap8⟩, hb8⟩
  clear pkb8c0 pkb8c1 pkb8c2 pkb8c3 pkb8c4 pkb8c5 pkb8f
  have hs8 := ext_size hb8
  have hB8 := Ext.trans hB7 hb8
  replace o1 := own_ext o1 hb8
  replace o2 := own_ext o2 hb8
  replace o3 := own_ext o3 hb8
  replace o4 := own_ext o4 hb8
  replace o5 := own_ext o5 hb8
  replace o6 := own_ext o6 hb8
  replace kb0 := blk_ext kb0 hb8
  replace kb6 := blk_ext kb6 hb8
  replace kb8 := blk_ext kb8 hb8
  have io7 := own_in o7
  obtain ⟨Av7, cv7, rfl, -, zv7⟩ := own_slice o7
  have io8 := own_in o8
  obtain ⟨Av8, cv8, rfl, -, zv8⟩ := own_slice o8
  have fkb6 := blk_alloc (p := (.cells #[.int .i64 T.cells, .int .i64 T.rows, .float .f32 T.slice, .float .f32 T.least, .float .f32 T.sat, .slice Av7 T.log.length cv7] 28)) kb6
  obtain ⟨pkb6c0, pkb6c1, pkb6c2, pkb6c3, pkb6c4, pkb6c5, pkb6f⟩ := blk6 fkb6
  clear fkb6
  go_wp2_with fail
  refine (eqSet_any T.cells T.rows T.slice T.least T.sat T.slice T.least T.sat Av7 Av3 cv7 cv3 T.log _ ((own_rd o7).ext ((Ext.refl _).alloc _)) ((own_rd o3).ext ((Ext.refl _).alloc _)) (by unfold maxLen; omega) rfl rfl rfl).mono ?_
  rintro e w9 ⟨rfl, hb9⟩
  clear pkb6c0 pkb6c1 pkb6c2 pkb6c3 pkb6c4 pkb6c5 pkb6f
  have kb9 : w9.heap[w8.heap.size]? = some (.cells #[.int .i64 T.cells, .int .i64 T.rows, .float .f32 T.slice, .float .f32 T.least, .float .f32 T.sat, .slice Av7 T.log.length cv7] 28 (0, 0)) := blk_ext (heap_alloc_new _ _) hb9
  have hp9 : Ext w8 (w8.alloc (.cells #[.int .i64 T.cells, .int .i64 T.rows, .float .f32 T.slice, .float .f32 T.least, .float .f32 T.sat, .slice Av7 T.log.length cv7] 28)) := (Ext.refl _).alloc _
  have hq9 : w8.heap.size < w9.heap.size := by have h9 := hb9.size; rw [size_alloc1] at h9; omega
  replace hb9 : Ext w8 w9 := Ext.trans hp9 hb9
  clear hp9
  have hz9 := size_alloc1 w8 (.cells #[.int .i64 T.cells, .int .i64 T.rows, .float .f32 T.slice, .float .f32 T.least, .float .f32 T.sat, .slice Av7 T.log.length cv7] 28)
  have hs9 := ext_size hb9
  have hB9 := Ext.trans hB8 hb9
  replace o1 := own_ext o1 hb9
  replace o2 := own_ext o2 hb9
  replace o3 := own_ext o3 hb9
  replace o4 := own_ext o4 hb9
  replace o5 := own_ext o5 hb9
  replace o6 := own_ext o6 hb9
  replace o7 := own_ext o7 hb9
  replace o8 := own_ext o8 hb9
  replace kb0 := blk_ext kb0 hb9
  replace kb6 := blk_ext kb6 hb9
  replace kb8 := blk_ext kb8 hb9
  go_wp2_with fail
  refine (eqB_any Av8 Av4 cv8 cv4 fl _ (own_rd o8) (own_rd o4) (by unfold maxLen; omega)).mono ?_
  rintro e w10 ⟨rfl, n9, hw⟩
  have hb10 : Ext w9 w10 := hw ▸ Ext.drewN _ _
  clear hw
  have hs10 := ext_size hb10
  have hB10 := Ext.trans hB9 hb10
  replace o1 := own_ext o1 hb10
  replace o2 := own_ext o2 hb10
  replace o3 := own_ext o3 hb10
  replace o4 := own_ext o4 hb10
  replace o5 := own_ext o5 hb10
  replace o6 := own_ext o6 hb10
  replace o7 := own_ext o7 hb10
  replace o8 := own_ext o8 hb10
  replace kb0 := blk_ext kb0 hb10
  replace kb6 := blk_ext kb6 hb10
  replace kb8 := blk_ext kb8 hb10
  replace kb9 := blk_ext kb9 hb10
  have KR : Hid (∀ W, Ext w10 W → W.cell? ⟨w6.heap.size, 0, none⟩ = some (.int .i64 s.cells) ∧ W.cell? ⟨w6.heap.size, 1, none⟩ = some (.int .i64 s.rows) ∧ W.cell? ⟨w6.heap.size, 2, none⟩ = some (.float .f32 s.slice) ∧ W.cell? ⟨w6.heap.size, 3, none⟩ = some (.float .f32 s.least) ∧ W.cell? ⟨w6.heap.size, 4, none⟩ = some (.float .f32 s.sat) ∧ W.cell? ⟨w6.heap.size, 5, none⟩ = some (.slice Av5 s.log.length cv5) ∧ W.cell? ⟨w.heap.size, 0, none⟩ = some (.int .i64 s.cells) ∧ W.cell? ⟨w.heap.size, 1, none⟩ = some (.int .i64 s.rows) ∧ W.cell? ⟨w.heap.size, 2, none⟩ = some (.float .f32 s.slice) ∧ W.cell? ⟨w.heap.size, 3, none⟩ = some (.float .f32 s.least) ∧ W.cell? ⟨w.heap.size, 4, none⟩ = some (.float .f32 s.sat) ∧ W.cell? ⟨w.heap.size, 5, none⟩ = some (.slice A s.log.length c)) := Lib.hid (fun W hW => by
    have f1 := blk_ext kb8 hW
    have f2 := blk_ext kb0 hW
    obtain ⟨ac0, ac1, ac2, ac3, ac4, ac5, af⟩ := blk6 f1
    obtain ⟨bc0, bc1, bc2, bc3, bc4, bc5, bf⟩ := blk6 f2
    exact ⟨ac0, ac1, ac2, ac3, ac4, ac5, bc0, bc1, bc2, bc3, bc4, bc5⟩)
  obtain ⟨r0, r1, r2, r3, r4, r5, r6, r7, r8, r9, r10, r11⟩ := KR.out _ (Ext.refl _)
  have HX1 := Lib.hid o5
  have HB9 := Lib.hid hB10
  go_wp2_with fail
  go_region_held3 (fun W => W.cell? ⟨w6.heap.size, 0, none⟩ = some (.int .i64 s.cells) ∧ W.cell? ⟨w6.heap.size, 1, none⟩ = some (.int .i64 s.rows) ∧ W.cell? ⟨w6.heap.size, 2, none⟩ = some (.float .f32 s.slice) ∧ W.cell? ⟨w6.heap.size, 3, none⟩ = some (.float .f32 s.least) ∧ W.cell? ⟨w6.heap.size, 4, none⟩ = some (.float .f32 s.sat) ∧ W.cell? ⟨w6.heap.size, 5, none⟩ = some (.slice Av5 s.log.length cv5) ∧ W.cell? ⟨w.heap.size, 0, none⟩ = some (.int .i64 s.cells) ∧ W.cell? ⟨w.heap.size, 1, none⟩ = some (.int .i64 s.rows) ∧ W.cell? ⟨w.heap.size, 2, none⟩ = some (.float .f32 s.slice) ∧ W.cell? ⟨w.heap.size, 3, none⟩ = some (.float .f32 s.least) ∧ W.cell? ⟨w.heap.size, 4, none⟩ = some (.float .f32 s.sat) ∧ W.cell? ⟨w.heap.size, 5, none⟩ = some (.slice A s.log.length c))
    (first | exact KR.out _ (Ext.trans hb11 hb12) | exact KR.out _ hb11 | exact KR.out _ (by (repeat (first | exact Below.refl _ _ | assumption | refine below_drewN ?_ _ | refine Below.drew ?_ | refine Below.alloc ?_ (by first | exact Nat.le_refl _ | (simp; done) | (simp; omega)) _ | refine Below.setCell ?_ (by first | exact Nat.le_refl _ | (simp; done) | (simp; omega)) _))))
    (first
      | (go_at_call 12; refine (toSet_any s.cells s.rows s.slice s.least s.sat A c s.log _ (H.out.ext (Ext.trans HB9.out (by (repeat (first | exact Below.refl _ _ | assumption | refine below_drewN ?_ _ | refine Below.drew ?_ | refine Below.alloc ?_ (by first | exact Nat.le_refl _ | (simp; done) | (simp; omega)) _ | refine Below.setCell ?_ (by first | exact Nat.le_refl _ | (simp; done) | (simp; omega)) _))))) hn0).mono ?_; rintro e w11 ⟨⟨v9, rfl, o9⟩, hb11⟩; have o9r := o9; unfold OS at o9r; obtain ⟨Av9, cv9, rfl, -, -⟩ := own_slice o9r; replace hb11 := Ext.trans (a := w10) (by (repeat (first | exact Below.refl _ _ | assumption | refine below_drewN ?_ _ | refine Below.drew ?_ | refine Below.alloc ?_ (by first | exact Nat.le_refl _ | (simp; done) | (simp; omega)) _ | refine Below.setCell ?_ (by first | exact Nat.le_refl _ | (simp; done) | (simp; omega)) _))) hb11)
      | (go_at_call 14; refine (eqSet_any s.cells s.rows s.slice s.least s.sat s.slice s.least s.sat Av5 Av9 cv5 cv9 s.log _ (Rd.ext (own_rd HX1.out) (by (repeat (first | exact Below.refl _ _ | assumption | refine below_drewN ?_ _ | refine Below.drew ?_ | refine Below.alloc ?_ (by first | exact Nat.le_refl _ | (simp; done) | (simp; omega)) _ | refine Below.setCell ?_ (by first | exact Nat.le_refl _ | (simp; done) | (simp; omega)) _)))) (Rd.ext (own_rd o9) (by (repeat (first | exact Below.refl _ _ | assumption | refine below_drewN ?_ _ | refine Below.drew ?_ | refine Below.alloc ?_ (by first | exact Nat.le_refl _ | (simp; done) | (simp; omega)) _ | refine Below.setCell ?_ (by first | exact Nat.le_refl _ | (simp; done) | (simp; omega)) _)))) (by unfold maxLen; omega) rfl rfl rfl).mono ?_; rintro e w12 ⟨rfl, hb12⟩; replace hb12 := Ext.trans (a := w11) (by (repeat (first | exact Below.refl _ _ | assumption | refine below_drewN ?_ _ | refine Below.drew ?_ | refine Below.alloc ?_ (by first | exact Nat.le_refl _ | (simp; done) | (simp; omega)) _ | refine Below.setCell ?_ (by first | exact Nat.le_refl _ | (simp; done) | (simp; omega)) _))) hb12))
  clear r0 r1 r2 r3 r4 r5 r6 r7 r8 r9 r10 r11 KR HX1 HB9 o9 o9r
  have hs11 := ext_size hb11
  have hB11 := Ext.trans hB10 hb11
  replace o1 := own_ext o1 hb11
  replace o2 := own_ext o2 hb11
  replace o3 := own_ext o3 hb11
  replace o4 := own_ext o4 hb11
  replace o5 := own_ext o5 hb11
  replace o6 := own_ext o6 hb11
  replace o7 := own_ext o7 hb11
  replace o8 := own_ext o8 hb11
  replace kb0 := blk_ext kb0 hb11
  replace kb6 := blk_ext kb6 hb11
  replace kb8 := blk_ext kb8 hb11
  replace kb9 := blk_ext kb9 hb11
  have hs12 := ext_size hb12
  have hB12 := Ext.trans hB11 hb12
  replace o1 := own_ext o1 hb12
  replace o2 := own_ext o2 hb12
  replace o3 := own_ext o3 hb12
  replace o4 := own_ext o4 hb12
  replace o5 := own_ext o5 hb12
  replace o6 := own_ext o6 hb12
  replace o7 := own_ext o7 hb12
  replace o8 := own_ext o8 hb12
  replace kb0 := blk_ext kb0 hb12
  replace kb6 := blk_ext kb6 hb12
  replace kb8 := blk_ext kb8 hb12
  replace kb9 := blk_ext kb9 hb12
  go_wp2_with fail
  refine (toS_any A1 c1 ls _ (H1.out.ext hB12) hn1).mono ?_
  rintro e w13 ⟨⟨v10, rfl, o10⟩, hb13⟩
  have hs13 := ext_size hb13
  have hB13 := Ext.trans hB12 hb13
  replace o1 := own_ext o1 hb13
  replace o2 := own_ext o2 hb13
  replace o3 := own_ext o3 hb13
  replace o4 := own_ext o4 hb13
  replace o5 := own_ext o5 hb13
  replace o6 := own_ext o6 hb13
  replace o7 := own_ext o7 hb13
  replace o8 := own_ext o8 hb13
  replace kb0 := blk_ext kb0 hb13
  replace kb6 := blk_ext kb6 hb13
  replace kb8 := blk_ext kb8 hb13
  replace kb9 := blk_ext kb9 hb13
  have io10 := own_in o10
  obtain ⟨Av10, cv10, rfl, -, zv10⟩ := own_slice o10
  go_wp2_with fail
  refine (eqS_any Av6 Av10 cv6 cv10 ls _ (own_rd o6) (own_rd o10) (by unfold maxLen; omega)).mono ?_
  rintro e w14 ⟨rfl, n9, hw⟩
  have hb14 : Ext w13 w14 := hw ▸ Ext.drewN _ _
  clear hw
  have hs14 := ext_size hb14
  have hB14 := Ext.trans hB13 hb14
  replace o1 := own_ext o1 hb14
  replace o2 := own_ext o2 hb14
  replace o3 := own_ext o3 hb14
  replace o4 := own_ext o4 hb14
  replace o5 := own_ext o5 hb14
  replace o6 := own_ext o6 hb14
  replace o7 := own_ext o7 hb14
  replace o8 := own_ext o8 hb14
  replace o10 := own_ext o10 hb14
  replace kb0 := blk_ext kb0 hb14
  replace kb6 := blk_ext kb6 hb14
  replace kb8 := blk_ext kb8 hb14
  replace kb9 := blk_ext kb9 hb14
  have fkb8 := kb8
  obtain ⟨pkb8c0, pkb8c1, pkb8c2, pkb8c3, pkb8c4, pkb8c5, pkb8f⟩ := blk6 fkb8
  clear fkb8
  go_wp2_with fail
  refine (markSet_any s.cells s.rows s.slice s.least s.sat Av5 cv5 s.log.length 1 (by omega) (by omega) (by omega) _ _ _ o5).mono ?_
  rintro e w15 ⟨rfl, o5m, hg9⟩
  clear pkb8c0 pkb8c1 pkb8c2 pkb8c3 pkb8c4 pkb8c5 pkb8f
  have ht15 := turn_grown hg9 io5
  clear hg9
  have hs15 := turn_size ht15
  have hB15 := ext_turn hB14 ht15 (by omega)
  replace o1 := own_turn o1 ht15 io1 (by omega)
  replace o2 := own_turn o2 ht15 io2 (by omega)
  replace o3 := own_turn o3 ht15 io3 (by omega)
  replace o4 := own_turn o4 ht15 io4 (by omega)
  replace o6 := own_turn o6 ht15 io6 (by omega)
  replace o7 := own_turn o7 ht15 io7 (by omega)
  replace o8 := own_turn o8 ht15 io8 (by omega)
  replace o10 := own_turn o10 ht15 io10 (by omega)
  replace kb0 := blk_turn kb0 ht15 (by omega)
  replace kb6 := blk_turn kb6 ht15 (by omega)
  replace kb8 := blk_turn kb8 ht15 (by omega)
  replace kb9 := blk_turn kb9 ht15 (by omega)
  clear o5
  have o5 := o5m
  clear o5m
  go_wp2_with fail
  refine (markS2_any Av6 cv6 ls.length (1 + s.log.length) _ (by omega) (by omega) (by omega) (by omega) _ _ _ o6).mono ?_
  rintro e w16 ⟨rfl, o6m, hg9⟩
  have ht16 := turn_grown hg9 io6
  clear hg9
  have hs16 := turn_size ht16
  have hB16 := ext_turn hB15 ht16 (by omega)
  replace o1 := own_turn o1 ht16 io1 (by omega)
  replace o2 := own_turn o2 ht16 io2 (by omega)
  replace o3 := own_turn o3 ht16 io3 (by omega)
  replace o4 := own_turn o4 ht16 io4 (by omega)
  replace o5 := own_turn o5 ht16 io5 (by omega)
  replace o7 := own_turn o7 ht16 io7 (by omega)
  replace o8 := own_turn o8 ht16 io8 (by omega)
  replace o10 := own_turn o10 ht16 io10 (by omega)
  replace kb0 := blk_turn kb0 ht16 (by omega)
  replace kb6 := blk_turn kb6 ht16 (by omega)
  replace kb8 := blk_turn kb8 ht16 (by omega)
  replace kb9 := blk_turn kb9 ht16 (by omega)
  clear o6
  have o6 := o6m
  clear o6m
  have fkb6 := kb6
  obtain ⟨pkb6c0, pkb6c1, pkb6c2, pkb6c3, pkb6c4, pkb6c5, pkb6f⟩ := blk6 fkb6
  clear fkb6
  have fkb9 := kb9
  obtain ⟨pkb9c0, pkb9c1, pkb9c2, pkb9c3, pkb9c4, pkb9c5, pkb9f⟩ := blk6 fkb9
  clear fkb9
  go_wp2_with fail
  refine (eqSet_any T.cells T.rows T.slice T.least T.sat T.slice T.least T.sat Av7 Av3 cv7 cv3 T.log _ (own_rd o7) (own_rd o3) (by unfold maxLen; omega) rfl rfl rfl).mono ?_
  rintro e w17 ⟨rfl, hb17⟩
  clear pkb6c0 pkb6c1 pkb6c2 pkb6c3 pkb6c4 pkb6c5 pkb6f
  clear pkb9c0 pkb9c1 pkb9c2 pkb9c3 pkb9c4 pkb9c5 pkb9f
  have hs17 := ext_size hb17
  have hB17 := Ext.trans hB16 hb17
  replace o1 := own_ext o1 hb17
  replace o2 := own_ext o2 hb17
  replace o3 := own_ext o3 hb17
  replace o4 := own_ext o4 hb17
  replace o5 := own_ext o5 hb17
  replace o6 := own_ext o6 hb17
  replace o7 := own_ext o7 hb17
  replace o8 := own_ext o8 hb17
  replace o10 := own_ext o10 hb17
  replace kb0 := blk_ext kb0 hb17
  replace kb6 := blk_ext kb6 hb17
  replace kb8 := blk_ext kb8 hb17
  replace kb9 := blk_ext kb9 hb17
  go_wp2_with fail
  refine (eqB_any Av8 Av4 cv8 cv4 fl _ (own_rd o8) (own_rd o4) (by unfold maxLen; omega)).mono ?_
  rintro e w18 ⟨rfl, n9, hw⟩
  have hb18 : Ext w17 w18 := hw ▸ Ext.drewN _ _
  clear hw
  have hs18 := ext_size hb18
  have hB18 := Ext.trans hB17 hb18
  replace o1 := own_ext o1 hb18
  replace o2 := own_ext o2 hb18
  replace o3 := own_ext o3 hb18
  replace o4 := own_ext o4 hb18
  replace o5 := own_ext o5 hb18
  replace o6 := own_ext o6 hb18
  replace o7 := own_ext o7 hb18
  replace o8 := own_ext o8 hb18
  replace o10 := own_ext o10 hb18
  replace kb0 := blk_ext kb0 hb18
  replace kb6 := blk_ext kb6 hb18
  replace kb8 := blk_ext kb8 hb18
  replace kb9 := blk_ext kb9 hb18
  have fkb9 := kb9
  obtain ⟨pkb9c0, pkb9c1, pkb9c2, pkb9c3, pkb9c4, pkb9c5, pkb9f⟩ := blk6 fkb9
  clear fkb9
  go_wp2_with fail
  refine (markSet_any T.cells T.rows T.slice T.least T.sat Av7 cv7 T.log.length 1 (by omega) (by omega) (by omega) _ _ _ o7).mono ?_
  rintro e w19 ⟨rfl, o7m, hg9⟩
  clear pkb9c0 pkb9c1 pkb9c2 pkb9c3 pkb9c4 pkb9c5 pkb9f
  have ht19 := turn_grown hg9 io7
  have hs19 := turn_size ht19
  have hB19 := ext_turn hB18 ht19 (by omega)
  replace o1 := own_turn o1 ht19 io1 (by omega)
  replace o2 := own_turn o2 ht19 io2 (by omega)
  replace o3 := own_turn o3 ht19 io3 (by omega)
  replace o4 := own_turn o4 ht19 io4 (by omega)
  replace o5 := own_turn o5 ht19 io5 (by omega)
  replace o6 := own_turn o6 ht19 io6 (by omega)
  replace o8 := own_apart o8 hg9 (fun b hb e => hap8 b e.symm hb)
  replace o10 := own_turn o10 ht19 io10 (by omega)
  replace kb0 := blk_turn kb0 ht19 (by omega)
  replace kb6 := blk_turn kb6 ht19 (by omega)
  replace kb8 := blk_turn kb8 ht19 (by omega)
  replace kb9 := blk_turn kb9 ht19 (by omega)
  clear hg9
  clear o7
  have o7 := o7m
  clear o7m
  go_wp2_with fail
  refine (markB2_any Av8 cv8 fl.length (1 + T.log.length) _ (by omega) (by omega) (by omega) (by omega) _ _ _ o8).mono ?_
  rintro e w20 ⟨rfl, o8m, hg9⟩
  have ht20 := turn_grown hg9 io8
  have hs20 := turn_size ht20
  have hB20 := ext_turn hB19 ht20 (by omega)
  replace o1 := own_turn o1 ht20 io1 (by omega)
  replace o2 := own_turn o2 ht20 io2 (by omega)
  replace o3 := own_turn o3 ht20 io3 (by omega)
  replace o4 := own_turn o4 ht20 io4 (by omega)
  replace o5 := own_turn o5 ht20 io5 (by omega)
  replace o6 := own_turn o6 ht20 io6 (by omega)
  replace o7 := own_apart o7 hg9 (fun b hb e => hap8 b hb e.symm)
  replace o10 := own_turn o10 ht20 io10 (by omega)
  replace kb0 := blk_turn kb0 ht20 (by omega)
  replace kb6 := blk_turn kb6 ht20 (by omega)
  replace kb8 := blk_turn kb8 ht20 (by omega)
  replace kb9 := blk_turn kb9 ht20 (by omega)
  clear hg9
  clear o8
  have o8 := o8m
  clear o8m
  have fkb9 := kb9
  obtain ⟨pkb9c0, pkb9c1, pkb9c2, pkb9c3, pkb9c4, pkb9c5, pkb9f⟩ := blk6 fkb9
  clear fkb9
  go_wp2_with fail
  refine (heldSet_any T.cells T.rows T.slice T.least T.sat Av7 cv7 T.log.length 1 (by omega) (by omega) (by omega) _ (own_rd o7)).mono ?_
  rintro e w21 ⟨rfl, hb21⟩
  clear pkb9c0 pkb9c1 pkb9c2 pkb9c3 pkb9c4 pkb9c5 pkb9f
  have hs21 := ext_size hb21
  have hB21 := Ext.trans hB20 hb21
  replace o1 := own_ext o1 hb21
  replace o2 := own_ext o2 hb21
  replace o3 := own_ext o3 hb21
  replace o4 := own_ext o4 hb21
  replace o5 := own_ext o5 hb21
  replace o6 := own_ext o6 hb21
  replace o7 := own_ext o7 hb21
  replace o8 := own_ext o8 hb21
  replace o10 := own_ext o10 hb21
  replace kb0 := blk_ext kb0 hb21
  replace kb6 := blk_ext kb6 hb21
  replace kb8 := blk_ext kb8 hb21
  replace kb9 := blk_ext kb9 hb21
  go_wp2_with fail
  refine (heldB2_any Av8 cv8 fl.length (1 + T.log.length) _ (by omega) (by omega) (by omega) (by omega) _ (own_rd o8)).mono ?_
  rintro e w22 ⟨rfl, hw⟩
  have hb22 : Ext w21 w22 := by rw [hw]; exact Ext.refl _
  clear hw
  have hs22 := ext_size hb22
  have hB22 := Ext.trans hB21 hb22
  replace o1 := own_ext o1 hb22
  replace o2 := own_ext o2 hb22
  replace o3 := own_ext o3 hb22
  replace o4 := own_ext o4 hb22
  replace o5 := own_ext o5 hb22
  replace o6 := own_ext o6 hb22
  replace o7 := own_ext o7 hb22
  replace o8 := own_ext o8 hb22
  replace o10 := own_ext o10 hb22
  replace kb0 := blk_ext kb0 hb22
  replace kb6 := blk_ext kb6 hb22
  replace kb8 := blk_ext kb8 hb22
  replace kb9 := blk_ext kb9 hb22
  have fkb0 := kb0
  obtain ⟨pkb0c0, pkb0c1, pkb0c2, pkb0c3, pkb0c4, pkb0c5, pkb0f⟩ := blk6 fkb0
  clear fkb0
  go_wp2_with fail
  refine (toSet_any s.cells s.rows s.slice s.least s.sat A c s.log _ (H.out.ext hB22) hn0).mono ?_
  rintro e w23 ⟨⟨v11, rfl, o11⟩, hb23⟩
  clear pkb0c0 pkb0c1 pkb0c2 pkb0c3 pkb0c4 pkb0c5 pkb0f
  have hs23 := ext_size hb23
  have hB23 := Ext.trans hB22 hb23
  replace o1 := own_ext o1 hb23
  replace o2 := own_ext o2 hb23
  replace o3 := own_ext o3 hb23
  replace o4 := own_ext o4 hb23
  replace o5 := own_ext o5 hb23
  replace o6 := own_ext o6 hb23
  replace o7 := own_ext o7 hb23
  replace o8 := own_ext o8 hb23
  replace o10 := own_ext o10 hb23
  replace kb0 := blk_ext kb0 hb23
  replace kb6 := blk_ext kb6 hb23
  replace kb8 := blk_ext kb8 hb23
  replace kb9 := blk_ext kb9 hb23
  have io11 := own_in o11
  obtain ⟨Av11, cv11, rfl, -, zv11⟩ := own_slice o11
  go_wp2_with fail
  refine (toS_any A1 c1 ls _ (H1.out.ext hB23) hn1).mono ?_
  rintro e w24 ⟨⟨v12, rfl, o12⟩, hb24⟩
  have hs24 := ext_size hb24
  have hB24 := Ext.trans hB23 hb24
  replace o1 := own_ext o1 hb24
  replace o2 := own_ext o2 hb24
  replace o3 := own_ext o3 hb24
  replace o4 := own_ext o4 hb24
  replace o5 := own_ext o5 hb24
  replace o6 := own_ext o6 hb24
  replace o7 := own_ext o7 hb24
  replace o8 := own_ext o8 hb24
  replace o10 := own_ext o10 hb24
  replace o11 := own_ext o11 hb24
  replace kb0 := blk_ext kb0 hb24
  replace kb6 := blk_ext kb6 hb24
  replace kb8 := blk_ext kb8 hb24
  replace kb9 := blk_ext kb9 hb24
  have io12 := own_in o12
  obtain ⟨Av12, cv12, rfl, -, zv12⟩ := own_slice o12
  go_wp2_with fail
  refine (HI.out Av11 cv11 Av12 cv12 _ (HE.out.ext hB24) (own_rd o11) zv11 (own_rd o12)).mono ?_
  rintro e w25 ⟨⟨v13, v14, rfl, o13, o14, hap14⟩, hb25⟩
  have hs25 := ext_size hb25
  have hB25 := Ext.trans hB24 hb25
  replace o1 := own_ext o1 hb25
  replace o2 := own_ext o2 hb25
  replace o3 := own_ext o3 hb25
  replace o4 := own_ext o4 hb25
  replace o5 := own_ext o5 hb25
  replace o6 := own_ext o6 hb25
  replace o7 := own_ext o7 hb25
  replace o8 := own_ext o8 hb25
  replace o10 := own_ext o10 hb25
  replace o11 := own_ext o11 hb25
  replace o12 := own_ext o12 hb25
  replace kb0 := blk_ext kb0 hb25
  replace kb6 := blk_ext kb6 hb25
  replace kb8 := blk_ext kb8 hb25
  replace kb9 := blk_ext kb9 hb25
  have io13 := own_in o13
  obtain ⟨Av13, cv13, rfl, -, zv13⟩ := own_slice o13
  have io14 := own_in o14
  obtain ⟨Av14, cv14, rfl, -, zv14⟩ := own_slice o14
  have fkb6 := blk_alloc (p := (.cells #[.int .i64 T.cells, .int .i64 T.rows, .float .f32 T.slice, .float .f32 T.least, .float .f32 T.sat, .slice Av13 T.log.length cv13] 28)) kb6
  obtain ⟨pkb6c0, pkb6c1, pkb6c2, pkb6c3, pkb6c4, pkb6c5, pkb6f⟩ := blk6 fkb6
  clear fkb6
  go_wp2_with fail
  refine (eqSet_any T.cells T.rows T.slice T.least T.sat T.slice T.least T.sat Av13 Av3 cv13 cv3 T.log _ ((own_rd o13).ext ((Ext.refl _).alloc _)) ((own_rd o3).ext ((Ext.refl _).alloc _)) (by unfold maxLen; omega) rfl rfl rfl).mono ?_
  rintro e w26 ⟨rfl, hb26⟩
  clear pkb6c0 pkb6c1 pkb6c2 pkb6c3 pkb6c4 pkb6c5 pkb6f
  have kb14 : w26.heap[w25.heap.size]? = some (.cells #[.int .i64 T.cells, .int .i64 T.rows, .float .f32 T.slice, .float .f32 T.least, .float .f32 T.sat, .slice Av13 T.log.length cv13] 28 (0, 0)) := blk_ext (heap_alloc_new _ _) hb26
  have hp26 : Ext w25 (w25.alloc (.cells #[.int .i64 T.cells, .int .i64 T.rows, .float .f32 T.slice, .float .f32 T.least, .float .f32 T.sat, .slice Av13 T.log.length cv13] 28)) := (Ext.refl _).alloc _
  have hq26 : w25.heap.size < w26.heap.size := by have h9 := hb26.size; rw [size_alloc1] at h9; omega
  replace hb26 : Ext w25 w26 := Ext.trans hp26 hb26
  clear hp26
  have hz26 := size_alloc1 w25 (.cells #[.int .i64 T.cells, .int .i64 T.rows, .float .f32 T.slice, .float .f32 T.least, .float .f32 T.sat, .slice Av13 T.log.length cv13] 28)
  have hs26 := ext_size hb26
  have hB26 := Ext.trans hB25 hb26
  replace o1 := own_ext o1 hb26
  replace o2 := own_ext o2 hb26
  replace o3 := own_ext o3 hb26
  replace o4 := own_ext o4 hb26
  replace o5 := own_ext o5 hb26
  replace o6 := own_ext o6 hb26
  replace o7 := own_ext o7 hb26
  replace o8 := own_ext o8 hb26
  replace o10 := own_ext o10 hb26
  replace o11 := own_ext o11 hb26
  replace o12 := own_ext o12 hb26
  replace o13 := own_ext o13 hb26
  replace o14 := own_ext o14 hb26
  replace kb0 := blk_ext kb0 hb26
  replace kb6 := blk_ext kb6 hb26
  replace kb8 := blk_ext kb8 hb26
  replace kb9 := blk_ext kb9 hb26
  go_wp2_with fail
  refine (eqB_any Av14 Av4 cv14 cv4 fl _ (own_rd o14) (own_rd o4) (by unfold maxLen; omega)).mono ?_
  rintro e w27 ⟨rfl, n9, hw⟩
  have hb27 : Ext w26 w27 := hw ▸ Ext.drewN _ _
  clear hw
  have hs27 := ext_size hb27
  have hB27 := Ext.trans hB26 hb27
  replace o1 := own_ext o1 hb27
  replace o2 := own_ext o2 hb27
  replace o3 := own_ext o3 hb27
  replace o4 := own_ext o4 hb27
  replace o5 := own_ext o5 hb27
  replace o6 := own_ext o6 hb27
  replace o7 := own_ext o7 hb27
  replace o8 := own_ext o8 hb27
  replace o10 := own_ext o10 hb27
  replace o11 := own_ext o11 hb27
  replace o12 := own_ext o12 hb27
  replace o13 := own_ext o13 hb27
  replace o14 := own_ext o14 hb27
  replace kb0 := blk_ext kb0 hb27
  replace kb6 := blk_ext kb6 hb27
  replace kb8 := blk_ext kb8 hb27
  replace kb9 := blk_ext kb9 hb27
  replace kb14 := blk_ext kb14 hb27
  have fkb9 := kb9
  obtain ⟨pkb9c0, pkb9c1, pkb9c2, pkb9c3, pkb9c4, pkb9c5, pkb9f⟩ := blk6 fkb9
  clear fkb9
  go_wp2_with fail
  refine (heldSet_any T.cells T.rows T.slice T.least T.sat Av7 cv7 T.log.length 1 (by omega) (by omega) (by omega) _ (own_rd o7)).mono ?_
  rintro e w28 ⟨rfl, hb28⟩
  clear pkb9c0 pkb9c1 pkb9c2 pkb9c3 pkb9c4 pkb9c5 pkb9f
  have hs28 := ext_size hb28
  have hB28 := Ext.trans hB27 hb28
  replace o1 := own_ext o1 hb28
  replace o2 := own_ext o2 hb28
  replace o3 := own_ext o3 hb28
  replace o4 := own_ext o4 hb28
  replace o5 := own_ext o5 hb28
  replace o6 := own_ext o6 hb28
  replace o7 := own_ext o7 hb28
  replace o8 := own_ext o8 hb28
  replace o10 := own_ext o10 hb28
  replace o11 := own_ext o11 hb28
  replace o12 := own_ext o12 hb28
  replace o13 := own_ext o13 hb28
  replace o14 := own_ext o14 hb28
  replace kb0 := blk_ext kb0 hb28
  replace kb6 := blk_ext kb6 hb28
  replace kb8 := blk_ext kb8 hb28
  replace kb9 := blk_ext kb9 hb28
  replace kb14 := blk_ext kb14 hb28
  go_wp2_with fail
  refine (heldB2_any Av8 cv8 fl.length (1 + T.log.length) _ (by omega) (by omega) (by omega) (by omega) _ (own_rd o8)).mono ?_
  rintro e w29 ⟨rfl, hw⟩
  have hb29 : Ext w28 w29 := by rw [hw]; exact Ext.refl _
  clear hw
  have hs29 := ext_size hb29
  have hB29 := Ext.trans hB28 hb29
  replace o1 := own_ext o1 hb29
  replace o2 := own_ext o2 hb29
  replace o3 := own_ext o3 hb29
  replace o4 := own_ext o4 hb29
  replace o5 := own_ext o5 hb29
  replace o6 := own_ext o6 hb29
  replace o7 := own_ext o7 hb29
  replace o8 := own_ext o8 hb29
  replace o10 := own_ext o10 hb29
  replace o11 := own_ext o11 hb29
  replace o12 := own_ext o12 hb29
  replace o13 := own_ext o13 hb29
  replace o14 := own_ext o14 hb29
  replace kb0 := blk_ext kb0 hb29
  replace kb6 := blk_ext kb6 hb29
  replace kb8 := blk_ext kb8 hb29
  replace kb9 := blk_ext kb9 hb29
  replace kb14 := blk_ext kb14 hb29
  go_wp2_with fail
  go_ret
  exact ⟨rfl, hB29⟩
end Go.Proofs.YtfmghfghhipmhaaDoor
