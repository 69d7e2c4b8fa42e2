import Derived.Test.YtiddaabodkglmaaGreatIc
import Derived.Test.YtiddaabodkglmaaGreatSm
import Derived.Test.YtiddaabodkglmaaGreatSg
namespace Go.Proofs.YtiddaabodkglmaaGreat
open Go.RowKit Go.Fx
set_option linter.unusedVariables false
set_option linter.unusedSimpArgs false
set_option maxRecDepth 100000 in
set_option maxHeartbeats 8000000 in
theorem receive_walk (cells rows : Int) (slice least sat : Nat) (A : Option Addr) (c : Nat) (log : List ByteArray) (A1 : Option Addr) (c1 : Nat) (rs : List Nat) (w : World) (h : Rd w A (log.map st)) (hn : log.length ≤ maxLen) (hs : ∀ s ∈ log, s.size ≤ maxLen) (h1 : Rd w A1 (rs.map fl)) (hm1 : rs.length ≤ maxLen) :
    Calls Tryz.prog 3 #[setV cells rows slice least sat (.slice A log.length c), .slice A1 rs.length c1] w fun e w' => e = .returned (.bool true) ∧ Ext w w' := by
  have hM1 := hm1
  unfold maxLen at hM1
  have H := Lib.hid h
  have HN := Lib.hid hn
  have HS := Lib.hid hs
  have H1 := Lib.hid h1
  clear h hn hs h1
  by_cases hbig1 : 1048576 < rs.length
  · go_enter Tryz.func3, Tryz.ntmps3
    go_wp2_with fail
    go_ret
    exact ⟨rfl, (Ext.refl _).alloc _⟩
  have hn1 : rs.length ≤ 1048576 := by omega
  clear hbig1
  go_enter Tryz.func3, Tryz.ntmps3
  have hB0 : Ext w w := Ext.refl w
  go_wp2_with fail
  refine (szSet_any cells rows slice least sat A c log _ _ (H.out.ext (Ext.trans hB0 ((Ext.refl _).alloc _))) HN.out HS.out (by omega) (by omega)).mono ?_
  rintro e w1 ⟨⟨r, rfl, hr1, hr2⟩, hb1⟩
  have kb0 : w1.heap[w.heap.size]? = some (.cells #[.int .i64 cells, .int .i64 rows, .float .f32 slice, .float .f32 least, .float .f32 sat, .slice A log.length c] 25 (0, 0)) := blk_ext (heap_alloc_new _ _) hb1
  have hp1 : Ext w (w.alloc (.cells #[.int .i64 cells, .int .i64 rows, .float .f32 slice, .float .f32 least, .float .f32 sat, .slice A log.length c] 25)) := (Ext.refl _).alloc _
  have hq1 : w.heap.size < w1.heap.size := by have h9 := hb1.size; rw [size_alloc1] at h9; omega
  replace hb1 : Ext w w1 := Ext.trans hp1 hb1
  clear hp1
  have hz1 := size_alloc1 w (.cells #[.int .i64 cells, .int .i64 rows, .float .f32 slice, .float .f32 least, .float .f32 sat, .slice A log.length c] 25)
  have hs1 := ext_size hb1
  have hB1 := Ext.trans hB0 hb1
  by_cases hr : r < 0
  · go_wp2_with fail
    go_ret
    exact ⟨rfl, hB1⟩
  have hn0 : log.length ≤ 1048576 := by have := hr2 (by omega); omega
  clear hr2
  have hl64 : (log.length : Int) ≤ 9223372036854775807 := by omega
  have fkb0 := kb0
  obtain ⟨pkb0c0, pkb0c1, pkb0c2, pkb0c3, pkb0c4, pkb0c5, pkb0f⟩ := blk6 fkb0
  clear fkb0
  go_wp2_with fail
  refine (toSet_any cells rows slice least sat A c log _ (H.out.ext hB1) hn0).mono ?_
  rintro e w2 ⟨⟨v1, rfl, o1⟩, hb2⟩
  clear pkb0c0 pkb0c1 pkb0c2 pkb0c3 pkb0c4 pkb0c5 pkb0f
  have hs2 := ext_size hb2
  have hB2 := Ext.trans hB1 hb2
  replace kb0 := blk_ext kb0 hb2
  have io1 := own_in o1
  obtain ⟨Av1, cv1, rfl, -, zv1⟩ := own_slice o1
  go_wp2_with fail
  refine (toF_any A1 c1 rs _ (H1.out.ext hB2) hn1).mono ?_
  rintro e w3 ⟨⟨v2, rfl, o2⟩, hb3⟩
  have hs3 := ext_size hb3
  have hB3 := Ext.trans hB2 hb3
  replace o1 := own_ext o1 hb3
  replace kb0 := blk_ext kb0 hb3
  have io2 := own_in o2
  obtain ⟨Av2, cv2, rfl, -, zv2⟩ := own_slice o2
  go_wp2_with fail
  refine (sReceive_any cells rows slice least sat Av1 log.length cv1 Av2 cv2 rs _ (own_rd o2) (by omega) hn1 (own_cap o2)).mono ?_
  rintro e w4 ⟨⟨v3, us3, out3, rfl, o3, hg3⟩, hb4⟩
  have hs4 := ext_size hb4
  have hB4 := Ext.trans hB3 hb4
  replace o1 := own_ext o1 hb4
  replace o2 := own_ext o2 hb4
  replace kb0 := blk_ext kb0 hb4
  have io3 := Rows2.inR o3
  have oo := Rows2.own o3
  rw [List.length_map] at oo
  obtain ⟨Av3, cv3, rfl, -, zv3⟩ := own_slice oo
  clear oo
  have hl3 := rss_len hg3 recv_len.1
  have each3 := rss_each hg3 recv_len.2
  have hsum3 := rss_sum hl3 each3
  have fkb0 := kb0
  obtain ⟨pkb0c0, pkb0c1, pkb0c2, pkb0c3, pkb0c4, pkb0c5, pkb0f⟩ := blk6 fkb0
  clear fkb0
  go_wp2_with fail
  refine (toSet_any cells rows slice least sat A c log _ (H.out.ext hB4) hn0).mono ?_
  rintro e w5 ⟨⟨v4, rfl, o4⟩, hb5⟩
  clear pkb0c0 pkb0c1 pkb0c2 pkb0c3 pkb0c4 pkb0c5 pkb0f
  have hs5 := ext_size hb5
  have hB5 := Ext.trans hB4 hb5
  replace o1 := own_ext o1 hb5
  replace o2 := own_ext o2 hb5
  replace o3 := Rows2.ext o3 hb5
  replace kb0 := blk_ext kb0 hb5
  have io4 := own_in o4
  obtain ⟨Av4, cv4, rfl, -, zv4⟩ := own_slice o4
  go_wp2_with fail
  refine (toF_any A1 c1 rs _ (H1.out.ext (Ext.trans hB5 ((Ext.refl _).alloc _))) hn1).mono ?_
  rintro e w6 ⟨⟨v5, rfl, o5⟩, hb6⟩
  have kb1 : w6.heap[w5.heap.size]? = some (.cells #[.int .i64 cells, .int .i64 rows, .float .f32 slice, .float .f32 least, .float .f32 sat, .slice Av4 log.length cv4] 31 (0, 0)) := blk_ext (heap_alloc_new _ _) hb6
  have hp6 : Ext w5 (w5.alloc (.cells #[.int .i64 cells, .int .i64 rows, .float .f32 slice, .float .f32 least, .float .f32 sat, .slice Av4 log.length cv4] 31)) := (Ext.refl _).alloc _
  have hq6 : w5.heap.size < w6.heap.size := by have h9 := hb6.size; rw [size_alloc1] at h9; omega
  replace hb6 : Ext w5 w6 := Ext.trans hp6 hb6
  clear hp6
  have hz6 := size_alloc1 w5 (.cells #[.int .i64 cells, .int .i64 rows, .float .f32 slice, .float .f32 least, .float .f32 sat, .slice Av4 log.length cv4] 31)
  have hs6 := ext_size hb6
  have hB6 := Ext.trans hB5 hb6
  replace o1 := own_ext o1 hb6
  replace o2 := own_ext o2 hb6
  replace o3 := Rows2.ext o3 hb6
  replace o4 := own_ext o4 hb6
  replace kb0 := blk_ext kb0 hb6
  have io5 := own_in o5
  obtain ⟨Av5, cv5, rfl, -, zv5⟩ := own_slice o5
  have fkb1 := kb1
  obtain ⟨pkb1c0, pkb1c1, pkb1c2, pkb1c3, pkb1c4, pkb1c5, pkb1f⟩ := blk6 fkb1
  clear fkb1
  go_wp2_with fail
  refine (iReceive_any cells rows slice least sat Av4 log.length cv4 Av5 cv5 rs _ (own_rd o5) (by omega) hn1 (own_cap o5)).mono ?_
  rintro e w7 ⟨⟨v6, us6, out6, rfl, o6, hg6⟩, hb7⟩
  clear pkb1c0 pkb1c1 pkb1c2 pkb1c3 pkb1c4 pkb1c5 pkb1f
  have hs7 := ext_size hb7
  have hB7 := Ext.trans hB6 hb7
  replace o1 := own_ext o1 hb7
  replace o2 := own_ext o2 hb7
  replace o3 := Rows2.ext o3 hb7
  replace o4 := own_ext o4 hb7
  replace o5 := own_ext o5 hb7
  replace kb0 := blk_ext kb0 hb7
  replace kb1 := blk_ext kb1 hb7
  have io6 := Rows2.inR o6
  have oo := Rows2.own o6
  rw [List.length_map] at oo
  obtain ⟨Av6, cv6, rfl, -, zv6⟩ := own_slice oo
  clear oo
  have hl6 := rss_len hg6 recv_len.1
  have each6 := rss_each hg6 recv_len.2
  have hsum6 := rss_sum hl6 each6
  go_wp2_with fail
  refine (eqCC_any Av6 Av3 cv6 cv3 _ _ out6 out3 _ (Rows2.rd o6).1 (Rows2.rd o3).1 (by unfold maxLen; omega) (fun r hr => Nat.le_trans (each6 r hr) (by unfold maxLen; omega)) (hg6.trans hg3.symm)).mono ?_
  rintro e w8 ⟨rfl, hw⟩
  have hb8 : Ext w7 w8 := by first | exact hw | (rw [hw]; exact Ext.refl _) | (obtain ⟨n, e⟩ := hw; rw [e]; exact Ext.drewN _ _)
  have hs8 := ext_size hb8
  have hB8 := Ext.trans hB7 hb8
  replace o1 := own_ext o1 hb8
  replace o2 := own_ext o2 hb8
  replace o3 := Rows2.ext o3 hb8
  replace o4 := own_ext o4 hb8
  replace o5 := own_ext o5 hb8
  replace o6 := Rows2.ext o6 hb8
  replace kb0 := blk_ext kb0 hb8
  replace kb1 := blk_ext kb1 hb8
  have KR : Hid (∀ W, Ext w8 W → W.cell? ⟨w5.heap.size, 0, none⟩ = some (.int .i64 cells) ∧ W.cell? ⟨w5.heap.size, 1, none⟩ = some (.int .i64 rows) ∧ W.cell? ⟨w5.heap.size, 2, none⟩ = some (.float .f32 slice) ∧ W.cell? ⟨w5.heap.size, 3, none⟩ = some (.float .f32 least) ∧ W.cell? ⟨w5.heap.size, 4, none⟩ = some (.float .f32 sat) ∧ W.cell? ⟨w5.heap.size, 5, none⟩ = some (.slice Av4 log.length cv4) ∧ W.cell? ⟨w.heap.size, 0, none⟩ = some (.int .i64 cells) ∧ W.cell? ⟨w.heap.size, 1, none⟩ = some (.int .i64 rows) ∧ W.cell? ⟨w.heap.size, 2, none⟩ = some (.float .f32 slice) ∧ W.cell? ⟨w.heap.size, 3, none⟩ = some (.float .f32 least) ∧ W.cell? ⟨w.heap.size, 4, none⟩ = some (.float .f32 sat) ∧ W.cell? ⟨w.heap.size, 5, none⟩ = some (.slice A log.length c)) := Lib.hid (fun W hW => by
    have f1 := blk_ext kb1 hW
    have f2 := blk_ext kb0 hW
    obtain ⟨ac0, ac1, ac2, ac3, ac4, ac5, af⟩ := blk6 f1
    obtain ⟨bc0, bc1, bc2, bc3, bc4, bc5, bf⟩ := blk6 f2
    exact ⟨ac0, ac1, ac2, ac3, ac4, ac5, bc0, bc1, bc2, bc3, bc4, bc5⟩)
  obtain ⟨r0, r1, r2, r3, r4, r5, r6, r7, r8, r9, r10, r11⟩ := KR.out _ (Ext.refl _)
  have HX1 := Lib.hid o4
  have HB9 := Lib.hid hB8
  go_wp2_with fail
  go_region_held3 (fun W => W.cell? ⟨w5.heap.size, 0, none⟩ = some (.int .i64 cells) ∧ W.cell? ⟨w5.heap.size, 1, none⟩ = some (.int .i64 rows) ∧ W.cell? ⟨w5.heap.size, 2, none⟩ = some (.float .f32 slice) ∧ W.cell? ⟨w5.heap.size, 3, none⟩ = some (.float .f32 least) ∧ W.cell? ⟨w5.heap.size, 4, none⟩ = some (.float .f32 sat) ∧ W.cell? ⟨w5.heap.size, 5, none⟩ = some (.slice Av4 log.length cv4) ∧ W.cell? ⟨w.heap.size, 0, none⟩ = some (.int .i64 cells) ∧ W.cell? ⟨w.heap.size, 1, none⟩ = some (.int .i64 rows) ∧ W.cell? ⟨w.heap.size, 2, none⟩ = some (.float .f32 slice) ∧ W.cell? ⟨w.heap.size, 3, none⟩ = some (.float .f32 least) ∧ W.cell? ⟨w.heap.size, 4, none⟩ = some (.float .f32 sat) ∧ W.cell? ⟨w.heap.size, 5, none⟩ = some (.slice A log.length c))
    (first | exact KR.out _ (Ext.trans hb9 hb10) | exact KR.out _ hb9 | exact KR.out _ (by (repeat (first | exact Below.refl _ _ | assumption | refine below_drewN ?_ _ | refine Below.drew ?_ | refine Below.alloc ?_ (by first | exact Nat.le_refl _ | (simp; done) | (simp; omega)) _ | refine Below.setCell ?_ (by first | exact Nat.le_refl _ | (simp; done) | (simp; omega)) _))))
    (first
      | (go_at_call 6; refine (toSet_any cells rows slice least sat A c log _ (H.out.ext (Ext.trans HB9.out (by (repeat (first | exact Below.refl _ _ | assumption | refine below_drewN ?_ _ | refine Below.drew ?_ | refine Below.alloc ?_ (by first | exact Nat.le_refl _ | (simp; done) | (simp; omega)) _ | refine Below.setCell ?_ (by first | exact Nat.le_refl _ | (simp; done) | (simp; omega)) _))))) hn0).mono ?_; rintro e w9 ⟨⟨v7, rfl, o7⟩, hb9⟩; have o7r := o7; unfold OS at o7r; obtain ⟨Av7, cv7, rfl, -, -⟩ := own_slice o7r; replace hb9 := Ext.trans (a := w8) (by (repeat (first | exact Below.refl _ _ | assumption | refine below_drewN ?_ _ | refine Below.drew ?_ | refine Below.alloc ?_ (by first | exact Nat.le_refl _ | (simp; done) | (simp; omega)) _ | refine Below.setCell ?_ (by first | exact Nat.le_refl _ | (simp; done) | (simp; omega)) _))) hb9)
      | (go_at_call 10; refine (eqSet_any cells rows slice least sat slice least sat Av4 Av7 cv4 cv7 log _ (Rd.ext (own_rd HX1.out) (by (repeat (first | exact Below.refl _ _ | assumption | refine below_drewN ?_ _ | refine Below.drew ?_ | refine Below.alloc ?_ (by first | exact Nat.le_refl _ | (simp; done) | (simp; omega)) _ | refine Below.setCell ?_ (by first | exact Nat.le_refl _ | (simp; done) | (simp; omega)) _)))) (Rd.ext (own_rd o7) (by (repeat (first | exact Below.refl _ _ | assumption | refine below_drewN ?_ _ | refine Below.drew ?_ | refine Below.alloc ?_ (by first | exact Nat.le_refl _ | (simp; done) | (simp; omega)) _ | refine Below.setCell ?_ (by first | exact Nat.le_refl _ | (simp; done) | (simp; omega)) _)))) (by unfold maxLen; omega) rfl rfl rfl).mono ?_; rintro e w10 ⟨rfl, hb10⟩; replace hb10 := Ext.trans (a := w9) (by (repeat (first | exact Below.refl _ _ | assumption | refine below_drewN ?_ _ | refine Below.drew ?_ | refine Below.alloc ?_ (by first | exact Nat.le_refl _ | (simp; done) | (simp; omega)) _ | refine Below.setCell ?_ (by first | exact Nat.le_refl _ | (simp; done) | (simp; omega)) _))) hb10))
  clear r0 r1 r2 r3 r4 r5 r6 r7 r8 r9 r10 r11 KR HX1 HB9 o7 o7r
  have hs9 := ext_size hb9
  have hB9 := Ext.trans hB8 hb9
  replace o1 := own_ext o1 hb9
  replace o2 := own_ext o2 hb9
  replace o3 := Rows2.ext o3 hb9
  replace o4 := own_ext o4 hb9
  replace o5 := own_ext o5 hb9
  replace o6 := Rows2.ext o6 hb9
  replace kb0 := blk_ext kb0 hb9
  replace kb1 := blk_ext kb1 hb9
  have hs10 := ext_size hb10
  have hB10 := Ext.trans hB9 hb10
  replace o1 := own_ext o1 hb10
  replace o2 := own_ext o2 hb10
  replace o3 := Rows2.ext o3 hb10
  replace o4 := own_ext o4 hb10
  replace o5 := own_ext o5 hb10
  replace o6 := Rows2.ext o6 hb10
  replace kb0 := blk_ext kb0 hb10
  replace kb1 := blk_ext kb1 hb10
  go_wp2_with fail
  refine (toF_any A1 c1 rs _ (H1.out.ext hB10) hn1).mono ?_
  rintro e w11 ⟨⟨v8, rfl, o8⟩, hb11⟩
  have hs11 := ext_size hb11
  have hB11 := Ext.trans hB10 hb11
  replace o1 := own_ext o1 hb11
  replace o2 := own_ext o2 hb11
  replace o3 := Rows2.ext o3 hb11
  replace o4 := own_ext o4 hb11
  replace o5 := own_ext o5 hb11
  replace o6 := Rows2.ext o6 hb11
  replace kb0 := blk_ext kb0 hb11
  replace kb1 := blk_ext kb1 hb11
  have io8 := own_in o8
  obtain ⟨Av8, cv8, rfl, -, zv8⟩ := own_slice o8
  go_wp2_with fail
  refine (eqF_any Av5 Av8 cv5 cv8 rs rs _ (own_rd o5) (own_rd o8) (by unfold maxLen; omega) rfl).mono ?_
  rintro e w12 ⟨rfl, n9, hw⟩
  have hb12 : Ext w11 w12 := hw ▸ Ext.drewN _ _
  clear hw
  have hs12 := ext_size hb12
  have hB12 := Ext.trans hB11 hb12
  replace o1 := own_ext o1 hb12
  replace o2 := own_ext o2 hb12
  replace o3 := Rows2.ext o3 hb12
  replace o4 := own_ext o4 hb12
  replace o5 := own_ext o5 hb12
  replace o6 := Rows2.ext o6 hb12
  replace o8 := own_ext o8 hb12
  replace kb0 := blk_ext kb0 hb12
  replace kb1 := blk_ext kb1 hb12
  have fkb1 := kb1
  obtain ⟨pkb1c0, pkb1c1, pkb1c2, pkb1c3, pkb1c4, pkb1c5, pkb1f⟩ := blk6 fkb1
  clear fkb1
  go_wp2_with fail
  refine (markSet_any cells rows slice least sat Av4 cv4 log.length 1 (by omega) (by omega) (by omega) _ _ _ o4).mono ?_
  rintro e w13 ⟨rfl, o4m, hg9⟩
  clear pkb1c0 pkb1c1 pkb1c2 pkb1c3 pkb1c4 pkb1c5 pkb1f
  have ht13 := turn_grown hg9 io4
  clear hg9
  have hs13 := turn_size ht13
  have hB13 := ext_turn hB12 ht13 (by omega)
  replace o1 := own_turn o1 ht13 io1 (by omega)
  replace o2 := own_turn o2 ht13 io2 (by omega)
  replace o3 := Rows2.turn o3 ht13 io3 (by omega)
  replace o5 := own_turn o5 ht13 io5 (by omega)
  replace o6 := Rows2.turn o6 ht13 io6 (by omega)
  replace o8 := own_turn o8 ht13 io8 (by omega)
  replace kb0 := blk_turn kb0 ht13 (by omega)
  replace kb1 := blk_turn kb1 ht13 (by omega)
  clear o4
  have o4 := o4m
  clear o4m
  go_wp2_with fail
  refine (markF_any Av5 cv5 rs.length _ (by omega) (by omega) (by omega) _ _ _ o5).mono ?_
  rintro e w14 ⟨rfl, o5m, hg9⟩
  have ht14 := turn_grown hg9 io5
  clear hg9
  have hs14 := turn_size ht14
  have hB14 := ext_turn hB13 ht14 (by omega)
  replace o1 := own_turn o1 ht14 io1 (by omega)
  replace o2 := own_turn o2 ht14 io2 (by omega)
  replace o3 := Rows2.turn o3 ht14 io3 (by omega)
  replace o4 := own_turn o4 ht14 io4 (by omega)
  replace o6 := Rows2.turn o6 ht14 io6 (by omega)
  replace o8 := own_turn o8 ht14 io8 (by omega)
  replace kb0 := blk_turn kb0 ht14 (by omega)
  replace kb1 := blk_turn kb1 ht14 (by omega)
  clear o5
  have o5 := o5m
  clear o5m
  go_wp2_with fail
  refine (eqCC_any Av6 Av3 cv6 cv3 _ _ out6 out3 _ (Rows2.rd o6).1 (Rows2.rd o3).1 (by unfold maxLen; omega) (fun r hr => Nat.le_trans (each6 r hr) (by unfold maxLen; omega)) (hg6.trans hg3.symm)).mono ?_
  rintro e w15 ⟨rfl, hw⟩
  have hb15 : Ext w14 w15 := by first | exact hw | (rw [hw]; exact Ext.refl _) | (obtain ⟨n, e⟩ := hw; rw [e]; exact Ext.drewN _ _)
  have hs15 := ext_size hb15
  have hB15 := Ext.trans hB14 hb15
  replace o1 := own_ext o1 hb15
  replace o2 := own_ext o2 hb15
  replace o3 := Rows2.ext o3 hb15
  replace o4 := own_ext o4 hb15
  replace o5 := own_ext o5 hb15
  replace o6 := Rows2.ext o6 hb15
  replace o8 := own_ext o8 hb15
  replace kb0 := blk_ext kb0 hb15
  replace kb1 := blk_ext kb1 hb15
  go_wp2_with fail
  refine (markCC_any Av6 cv6 out6.length _ (rowsC out6) (out6.map List.length) _ _ _ _ _ (by simp) (by simp) (by omega) (by omega) (by omega) o6 io6).mono ?_
  rintro e w16 ⟨rfl, o6m, ht16⟩
  have hs16 := turn_size ht16
  have hB16 := ext_turn hB15 ht16 (by omega)
  replace o1 := own_turn o1 ht16 io1 (by omega)
  replace o2 := own_turn o2 ht16 io2 (by omega)
  replace o3 := Rows2.turn o3 ht16 io3 (by omega)
  replace o4 := own_turn o4 ht16 io4 (by omega)
  replace o5 := own_turn o5 ht16 io5 (by omega)
  replace o8 := own_turn o8 ht16 io8 (by omega)
  replace kb0 := blk_turn kb0 ht16 (by omega)
  replace kb1 := blk_turn kb1 ht16 (by omega)
  clear o6
  have o6 := o6m
  clear o6m
  go_wp2_with fail
  refine (heldCC_any Av6 cv6 out6.length _ (out6.map List.length) _ _ (by simp) (by omega) (by omega) (by omega) (Rows2.rd o6).1).mono ?_
  rintro e w17 ⟨rfl, hw⟩
  have hb17 : Ext w16 w17 := by first | exact hw | (rw [← hw]; exact Ext.refl _) | (obtain ⟨n, e⟩ := hw; rw [e]; exact Ext.drewN _ _)
  clear hw
  have hs17 := ext_size hb17
  have hB17 := Ext.trans hB16 hb17
  replace o1 := own_ext o1 hb17
  replace o2 := own_ext o2 hb17
  replace o3 := Rows2.ext o3 hb17
  replace o4 := own_ext o4 hb17
  replace o5 := own_ext o5 hb17
  replace o6 := Rows2.ext o6 hb17
  replace o8 := own_ext o8 hb17
  replace kb0 := blk_ext kb0 hb17
  replace kb1 := blk_ext kb1 hb17
  have fkb0 := kb0
  obtain ⟨pkb0c0, pkb0c1, pkb0c2, pkb0c3, pkb0c4, pkb0c5, pkb0f⟩ := blk6 fkb0
  clear fkb0
  go_wp2_with fail
  refine (toSet_any cells rows slice least sat A c log _ (H.out.ext hB17) hn0).mono ?_
  rintro e w18 ⟨⟨v9, rfl, o9⟩, hb18⟩
  clear pkb0c0 pkb0c1 pkb0c2 pkb0c3 pkb0c4 pkb0c5 pkb0f
  have hs18 := ext_size hb18
  have hB18 := Ext.trans hB17 hb18
  replace o1 := own_ext o1 hb18
  replace o2 := own_ext o2 hb18
  replace o3 := Rows2.ext o3 hb18
  replace o4 := own_ext o4 hb18
  replace o5 := own_ext o5 hb18
  replace o6 := Rows2.ext o6 hb18
  replace o8 := own_ext o8 hb18
  replace kb0 := blk_ext kb0 hb18
  replace kb1 := blk_ext kb1 hb18
  have io9 := own_in o9
  obtain ⟨Av9, cv9, rfl, -, zv9⟩ := own_slice o9
  go_wp2_with fail
  refine (toF_any A1 c1 rs _ (H1.out.ext hB18) hn1).mono ?_
  rintro e w19 ⟨⟨v10, rfl, o10⟩, hb19⟩
  have hs19 := ext_size hb19
  have hB19 := Ext.trans hB18 hb19
  replace o1 := own_ext o1 hb19
  replace o2 := own_ext o2 hb19
  replace o3 := Rows2.ext o3 hb19
  replace o4 := own_ext o4 hb19
  replace o5 := own_ext o5 hb19
  replace o6 := Rows2.ext o6 hb19
  replace o8 := own_ext o8 hb19
  replace o9 := own_ext o9 hb19
  replace kb0 := blk_ext kb0 hb19
  replace kb1 := blk_ext kb1 hb19
  have io10 := own_in o10
  obtain ⟨Av10, cv10, rfl, -, zv10⟩ := own_slice o10
  go_wp2_with fail
  refine (iReceive_any cells rows slice least sat Av9 log.length cv9 Av10 cv10 rs _ (own_rd o10) (by omega) hn1 (own_cap o10)).mono ?_
  rintro e w20 ⟨⟨v11, us11, out11, rfl, o11, hg11⟩, hb20⟩
  have hs20 := ext_size hb20
  have hB20 := Ext.trans hB19 hb20
  replace o1 := own_ext o1 hb20
  replace o2 := own_ext o2 hb20
  replace o3 := Rows2.ext o3 hb20
  replace o4 := own_ext o4 hb20
  replace o5 := own_ext o5 hb20
  replace o6 := Rows2.ext o6 hb20
  replace o8 := own_ext o8 hb20
  replace o9 := own_ext o9 hb20
  replace o10 := own_ext o10 hb20
  replace kb0 := blk_ext kb0 hb20
  replace kb1 := blk_ext kb1 hb20
  have io11 := Rows2.inR o11
  have oo := Rows2.own o11
  rw [List.length_map] at oo
  obtain ⟨Av11, cv11, rfl, -, zv11⟩ := own_slice oo
  clear oo
  have hl11 := rss_len hg11 recv_len.1
  have each11 := rss_each hg11 recv_len.2
  have hsum11 := rss_sum hl11 each11
  go_wp2_with fail
  refine (eqCC_any Av11 Av3 cv11 cv3 _ _ out11 out3 _ (Rows2.rd o11).1 (Rows2.rd o3).1 (by unfold maxLen; omega) (fun r hr => Nat.le_trans (each11 r hr) (by unfold maxLen; omega)) (hg11.trans hg3.symm)).mono ?_
  rintro e w21 ⟨rfl, hw⟩
  have hb21 : Ext w20 w21 := by first | exact hw | (rw [hw]; exact Ext.refl _) | (obtain ⟨n, e⟩ := hw; rw [e]; exact Ext.drewN _ _)
  have hs21 := ext_size hb21
  have hB21 := Ext.trans hB20 hb21
  replace o1 := own_ext o1 hb21
  replace o2 := own_ext o2 hb21
  replace o3 := Rows2.ext o3 hb21
  replace o4 := own_ext o4 hb21
  replace o5 := own_ext o5 hb21
  replace o6 := Rows2.ext o6 hb21
  replace o8 := own_ext o8 hb21
  replace o9 := own_ext o9 hb21
  replace o10 := own_ext o10 hb21
  replace o11 := Rows2.ext o11 hb21
  replace kb0 := blk_ext kb0 hb21
  replace kb1 := blk_ext kb1 hb21
  go_wp2_with fail
  refine (heldCC_any Av6 cv6 out6.length _ (out6.map List.length) _ _ (by simp) (by omega) (by omega) (by omega) (Rows2.rd o6).1).mono ?_
  rintro e w22 ⟨rfl, hw⟩
  have hb22 : Ext w21 w22 := by first | exact hw | (rw [← hw]; exact Ext.refl _) | (obtain ⟨n, e⟩ := hw; rw [e]; exact Ext.drewN _ _)
  clear hw
  have hs22 := ext_size hb22
  have hB22 := Ext.trans hB21 hb22
  replace o1 := own_ext o1 hb22
  replace o2 := own_ext o2 hb22
  replace o3 := Rows2.ext o3 hb22
  replace o4 := own_ext o4 hb22
  replace o5 := own_ext o5 hb22
  replace o6 := Rows2.ext o6 hb22
  replace o8 := own_ext o8 hb22
  replace o9 := own_ext o9 hb22
  replace o10 := own_ext o10 hb22
  replace o11 := Rows2.ext o11 hb22
  replace kb0 := blk_ext kb0 hb22
  replace kb1 := blk_ext kb1 hb22
  go_wp2_with fail
  go_ret
  exact ⟨rfl, hB22⟩
end Go.Proofs.YtiddaabodkglmaaGreat
