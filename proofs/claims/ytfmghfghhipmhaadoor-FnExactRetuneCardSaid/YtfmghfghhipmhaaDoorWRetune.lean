import Derived.Test.YtfmghfghhipmhaaDoorTu
import Derived.Test.YtfmghfghhipmhaaDoorTs
namespace Go.Proofs.YtfmghfghhipmhaaDoor
open Go.RowKit Go.Fx Go.Sort
set_option linter.unusedVariables false
set_option linter.unusedSimpArgs false
set_option maxRecDepth 100000 in
set_option maxHeartbeats 8000000 in
theorem retune_walk (cells rows : Int) (A1 : Option Addr) (c1 : Nat) (ls : List ByteArray) (w : World) (E : Env w) (h1 : Rd w A1 (ls.map st)) (hn1 : ls.length ≤ maxLen) (hs1 : ∀ x ∈ ls, x.size ≤ maxLen) :
    Calls Tryd.prog 6 #[.int .i64 cells, .int .i64 rows, .slice A1 ls.length c1] w fun e w' => e = .returned (.bool true) ∧ Ext w w' := by
  have HE := Lib.hid E
  have H1 := Lib.hid h1
  have HN1 := Lib.hid hn1
  have HS1 := Lib.hid hs1
  clear E h1 hn1 hs1
  go_enter Tryd.func6, Tryd.ntmps6
  have hB0 : Ext w w := Ext.refl w
  go_wp2_with fail
  refine (szS2_any A1 c1 ls _ _ (H1.out.ext hB0) HN1.out HS1.out (by omega) (by omega)).mono ?_
  rintro e w1 ⟨⟨y, rfl, ya, yb⟩, hw⟩
  have hb1 : Ext w w1 := by rw [hw]; exact Ext.refl _
  clear hw
  have hs1 := ext_size hb1
  have hB1 := Ext.trans hB0 hb1
  by_cases hry : y < 0
  · go_wp2_with fail
    go_ret
    exact ⟨rfl, hB1⟩
  obtain ⟨yl, hx1⟩ := yb (by omega)
  have hn1 : ls.length ≤ 1048576 := by omega
  clear yb
  obtain ⟨T, hT⟩ : ∃ T, retT cells rows (ls.map (·.data.toList)) = T := ⟨_, rfl⟩
  obtain ⟨q, hq⟩ : ∃ q, retOk cells rows (ls.map (·.data.toList)) = q := ⟨_, rfl⟩
  have HI : Hid (∀ (A1 : Option Addr) (c1 : Nat) (W : World), Env W → Rd W A1 (ls.map st) → Calls Tryd.prog 20 #[.int .i64 cells, .int .i64 rows, .slice A1 ls.length c1] W fun e w' => (∃ v, e = .returned (.tuple #[setT T v, .bool q]) ∧ OS w' W.heap.size v T.log) ∧ Ext W w') := Lib.hid (fun A1 c1 W e h3 => by have h := iRetune_any cells rows A1 c1 ls W e h3 hn1 hx1; rw [hT, hq] at h; exact h)
  have HJ : Hid (∀ (A1 : Option Addr) (c1 : Nat) (W : World), Rd W A1 (ls.map st) → Calls Tryd.prog 26 #[.int .i64 cells, .int .i64 rows, .slice A1 ls.length c1] W fun e w' => (∃ v, e = .returned (.tuple #[setT T v, .bool q]) ∧ OS w' W.heap.size v T.log) ∧ Ext W w') := Lib.hid (fun A1 c1 W h3 => by have h := sRetune_any cells rows A1 c1 ls W h3 hn1 hx1; rw [hT, hq] at h; exact h)
  have hTL : T.log.length ≤ 100 := by
    rw [← hT]
    unfold retT
    split
    · have h9 := tuneAll_max (ls.map (·.data.toList)) (newT cells rows)
      have e9 : (newT cells rows).log.length = 0 := rfl
      omega
    · exact Nat.zero_le _
  clear hT hq hx1
  have hT64 : (T.log.length : Int) ≤ 100 := by omega
  have hL64 : (ls.length : Int) ≤ 1048576 := by omega
  go_wp2_with fail
  refine (toS_any A1 c1 ls _ (H1.out.ext hB1) hn1).mono ?_
  rintro e w2 ⟨⟨v1, rfl, o1⟩, hb2⟩
  have hs2 := ext_size hb2
  have hB2 := Ext.trans hB1 hb2
  have io1 := own_in o1
  obtain ⟨Av1, cv1, rfl, -, zv1⟩ := own_slice o1
  go_wp2_with fail
  refine (HJ.out Av1 cv1 _ (own_rd o1)).mono ?_
  rintro e w3 ⟨⟨v2, rfl, o2⟩, hb3⟩
  have hs3 := ext_size hb3
  have hB3 := Ext.trans hB2 hb3
  replace o1 := own_ext o1 hb3
  have io2 := own_in o2
  obtain ⟨Av2, cv2, rfl, -, zv2⟩ := own_slice o2
  go_wp2_with fail
  refine (toS_any A1 c1 ls _ (H1.out.ext (Ext.trans hB3 ((Ext.refl _).alloc _))) hn1).mono ?_
  rintro e w4 ⟨⟨v3, rfl, o3⟩, hb4⟩
  have kb6 : w4.heap[w3.heap.size]? = some (.cells #[.int .i64 T.cells, .int .i64 T.rows, .float .f32 T.slice, .float .f32 T.least, .float .f32 T.sat, .slice Av2 T.log.length cv2] 28 (0, 0)) := blk_ext (heap_alloc_new _ _) hb4
  have hp4 : Ext w3 (w3.alloc (.cells #[.int .i64 T.cells, .int .i64 T.rows, .float .f32 T.slice, .float .f32 T.least, .float .f32 T.sat, .slice Av2 T.log.length cv2] 28)) := (Ext.refl _).alloc _
  have hq4 : w3.heap.size < w4.heap.size := by have h9 := hb4.size; rw [size_alloc1] at h9; omega
  replace hb4 : Ext w3 w4 := Ext.trans hp4 hb4
  clear hp4
  have hz4 := size_alloc1 w3 (.cells #[.int .i64 T.cells, .int .i64 T.rows, .float .f32 T.slice, .float .f32 T.least, .float .f32 T.sat, .slice Av2 T.log.length cv2] 28)
  have hs4 := ext_size hb4
  have hB4 := Ext.trans hB3 hb4
  replace o1 := own_ext o1 hb4
  replace o2 := own_ext o2 hb4
  have io3 := own_in o3
  obtain ⟨Av3, cv3, rfl, -, zv3⟩ := own_slice o3
  go_wp2_with fail
  refine (HI.out Av3 cv3 _ (HE.out.ext hB4) (own_rd o3)).mono ?_
  rintro e w5 ⟨⟨v4, rfl, o4⟩, hb5⟩
  have hs5 := ext_size hb5
  have hB5 := Ext.trans hB4 hb5
  replace o1 := own_ext o1 hb5
  replace o2 := own_ext o2 hb5
  replace o3 := own_ext o3 hb5
  replace kb6 := blk_ext kb6 hb5
  have io4 := own_in o4
  obtain ⟨Av4, cv4, rfl, -, zv4⟩ := own_slice o4
  have fkb6 := blk_alloc (p := (.cells #[.int .i64 T.cells, .int .i64 T.rows, .float .f32 T.slice, .float .f32 T.least, .float .f32 T.sat, .slice Av4 T.log.length cv4] 28)) kb6
  obtain ⟨pkb6c0, pkb6c1, pkb6c2, pkb6c3, pkb6c4, pkb6c5, pkb6f⟩ := blk6 fkb6
  clear fkb6
  go_wp2_with fail
  refine (eqSet_any T.cells T.rows T.slice T.least T.sat T.slice T.least T.sat Av4 Av2 cv4 cv2 T.log _ ((own_rd o4).ext ((Ext.refl _).alloc _)) ((own_rd o2).ext ((Ext.refl _).alloc _)) (by unfold maxLen; omega) rfl rfl rfl).mono ?_
  rintro e w6 ⟨rfl, hb6⟩
  clear pkb6c0 pkb6c1 pkb6c2 pkb6c3 pkb6c4 pkb6c5 pkb6f
  have kb9 : w6.heap[w5.heap.size]? = some (.cells #[.int .i64 T.cells, .int .i64 T.rows, .float .f32 T.slice, .float .f32 T.least, .float .f32 T.sat, .slice Av4 T.log.length cv4] 28 (0, 0)) := blk_ext (heap_alloc_new _ _) hb6
  have hp6 : Ext w5 (w5.alloc (.cells #[.int .i64 T.cells, .int .i64 T.rows, .float .f32 T.slice, .float .f32 T.least, .float .f32 T.sat, .slice Av4 T.log.length cv4] 28)) := (Ext.refl _).alloc _
  have hq6 : w5.heap.size < w6.heap.size := by have h9 := hb6.size; rw [size_alloc1] at h9; omega
  replace hb6 : Ext w5 w6 := Ext.trans hp6 hb6
  clear hp6
  have hz6 := size_alloc1 w5 (.cells #[.int .i64 T.cells, .int .i64 T.rows, .float .f32 T.slice, .float .f32 T.least, .float .f32 T.sat, .slice Av4 T.log.length cv4] 28)
  have hs6 := ext_size hb6
  have hB6 := Ext.trans hB5 hb6
  replace o1 := own_ext o1 hb6
  replace o2 := own_ext o2 hb6
  replace o3 := own_ext o3 hb6
  replace o4 := own_ext o4 hb6
  replace kb6 := blk_ext kb6 hb6
  go_wp2_with fail
  refine (toS_any A1 c1 ls _ (H1.out.ext hB6) hn1).mono ?_
  rintro e w7 ⟨⟨v5, rfl, o5⟩, hb7⟩
  have hs7 := ext_size hb7
  have hB7 := Ext.trans hB6 hb7
  replace o1 := own_ext o1 hb7
  replace o2 := own_ext o2 hb7
  replace o3 := own_ext o3 hb7
  replace o4 := own_ext o4 hb7
  replace kb6 := blk_ext kb6 hb7
  replace kb9 := blk_ext kb9 hb7
  have io5 := own_in o5
  obtain ⟨Av5, cv5, rfl, -, zv5⟩ := own_slice o5
  go_wp2_with fail
  refine (eqS_any Av3 Av5 cv3 cv5 ls _ (own_rd o3) (own_rd o5) (by unfold maxLen; omega)).mono ?_
  rintro e w8 ⟨rfl, n9, hw⟩
  have hb8 : Ext w7 w8 := hw ▸ Ext.drewN _ _
  clear hw
  have hs8 := ext_size hb8
  have hB8 := Ext.trans hB7 hb8
  replace o1 := own_ext o1 hb8
  replace o2 := own_ext o2 hb8
  replace o3 := own_ext o3 hb8
  replace o4 := own_ext o4 hb8
  replace o5 := own_ext o5 hb8
  replace kb6 := blk_ext kb6 hb8
  replace kb9 := blk_ext kb9 hb8
  go_wp2_with fail
  refine (markS2_any Av3 cv3 ls.length 1 _ (by omega) (by omega) (by omega) (by omega) _ _ _ o3).mono ?_
  rintro e w9 ⟨rfl, o3m, hg9⟩
  have ht9 := turn_grown hg9 io3
  clear hg9
  have hs9 := turn_size ht9
  have hB9 := ext_turn hB8 ht9 (by omega)
  replace o1 := own_turn o1 ht9 io1 (by omega)
  replace o2 := own_turn o2 ht9 io2 (by omega)
  replace o4 := own_turn o4 ht9 io4 (by omega)
  replace o5 := own_turn o5 ht9 io5 (by omega)
  replace kb6 := blk_turn kb6 ht9 (by omega)
  replace kb9 := blk_turn kb9 ht9 (by omega)
  clear o3
  have o3 := o3m
  clear o3m
  have fkb6 := kb6
  obtain ⟨pkb6c0, pkb6c1, pkb6c2, pkb6c3, pkb6c4, pkb6c5, pkb6f⟩ := blk6 fkb6
  clear fkb6
  have fkb9 := kb9
  obtain ⟨pkb9c0, pkb9c1, pkb9c2, pkb9c3, pkb9c4, pkb9c5, pkb9f⟩ := blk6 fkb9
  clear fkb9
  go_wp2_with fail
  refine (eqSet_any T.cells T.rows T.slice T.least T.sat T.slice T.least T.sat Av4 Av2 cv4 cv2 T.log _ (own_rd o4) (own_rd o2) (by unfold maxLen; omega) rfl rfl rfl).mono ?_
  rintro e w10 ⟨rfl, hb10⟩
  clear pkb6c0 pkb6c1 pkb6c2 pkb6c3 pkb6c4 pkb6c5 pkb6f
  clear pkb9c0 pkb9c1 pkb9c2 pkb9c3 pkb9c4 pkb9c5 pkb9f
  have hs10 := ext_size hb10
  have hB10 := Ext.trans hB9 hb10
  replace o1 := own_ext o1 hb10
  replace o2 := own_ext o2 hb10
  replace o3 := own_ext o3 hb10
  replace o4 := own_ext o4 hb10
  replace o5 := own_ext o5 hb10
  replace kb6 := blk_ext kb6 hb10
  replace kb9 := blk_ext kb9 hb10
  have fkb9 := kb9
  obtain ⟨pkb9c0, pkb9c1, pkb9c2, pkb9c3, pkb9c4, pkb9c5, pkb9f⟩ := blk6 fkb9
  clear fkb9
  go_wp2_with fail
  refine (markSet_any T.cells T.rows T.slice T.least T.sat Av4 cv4 T.log.length 1 (by omega) (by omega) (by omega) _ _ _ o4).mono ?_
  rintro e w11 ⟨rfl, o4m, hg9⟩
  clear pkb9c0 pkb9c1 pkb9c2 pkb9c3 pkb9c4 pkb9c5 pkb9f
  have ht11 := turn_grown hg9 io4
  clear hg9
  have hs11 := turn_size ht11
  have hB11 := ext_turn hB10 ht11 (by omega)
  replace o1 := own_turn o1 ht11 io1 (by omega)
  replace o2 := own_turn o2 ht11 io2 (by omega)
  replace o3 := own_turn o3 ht11 io3 (by omega)
  replace o5 := own_turn o5 ht11 io5 (by omega)
  replace kb6 := blk_turn kb6 ht11 (by omega)
  replace kb9 := blk_turn kb9 ht11 (by omega)
  clear o4
  have o4 := o4m
  clear o4m
  have fkb9 := kb9
  obtain ⟨pkb9c0, pkb9c1, pkb9c2, pkb9c3, pkb9c4, pkb9c5, pkb9f⟩ := blk6 fkb9
  clear fkb9
  go_wp2_with fail
  refine (heldSet_any T.cells T.rows T.slice T.least T.sat Av4 cv4 T.log.length 1 (by omega) (by omega) (by omega) _ (own_rd o4)).mono ?_
  rintro e w12 ⟨rfl, hb12⟩
  clear pkb9c0 pkb9c1 pkb9c2 pkb9c3 pkb9c4 pkb9c5 pkb9f
  have hs12 := ext_size hb12
  have hB12 := Ext.trans hB11 hb12
  replace o1 := own_ext o1 hb12
  replace o2 := own_ext o2 hb12
  replace o3 := own_ext o3 hb12
  replace o4 := own_ext o4 hb12
  replace o5 := own_ext o5 hb12
  replace kb6 := blk_ext kb6 hb12
  replace kb9 := blk_ext kb9 hb12
  go_wp2_with fail
  refine (toS_any A1 c1 ls _ (H1.out.ext hB12) hn1).mono ?_
  rintro e w13 ⟨⟨v6, rfl, o6⟩, hb13⟩
  have hs13 := ext_size hb13
  have hB13 := Ext.trans hB12 hb13
  replace o1 := own_ext o1 hb13
  replace o2 := own_ext o2 hb13
  replace o3 := own_ext o3 hb13
  replace o4 := own_ext o4 hb13
  replace o5 := own_ext o5 hb13
  replace kb6 := blk_ext kb6 hb13
  replace kb9 := blk_ext kb9 hb13
  have io6 := own_in o6
  obtain ⟨Av6, cv6, rfl, -, zv6⟩ := own_slice o6
  go_wp2_with fail
  refine (HI.out Av6 cv6 _ (HE.out.ext hB13) (own_rd o6)).mono ?_
  rintro e w14 ⟨⟨v7, rfl, o7⟩, hb14⟩
  have hs14 := ext_size hb14
  have hB14 := Ext.trans hB13 hb14
  replace o1 := own_ext o1 hb14
  replace o2 := own_ext o2 hb14
  replace o3 := own_ext o3 hb14
  replace o4 := own_ext o4 hb14
  replace o5 := own_ext o5 hb14
  replace o6 := own_ext o6 hb14
  replace kb6 := blk_ext kb6 hb14
  replace kb9 := blk_ext kb9 hb14
  have io7 := own_in o7
  obtain ⟨Av7, cv7, rfl, -, zv7⟩ := own_slice o7
  have fkb6 := blk_alloc (p := (.cells #[.int .i64 T.cells, .int .i64 T.rows, .float .f32 T.slice, .float .f32 T.least, .float .f32 T.sat, .slice Av7 T.log.length cv7] 28)) kb6
  obtain ⟨pkb6c0, pkb6c1, pkb6c2, pkb6c3, pkb6c4, pkb6c5, pkb6f⟩ := blk6 fkb6
  clear fkb6
  go_wp2_with fail
  refine (eqSet_any T.cells T.rows T.slice T.least T.sat T.slice T.least T.sat Av7 Av2 cv7 cv2 T.log _ ((own_rd o7).ext ((Ext.refl _).alloc _)) ((own_rd o2).ext ((Ext.refl _).alloc _)) (by unfold maxLen; omega) rfl rfl rfl).mono ?_
  rintro e w15 ⟨rfl, hb15⟩
  clear pkb6c0 pkb6c1 pkb6c2 pkb6c3 pkb6c4 pkb6c5 pkb6f
  have kb14 : w15.heap[w14.heap.size]? = some (.cells #[.int .i64 T.cells, .int .i64 T.rows, .float .f32 T.slice, .float .f32 T.least, .float .f32 T.sat, .slice Av7 T.log.length cv7] 28 (0, 0)) := blk_ext (heap_alloc_new _ _) hb15
  have hp15 : Ext w14 (w14.alloc (.cells #[.int .i64 T.cells, .int .i64 T.rows, .float .f32 T.slice, .float .f32 T.least, .float .f32 T.sat, .slice Av7 T.log.length cv7] 28)) := (Ext.refl _).alloc _
  have hq15 : w14.heap.size < w15.heap.size := by have h9 := hb15.size; rw [size_alloc1] at h9; omega
  replace hb15 : Ext w14 w15 := Ext.trans hp15 hb15
  clear hp15
  have hz15 := size_alloc1 w14 (.cells #[.int .i64 T.cells, .int .i64 T.rows, .float .f32 T.slice, .float .f32 T.least, .float .f32 T.sat, .slice Av7 T.log.length cv7] 28)
  have hs15 := ext_size hb15
  have hB15 := Ext.trans hB14 hb15
  replace o1 := own_ext o1 hb15
  replace o2 := own_ext o2 hb15
  replace o3 := own_ext o3 hb15
  replace o4 := own_ext o4 hb15
  replace o5 := own_ext o5 hb15
  replace o6 := own_ext o6 hb15
  replace o7 := own_ext o7 hb15
  replace kb6 := blk_ext kb6 hb15
  replace kb9 := blk_ext kb9 hb15
  have fkb9 := kb9
  obtain ⟨pkb9c0, pkb9c1, pkb9c2, pkb9c3, pkb9c4, pkb9c5, pkb9f⟩ := blk6 fkb9
  clear fkb9
  go_wp2_with fail
  refine (heldSet_any T.cells T.rows T.slice T.least T.sat Av4 cv4 T.log.length 1 (by omega) (by omega) (by omega) _ (own_rd o4)).mono ?_
  rintro e w16 ⟨rfl, hb16⟩
  clear pkb9c0 pkb9c1 pkb9c2 pkb9c3 pkb9c4 pkb9c5 pkb9f
  have hs16 := ext_size hb16
  have hB16 := Ext.trans hB15 hb16
  replace o1 := own_ext o1 hb16
  replace o2 := own_ext o2 hb16
  replace o3 := own_ext o3 hb16
  replace o4 := own_ext o4 hb16
  replace o5 := own_ext o5 hb16
  replace o6 := own_ext o6 hb16
  replace o7 := own_ext o7 hb16
  replace kb6 := blk_ext kb6 hb16
  replace kb9 := blk_ext kb9 hb16
  replace kb14 := blk_ext kb14 hb16
  go_wp2_with fail
  go_ret
  exact ⟨rfl, hB16⟩
end Go.Proofs.YtfmghfghhipmhaaDoor
