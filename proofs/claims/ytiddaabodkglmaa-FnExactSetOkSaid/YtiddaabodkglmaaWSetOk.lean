import Derived.Test.YtiddaabodkglmaaCt
namespace Go.Proofs.Ytiddaabodkglmaa
open Go.RowKit Go.Fx
set_option linter.unusedVariables false
set_option linter.unusedSimpArgs false
set_option maxRecDepth 100000 in
set_option maxHeartbeats 4000000 in
theorem setOk_walk (cells rows : Int) (slice least sat : Nat) (A : Option Addr) (c : Nat) (rs : List ByteArray) (w : World) (h : Rd w A (rs.map st)) (hn : rs.length ≤ maxLen) (hs : ∀ s ∈ rs, s.size ≤ maxLen) :
    Calls Try.prog 7 #[setV cells rows slice least sat (.slice A rs.length c)] w fun e w' => e = .returned (.bool true) ∧ Ext w w' := by
  have H := Lib.hid h
  have HN := Lib.hid hn
  have HS := Lib.hid hs
  clear h hn hs
  go_enter Try.func7, Try.ntmps7
  go_wp2_with fail
  refine (szSet_any _ _ _ _ _ _ _ rs _ _ (H.out.ext ((Ext.refl _).alloc _)) HN.out HS.out (by omega) (by omega)).mono ?_
  rintro e w1 ⟨⟨r, rfl, hr1, hr2⟩, hb1⟩
  have k1 : w1.heap[w.heap.size]? = some (.cells #[.int .i64 cells, .int .i64 rows, .float .f32 slice, .float .f32 least, .float .f32 sat, .slice A rs.length c] 52 (0, 0)) := blk_ext (heap_alloc_new _ _) hb1
  obtain ⟨ac0, ac1, ac2, ac3, ac4, ac5, af⟩ := blk6 k1
  have hb2 : Ext w w1 := ((Ext.refl _).alloc _).trans hb1
  by_cases hr : r < 0
  · go_wp2_with fail
    go_ret
    exact ⟨rfl, hb2⟩
  · have hlen : rs.length ≤ 1048576 := by have := hr2 (by omega); omega
    clear hr2
    have hl64 : (rs.length : Int) ≤ 9223372036854775807 := by omega
    go_wp2_with fail
    refine (toSet_any _ _ _ _ _ _ _ rs _ (H.out.ext hb2) hlen).mono ?_
    rintro e w2 ⟨⟨v, rfl, ho⟩, hb3⟩
    obtain ⟨A2, c2, rfl, -, -⟩ := own_slice ho
    have k2 := blk_ext k1 hb3
    have hb4 := hb2.trans hb3
    obtain ⟨bc0, bc1, bc2, bc3, bc4, bc5, bf⟩ := blk6 k2
    clear ac0 ac1 ac2 ac3 ac4 ac5 af k1 hb1 hb2
    go_wp2_with fail
    refine (sSetOk_any _ _ _ _ _ _ _ _ (by omega) _).mono ?_
    rintro e w3 ⟨rfl, hb5⟩
    have k3 := blk_ext k2 hb5
    have hb6 := hb4.trans hb5
    obtain ⟨ac0, ac1, ac2, ac3, ac4, ac5, af⟩ := blk6 k3
    clear bc0 bc1 bc2 bc3 bc4 bc5 bf k2 hb3 hb4
    go_wp2_with fail
    refine (toSet_any _ _ _ _ _ _ _ rs _ (H.out.ext hb6) hlen).mono ?_
    rintro e w4 ⟨⟨v4, rfl, ho4⟩, hb7⟩
    obtain ⟨A4, c4, rfl, -, -⟩ := own_slice ho4
    have k4 := blk_ext k3 hb7
    have hb8 := hb6.trans hb7
    obtain ⟨bc0, bc1, bc2, bc3, bc4, bc5, bf⟩ := blk6 k4
    clear ac0 ac1 ac2 ac3 ac4 ac5 af k3 hb5 hb6 hb7 ho
    have hal : Ext w4 (w4.alloc (.cells #[.int .i64 cells, .int .i64 rows, .float .f32 slice, .float .f32 least, .float .f32 sat, .slice A4 rs.length c4] 40)) := (Ext.refl _).alloc _
    go_wp2_with fail
    refine (iSetOk_any _ _ _ _ _ _ _ _ (by omega) _).mono ?_
    rintro e w5 ⟨rfl, hb9⟩
    have k5 : w5.heap[w4.heap.size]? = some (.cells #[.int .i64 cells, .int .i64 rows, .float .f32 slice, .float .f32 least, .float .f32 sat, .slice A4 rs.length c4] 40 (0, 0)) := blk_ext (heap_alloc_new _ _) hb9
    have hb10 := (hb8.alloc (.cells #[.int .i64 cells, .int .i64 rows, .float .f32 slice, .float .f32 least, .float .f32 sat, .slice A4 rs.length c4] 40)).trans hb9
    have k6 := blk_ext (blk_alloc (p := .cells #[.int .i64 cells, .int .i64 rows, .float .f32 slice, .float .f32 least, .float .f32 sat, .slice A4 rs.length c4] 40) k4) hb9
    have ho5 := own_ext (own_ext ho4 hal) hb9
    obtain ⟨ac0, ac1, ac2, ac3, ac4, ac5, af⟩ := blk6 k5
    obtain ⟨dc0, dc1, dc2, dc3, dc4, dc5, df⟩ := blk6 k6
    clear bc0 bc1 bc2 bc3 bc4 bc5 bf k4 hb8 hb9 hal ho4
    have K5 := Lib.hid k5
    have HB := Lib.hid hb10
    have HO := Lib.hid ho5
    clear k5 k6 hb10 ho5
    go_wp2_with fail
    go_region_with (first | (go_at_call 54; refine (toSet_any _ _ _ _ _ _ _ rs _ (H.out.ext (HB.out.trans (Ext.drewN _ _))) hlen).mono ?_; rintro e w6 ⟨⟨v6, rfl, ho6⟩, hb11⟩; obtain ⟨A6, c6, rfl, hr6, -⟩ := own_slice ho6; have k7 := blk_ext K5.out ((Ext.drewN _ _).trans hb11); obtain ⟨ec0, ec1, ec2, ec3, ec4, ec5, ef⟩ := blk6 k7; have HC := Lib.hid (Ext.trans (Ext.drewN _ _) hb11); clear k7 hb11) | (go_at_call 56; refine (eqSet_any _ _ _ _ _ _ _ _ _ _ _ _ rs _ (by first | exact Rd.ext (own_rd HO.out) HC.out | exact Rd.ext (own_rd HO.out) (HC.out.trans (Ext.drewN _ _))) (by first | exact hr6 | exact Rd.ext hr6 (Ext.drewN _ _)) HN.out rfl rfl rfl).mono ?_; rintro e w7 ⟨rfl, hb12⟩))
    all_goals go_wp2
    all_goals go_ret
    all_goals first | exact ⟨rfl, (HB.out.trans HC.out).trans hb12⟩ | exact ⟨rfl, (HB.out.trans HC.out).trans ((Ext.drewN _ _).trans hb12)⟩
end Go.Proofs.Ytiddaabodkglmaa
