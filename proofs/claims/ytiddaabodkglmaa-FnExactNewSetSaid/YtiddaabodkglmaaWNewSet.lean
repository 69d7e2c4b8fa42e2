import Derived.Test.YtiddaabodkglmaaCu
namespace Go.Proofs.Ytiddaabodkglmaa
open Go.RowKit Go.Fx
set_option linter.unusedVariables false
set_option linter.unusedSimpArgs false
theorem markS_nil (k0 : Int) (w : World) : Calls Try.prog 155 #[.slice none 0 0, .int .i64 k0] w fun e w' => e = .returned (.int .i64 k0) ∧ w = w' := by
  go_enter Try.func155, Try.ntmps155
  go_wp2
  go_loop [1, 5] (fun q i => i = .int .i64 0 ∧ q = .int .i64 k0) (fun _ _ => 0)
  case atStart => exact ⟨rfl, rfl⟩
  case round =>
    obtain ⟨rfl, rfl⟩ := hrel
    go_wp2
    go_ret
    exact ⟨rfl, rfl⟩
theorem heldS_nil (k0 : Int) (w : World) : Calls Try.prog 156 #[.slice none 0 0, .int .i64 k0] w fun e w' => e = .returned (.int .i64 k0) ∧ w = w' := by
  go_enter Try.func156, Try.ntmps156
  go_wp2
  go_loop [1, 5] (fun q i => i = .int .i64 0 ∧ q = .int .i64 k0) (fun _ _ => 0)
  case atStart => exact ⟨rfl, rfl⟩
  case round =>
    obtain ⟨rfl, rfl⟩ := hrel
    go_wp2
    go_ret
    exact ⟨rfl, rfl⟩
theorem markSet_nil (cells rows : Int) (slice least sat : Nat) (k0 : Int) (w : World) : Calls Try.prog 58 #[setV cells rows slice least sat (.slice none 0 0), .int .i64 k0] w fun e w' => e = .returned (.int .i64 k0) ∧ Ext w w' := by
  go_enter Try.func58, Try.ntmps58
  go_wp2_with (go_at_call 155; refine (markS_nil _ _).mono ?_; rintro e w1 ⟨rfl, rfl⟩)
  go_ret
  exact ⟨rfl, (Ext.refl _).alloc _⟩
theorem heldSet_nil (cells rows : Int) (slice least sat : Nat) (k0 : Int) (h0 : 0 ≤ k0) (w : World) : Calls Try.prog 59 #[setV cells rows slice least sat (.slice none 0 0), .int .i64 k0] w fun e w' => e = .returned (.int .i64 k0) ∧ Ext w w' := by
  go_enter Try.func59, Try.ntmps59
  go_wp2_with (go_at_call 156; refine (heldS_nil _ _).mono ?_; rintro e w1 ⟨rfl, rfl⟩)
  go_ret
  exact ⟨rfl, (Ext.refl _).alloc _⟩
theorem newSet_form (cells rows : Int) : ∃ c r s l t, newSet cells rows = setV c r s l t (.slice none 0 0) := by
  unfold newSet
  split
  · exact ⟨_, _, _, _, _, rfl⟩
  · exact ⟨_, _, _, _, _, rfl⟩
set_option maxRecDepth 100000 in
set_option maxHeartbeats 4000000 in
theorem newSet_walk (cells rows : Int) (w : World) :
    Calls Try.prog 8 #[.int .i64 cells, .int .i64 rows] w fun e w' => e = .returned (.bool true) ∧ Ext w w' := by
  obtain ⟨c, r, s, l, t, hV⟩ := newSet_form cells rows
  have hI := fun W => iNewSet_any cells rows W
  have hS := fun W => sNewSet_any cells rows W
  rw [hV] at hI hS
  generalize setOk cells rows 3250585600 1040187392 1065353216 0 = ok at hI hS
  have HI := Lib.hid hI
  have HS := Lib.hid hS
  clear hI hS hV
  go_enter Try.func8, Try.ntmps8
  go_wp2_with fail
  refine (HS.out _).mono ?_
  rintro e w1 ⟨rfl, hb1⟩
  go_wp2_with fail
  refine (HI.out _).mono ?_
  rintro e w2 ⟨rfl, hb2⟩
  have k1 : w2.heap[w1.heap.size]? = some (.cells #[.int .i64 c, .int .i64 r, .float .f32 s, .float .f32 l, .float .f32 t, .slice none 0 0] 40 (0, 0)) := blk_ext (heap_alloc_new _ _) hb2
  have hB2 : Ext w w2 := Ext.trans (hb1.alloc _) hb2
  obtain ⟨ac0, ac1, ac2, ac3, ac4, ac5, af⟩ := blk6 k1
  have l1 : w1.heap.size < w2.heap.size := by have := hb2.size; simp at this; omega
  have al : Ext w2 (w2.alloc (.cells #[.int .i64 c, .int .i64 r, .float .f32 s, .float .f32 l, .float .f32 t, .slice none 0 0] 40)) := (Ext.refl _).alloc _
  go_wp2_with fail
  refine (eqSet_any _ _ _ _ _ _ _ _ _ _ _ _ [] _ (.inl rfl) (.inl rfl) (by unfold maxLen; simp) rfl rfl rfl).mono ?_
  rintro e w3 ⟨rfl, hb3⟩
  have k2 := blk_ext (blk_alloc (p := (.cells #[.int .i64 c, .int .i64 r, .float .f32 s, .float .f32 l, .float .f32 t, .slice none 0 0] 40)) k1) hb3
  have k3 : w3.heap[w2.heap.size]? = some (.cells #[.int .i64 c, .int .i64 r, .float .f32 s, .float .f32 l, .float .f32 t, .slice none 0 0] 40 (0, 0)) := blk_ext (heap_alloc_new _ _) hb3
  have hB3 : Ext w w3 := (hB2.alloc _).trans hb3
  clear ac0 ac1 ac2 ac3 ac4 ac5 af al k1 hb1 hb2 hb3 hB2
  obtain ⟨ac0, ac1, ac2, ac3, ac4, ac5, af⟩ := blk6 k2
  obtain ⟨bc0, bc1, bc2, bc3, bc4, bc5, bf⟩ := blk6 k3
  go_wp2_with fail
  refine (markSet_nil _ _ _ _ _ _ _).mono ?_
  rintro e w4 ⟨rfl, hb4⟩
  have k4 := blk_ext k2 hb4
  have k5 := blk_ext k3 hb4
  have hB4 := hB3.trans hb4
  clear ac0 ac1 ac2 ac3 ac4 ac5 af bc0 bc1 bc2 bc3 bc4 bc5 bf k2 k3 hb4 hB3
  obtain ⟨bc0, bc1, bc2, bc3, bc4, bc5, bf⟩ := blk6 k5
  go_wp2_with fail
  refine (heldSet_nil _ _ _ _ _ _ (by omega) _).mono ?_
  rintro e w5 ⟨rfl, hb5⟩
  have k6 := blk_ext k4 hb5
  have k7 := blk_ext k5 hb5
  have hB5 := hB4.trans hb5
  clear bc0 bc1 bc2 bc3 bc4 bc5 bf k4 k5 hb5 hB4
  go_wp2_with fail
  refine (HI.out _).mono ?_
  rintro e w6 ⟨rfl, hb6⟩
  have k8 := blk_ext k6 hb6
  have k9 := blk_ext k7 hb6
  have l2 : w2.heap.size < w6.heap.size := (Array.getElem?_eq_some_iff.1 k9).1
  have l3 : w1.heap.size < w6.heap.size := by omega
  have hB6 := hB5.trans hb6
  clear k6 k7 hb6 hB5
  obtain ⟨ac0, ac1, ac2, ac3, ac4, ac5, af⟩ := blk6 k8
  obtain ⟨bc0, bc1, bc2, bc3, bc4, bc5, bf⟩ := blk6 k9
  go_wp2_with fail
  refine (eqSet_any _ _ _ _ _ _ _ _ _ _ _ _ [] _ (.inl rfl) (.inl rfl) (by unfold maxLen; simp) rfl rfl rfl).mono ?_
  rintro e w7 ⟨rfl, hb7⟩
  have k10 := blk_ext (blk_alloc (p := (.cells #[.int .i64 c, .int .i64 r, .float .f32 s, .float .f32 l, .float .f32 t, .slice none 0 0] 40)) k9) hb7
  have hB7 : Ext w w7 := (hB6.alloc _).trans hb7
  clear ac0 ac1 ac2 ac3 ac4 ac5 af bc0 bc1 bc2 bc3 bc4 bc5 bf k8 k9 hb7 hB6
  obtain ⟨bc0, bc1, bc2, bc3, bc4, bc5, bf⟩ := blk6 k10
  go_wp2_with fail
  refine (heldSet_nil _ _ _ _ _ _ (by omega) _).mono ?_
  rintro e w8 ⟨rfl, hb8⟩
  go_wp2_with fail
  go_ret
  exact ⟨rfl, hB7.trans hb8⟩
end Go.Proofs.Ytiddaabodkglmaa
