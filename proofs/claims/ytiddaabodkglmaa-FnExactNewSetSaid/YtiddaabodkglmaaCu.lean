import Derived.Test.YtiddaabodkglmaaCt
namespace Go.Proofs.Ytiddaabodkglmaa
open Go.RowKit Go.Fx
set_option linter.unusedVariables false
set_option linter.unusedSimpArgs false
/-- what 'NewSet' hands back -/
def newSet (cells rows : Int) : Value := if setOk cells rows 3250585600 1040187392 1065353216 0 = true then setV cells rows 3250585600 1040187392 1065353216 (.slice none 0 0) else setV 0 0 0 0 0 (.slice none 0 0)
set_option maxRecDepth 100000 in
set_option maxHeartbeats 1000000 in
theorem iNewSet_any (cells rows : Int) (w : World) :
    Calls Try.prog 43 #[.int .i64 cells, .int .i64 rows] w fun e w' => e = .returned (.tuple #[newSet cells rows, .bool (setOk cells rows 3250585600 1040187392 1065353216 0)]) ∧ Ext w w' := by
  cases hok : setOk cells rows 3250585600 1040187392 1065353216 0
  · have HN : Hid (newSet cells rows = setV 0 0 0 0 0 (.slice none 0 0)) := Lib.hid (by unfold newSet; rw [hok]; rfl)
    go_enter Try.func43, Try.ntmps43
    go_wp2_with fail
    refine (iSetOk_any _ _ _ _ _ _ _ _ (by omega) _).mono ?_
    rintro e w1 ⟨rfl, hb1⟩
    rw [hok]
    have k1 : w1.heap[w.heap.size]? = some (.cells #[.int .i64 0, .int .i64 0, .float .f32 0, .float .f32 0, .float .f32 0, .slice none 0 0] 40 (0, 0)) := blk_ext (blk_alloc (heap_alloc_new _ _)) hb1
    obtain ⟨ac0, ac1, ac2, ac3, ac4, ac5, af⟩ := blk6 k1
    have hb2 : Ext w w1 := Ext.trans (((Ext.refl _).alloc _).alloc _) hb1
    go_wp2_with fail
    refine bodyPost_ret (v := .tuple #[setV 0 0 0 0 0 (.slice none 0 0), .bool false]) (by simp [results, Try.results43, go_sem, *]) rfl ⟨by rw [HN.out], ?_⟩
    have s1 : w.heap.size ≤ w.heap.size := Nat.le_refl _
    refine Below.setCell ?_ s1 _
    refine Below.setCell ?_ s1 _
    refine Below.setCell ?_ s1 _
    refine Below.setCell ?_ s1 _
    refine Below.setCell ?_ s1 _
    refine Below.setCell ?_ s1 _
    exact hb2
  · have HN : Hid (newSet cells rows = setV cells rows 3250585600 1040187392 1065353216 (.slice none 0 0)) := Lib.hid (by unfold newSet; rw [hok]; rfl)
    go_enter Try.func43, Try.ntmps43
    go_wp2_with fail
    refine (iSetOk_any _ _ _ _ _ _ _ _ (by omega) _).mono ?_
    rintro e w1 ⟨rfl, hb1⟩
    rw [hok]
    have k1 : w1.heap[w.heap.size]? = some (.cells #[.int .i64 0, .int .i64 0, .float .f32 0, .float .f32 0, .float .f32 0, .slice none 0 0] 40 (0, 0)) := blk_ext (blk_alloc (heap_alloc_new _ _)) hb1
    have k2 : w1.heap[w.heap.size + 1]? = some (.cells #[.int .i64 cells, .int .i64 rows, .float .f32 3250585600, .float .f32 1040187392, .float .f32 1065353216, .slice none 0 0] 40 (0, 0)) := blk_ext (by rw [show w.heap.size + 1 = (w.alloc _).heap.size by simp]; exact heap_alloc_new _ _) hb1
    obtain ⟨ac0, ac1, ac2, ac3, ac4, ac5, af⟩ := blk6 k1
    obtain ⟨bc0, bc1, bc2, bc3, bc4, bc5, bf⟩ := blk6 k2
    have hb2 : Ext w w1 := Ext.trans (((Ext.refl _).alloc _).alloc _) hb1
    go_wp2_with fail
    refine bodyPost_ret (v := .tuple #[setV cells rows 3250585600 1040187392 1065353216 (.slice none 0 0), .bool true]) (by simp [results, Try.results43, go_sem, *]) rfl ⟨by rw [HN.out], ?_⟩
    have s1 : w.heap.size ≤ w.heap.size := Nat.le_refl _
    refine Below.setCell ?_ s1 _
    refine Below.setCell ?_ s1 _
    refine Below.setCell ?_ s1 _
    refine Below.setCell ?_ s1 _
    refine Below.setCell ?_ s1 _
    refine Below.setCell ?_ s1 _
    exact hb2
set_option maxRecDepth 100000 in
set_option maxHeartbeats 1000000 in
theorem sNewSet_any (cells rows : Int) (w : World) :
    Calls Try.prog 57 #[.int .i64 cells, .int .i64 rows] w fun e w' => e = .returned (.tuple #[newSet cells rows, .bool (setOk cells rows 3250585600 1040187392 1065353216 0)]) ∧ Ext w w' := by
  cases hok : setOk cells rows 3250585600 1040187392 1065353216 0
  · have HN : Hid (newSet cells rows = setV 0 0 0 0 0 (.slice none 0 0)) := Lib.hid (by unfold newSet; rw [hok]; rfl)
    go_enter Try.func57, Try.ntmps57
    go_wp2_with fail
    refine (sSetOk_any _ _ _ _ _ _ _ _ (by omega) _).mono ?_
    rintro e w1 ⟨rfl, hb1⟩
    rw [hok]
    have k1 : w1.heap[w.heap.size]? = some (.cells #[.int .i64 0, .int .i64 0, .float .f32 0, .float .f32 0, .float .f32 0, .slice none 0 0] 40 (0, 0)) := blk_ext (blk_alloc (heap_alloc_new _ _)) hb1
    obtain ⟨ac0, ac1, ac2, ac3, ac4, ac5, af⟩ := blk6 k1
    have hb2 : Ext w w1 := Ext.trans (((Ext.refl _).alloc _).alloc _) hb1
    go_wp2_with fail
    refine bodyPost_ret (v := .tuple #[setV 0 0 0 0 0 (.slice none 0 0), .bool false]) (by simp [results, Try.results57, go_sem, *]) rfl ⟨by rw [HN.out], ?_⟩
    have s1 : w.heap.size ≤ w.heap.size := Nat.le_refl _
    refine Below.setCell ?_ s1 _
    refine Below.setCell ?_ s1 _
    refine Below.setCell ?_ s1 _
    refine Below.setCell ?_ s1 _
    refine Below.setCell ?_ s1 _
    refine Below.setCell ?_ s1 _
    exact hb2
  · have HN : Hid (newSet cells rows = setV cells rows 3250585600 1040187392 1065353216 (.slice none 0 0)) := Lib.hid (by unfold newSet; rw [hok]; rfl)
    go_enter Try.func57, Try.ntmps57
    go_wp2_with fail
    refine (sSetOk_any _ _ _ _ _ _ _ _ (by omega) _).mono ?_
    rintro e w1 ⟨rfl, hb1⟩
    rw [hok]
    have k1 : w1.heap[w.heap.size]? = some (.cells #[.int .i64 0, .int .i64 0, .float .f32 0, .float .f32 0, .float .f32 0, .slice none 0 0] 40 (0, 0)) := blk_ext (blk_alloc (heap_alloc_new _ _)) hb1
    have k2 : w1.heap[w.heap.size + 1]? = some (.cells #[.int .i64 cells, .int .i64 rows, .float .f32 3250585600, .float .f32 1040187392, .float .f32 1065353216, .slice none 0 0] 40 (0, 0)) := blk_ext (by rw [show w.heap.size + 1 = (w.alloc _).heap.size by simp]; exact heap_alloc_new _ _) hb1
    obtain ⟨ac0, ac1, ac2, ac3, ac4, ac5, af⟩ := blk6 k1
    obtain ⟨bc0, bc1, bc2, bc3, bc4, bc5, bf⟩ := blk6 k2
    have hb2 : Ext w w1 := Ext.trans (((Ext.refl _).alloc _).alloc _) hb1
    go_wp2_with fail
    refine bodyPost_ret (v := .tuple #[setV cells rows 3250585600 1040187392 1065353216 (.slice none 0 0), .bool true]) (by simp [results, Try.results57, go_sem, *]) rfl ⟨by rw [HN.out], ?_⟩
    have s1 : w.heap.size ≤ w.heap.size := Nat.le_refl _
    refine Below.setCell ?_ s1 _
    refine Below.setCell ?_ s1 _
    refine Below.setCell ?_ s1 _
    refine Below.setCell ?_ s1 _
    refine Below.setCell ?_ s1 _
    refine Below.setCell ?_ s1 _
    exact hb2
end Go.Proofs.Ytiddaabodkglmaa
