import Derived.Test.YtfmghfghhipmhaaDoorTi
import Derived.Test.YtfmghfghhipmhaaDoorK7
import Derived.Test.YtfmghfghhipmhaaDoorK1
import Derived.Test.YtfmghfghhipmhaaDoorSl
namespace Go.Proofs.YtfmghfghhipmhaaDoor
open Go.RowKit Go.Fx
set_option linter.unusedVariables false
set_option linter.unusedSimpArgs false
theorem getD_st {zs : List ByteArray} {j : Nat} (h : j < zs.length) : zs.getD j ByteArray.empty = zs[j] := by simp [h]
theorem cloneS_any (A : Option Addr) (c : Nat) (rs : List ByteArray) (w : World) (h : Rd w A (rs.map st)) (hA : A = none → rs.length = 0) (hn : rs.length ≤ 1048576) :
    Calls Tryd.prog 79 #[.slice A rs.length c] w fun e w' => (∃ v, e = .returned v ∧ OS w' w.heap.size v rs) ∧ Ext w w' := by
  cases A with
  | none =>
    have h0 := List.eq_nil_of_length_eq_zero (hA rfl)
    subst h0
    refine (Tryd.slices_Clone_string_nil 0 c w).mono ?_
    rintro e w1 ⟨rfl, rfl⟩
    exact ⟨⟨_, rfl, World.ownsRow_nil _ _ _ _⟩, Ext.refl _⟩
  | some ad =>
    rcases h with h | ⟨b, off, hA2, hb, hc⟩
    · have h0 : rs = [] := by simpa using h
      subst h0
      refine (Tryd.slices_Clone_string_zero ad c w).mono ?_
      rintro e w1 ⟨v, rfl, ho, -, hb⟩
      exact ⟨⟨_, rfl, ho⟩, hb⟩
    · injection hA2 with hA2
      subst hA2
      refine (Tryd.slices_Clone_string b off rs.length c rs w (Nat.le_refl _) (by omega) (fun j hj => by rw [getD_st hj]; exact hc j _ (by simp [hj]))).mono ?_
      rintro e w1 ⟨v, rfl, ho, -, hb⟩
      exact ⟨⟨_, rfl, by simpa [List.take_length] using ho⟩, hb⟩
set_option maxRecDepth 100000 in
set_option maxHeartbeats 1000000 in
theorem iCopySet_any (cells rows : Int) (slice least sat : Nat) (A : Option Addr) (c : Nat) (rs : List ByteArray) (w : World) (h : Rd w A (rs.map st)) (hA : A = none → rs.length = 0) (hn : rs.length ≤ 1048576) :
    Calls Tryd.prog 52 #[setV cells rows slice least sat (.slice A rs.length c)] w fun e w' => (∃ v, e = .returned (setV cells rows slice least sat v) ∧ OS w' w.heap.size v rs) ∧ Ext w w' := by
  go_enter Tryd.func52, Tryd.ntmps52
  go_wp2_with fail
  refine (cloneS_any A c rs _ (h.ext (by (repeat (first | exact Below.refl _ _ | assumption | refine below_drewN ?_ _ | refine Below.drew ?_ | refine Below.alloc ?_ (by first | exact Nat.le_refl _ | (simp; done) | (simp; omega)) _ | refine Below.setCell ?_ (by first | exact Nat.le_refl _ | (simp; done) | (simp; omega)) _)))) hA hn).mono ?_
  rintro e w1 ⟨⟨v, rfl, ho⟩, hb1⟩
  have k1 : w1.heap[w.heap.size]? = some (.cells #[.int .i64 cells, .int .i64 rows, .float .f32 slice, .float .f32 least, .float .f32 sat, .slice A rs.length c] 28 (0, 0)) := blk_ext (blk_alloc (heap_alloc_new _ _)) hb1
  have k2 : w1.heap[w.heap.size + 1]? = some (.cells #[.int .i64 0, .int .i64 0, .float .f32 0, .float .f32 0, .float .f32 0, .slice none 0 0] 28 (0, 0)) := blk_ext (by rw [show w.heap.size + 1 = (w.alloc _).heap.size by simp]; exact heap_alloc_new _ _) hb1
  obtain ⟨ac0, ac1, ac2, ac3, ac4, ac5, af⟩ := blk6 k1
  obtain ⟨bc0, bc1, bc2, bc3, bc4, bc5, bf⟩ := blk6 k2
  have hb2 : Ext w w1 := Ext.trans (by (repeat (first | exact Below.refl _ _ | assumption | refine below_drewN ?_ _ | refine Below.drew ?_ | refine Below.alloc ?_ (by first | exact Nat.le_refl _ | (simp; done) | (simp; omega)) _ | refine Below.setCell ?_ (by first | exact Nat.le_refl _ | (simp; done) | (simp; omega)) _))) hb1
  have ho2 : OS w1 w.heap.size v rs := own_base ho (by simp; omega)
  obtain ⟨A2, c2, rfl, -, -⟩ := own_slice ho
  have hin := own_in ho
  have hlt2 : ∀ b, (Value.slice A2 rs.length c2).ownBlock = some b → w.heap.size + 1 < b := fun b hb => by have := (hin b hb).1; simp at this; omega
  clear k1 k2 hb1 ho hin
  go_wp2_with fail
  refine bodyPost_ret (v := setV cells rows slice least sat (.slice A2 rs.length c2)) (by simp [results, Tryd.results52, go_sem, *]) rfl ⟨⟨_, rfl, ?_⟩, ?_⟩
  · have hx : ∀ b, (Value.slice A2 rs.length c2).ownBlock = some b → b ≠ w.heap.size + 1 := fun b hb => by have := hlt2 b hb; omega
    have hy : ∀ b, (Value.slice A2 rs.length c2).ownBlock = some b → b ≠ w.heap.size := fun b hb => by have := hlt2 b hb; omega
    unfold OS at ho2 ⊢
    refine own_other ?_ hx _
    refine own_other ?_ hx _
    refine own_other ?_ hx _
    refine own_other ?_ hx _
    refine own_other ?_ hx _
    refine own_other ?_ hx _
    refine own_other ?_ hy _
    exact ho2
  · have s1 : w.heap.size ≤ w.heap.size + 1 := by omega
    have s2 : w.heap.size ≤ w.heap.size := by omega
    refine Below.setCell ?_ s1 _
    refine Below.setCell ?_ s1 _
    refine Below.setCell ?_ s1 _
    refine Below.setCell ?_ s1 _
    refine Below.setCell ?_ s1 _
    refine Below.setCell ?_ s1 _
    refine Below.setCell ?_ s2 _
    exact hb2
set_option maxRecDepth 100000 in
set_option maxHeartbeats 1000000 in
theorem sCopySet_any (cells rows : Int) (slice least sat : Nat) (A : Option Addr) (c : Nat) (rs : List ByteArray) (w : World) (h : Rd w A (rs.map st)) (hA : A = none → rs.length = 0) (hn : rs.length ≤ 1048576) :
    Calls Tryd.prog 57 #[setV cells rows slice least sat (.slice A rs.length c)] w fun e w' => (∃ v, e = .returned (setV cells rows slice least sat v) ∧ OS w' w.heap.size v rs) ∧ Ext w w' := by
  go_enter Tryd.func57, Tryd.ntmps57
  go_wp2_with
     (at_builtin
      refine wpList_app rfl _ _ 23 rfl (w.heap.size + 1 + 1) 9 _ 1 16 Tryd.underlying23 info_str rfl (by omega) (.slice (some ⟨w.heap.size + 1 + 1, 0, none⟩) 0 0) 0 [] (by simp [go_sem]) (by have h := own_new ((w.alloc (.cells #[.int .i64 cells, .int .i64 rows, .float .f32 slice, .float .f32 least, .float .f32 sat, .slice A rs.length c] 28 (0, 0))).alloc (.cells #[.int .i64 0, .int .i64 0, .float .f32 0, .float .f32 0, .float .f32 0, .slice none 0 0] 28 (0, 0))) (w.heap.size + 1 + 1) 9 1 (by simp); simpa using h) A rs.length c (rs.map st) rfl (h.ext (by (repeat (first | exact Below.refl _ _ | assumption | refine below_drewN ?_ _ | refine Below.drew ?_ | refine Below.alloc ?_ (by first | exact Nat.le_refl _ | (simp; done) | (simp; omega)) _ | refine Below.setCell ?_ (by first | exact Nat.le_refl _ | (simp; done) | (simp; omega)) _)))) (by simp) hA (by intro u hu; simp at hu; obtain ⟨a, -, rfl⟩ := hu; rfl) (by unfold maxLen; omega) (by omega) (by simp) ?_
      intro v1 w1 ho hg hat
      simp only [Nat.zero_add, List.nil_append] at ho
      have hb1 : Ext (((w.alloc (.cells #[.int .i64 cells, .int .i64 rows, .float .f32 slice, .float .f32 least, .float .f32 sat, .slice A rs.length c] 28 (0, 0))).alloc (.cells #[.int .i64 0, .int .i64 0, .float .f32 0, .float .f32 0, .float .f32 0, .slice none 0 0] 28 (0, 0)))) w1 := by
        have h := own_new ((w.alloc (.cells #[.int .i64 cells, .int .i64 rows, .float .f32 slice, .float .f32 least, .float .f32 sat, .slice A rs.length c] 28 (0, 0))).alloc (.cells #[.int .i64 0, .int .i64 0, .float .f32 0, .float .f32 0, .float .f32 0, .slice none 0 0] 28 (0, 0))) (w.heap.size + 1 + 1) 9 1 (by simp)
        exact ext_grow ((Ext.refl _).alloc _) h (by simp) (by simpa using hg)
      clear hg
      have k1 : w1.heap[w.heap.size]? = some (.cells #[.int .i64 cells, .int .i64 rows, .float .f32 slice, .float .f32 least, .float .f32 sat, .slice A rs.length c] 28 (0, 0)) := blk_ext (blk_alloc (heap_alloc_new _ _)) hb1
      have k2 : w1.heap[w.heap.size + 1]? = some (.cells #[.int .i64 0, .int .i64 0, .float .f32 0, .float .f32 0, .float .f32 0, .slice none 0 0] 28 (0, 0)) := blk_ext (by rw [show w.heap.size + 1 = (w.alloc _).heap.size by simp]; exact heap_alloc_new _ _) hb1
      obtain ⟨ac0, ac1, ac2, ac3, ac4, ac5, af⟩ := blk6 k1
      obtain ⟨bc0, bc1, bc2, bc3, bc4, bc5, bf⟩ := blk6 k2
      have hb2 : Ext w w1 := Ext.trans (by (repeat (first | exact Below.refl _ _ | assumption | refine below_drewN ?_ _ | refine Below.drew ?_ | refine Below.alloc ?_ (by first | exact Nat.le_refl _ | (simp; done) | (simp; omega)) _ | refine Below.setCell ?_ (by first | exact Nat.le_refl _ | (simp; done) | (simp; omega)) _))) hb1
      have ho2 : OS w1 w.heap.size v1 rs := own_base ho (by omega)
      obtain ⟨A2, c2, rfl, -, -⟩ := own_slice ho
      have hin := own_in ho
      have hlt2 : ∀ b, (Value.slice A2 rs.length c2).ownBlock = some b → w.heap.size + 1 < b := fun b hb => by have := (hin b hb).1; omega
      clear k1 k2 hb1 ho hin hat)
  refine bodyPost_ret (v := setV cells rows slice least sat (.slice A2 rs.length c2)) (by simp [results, Tryd.results57, go_sem, *]) rfl ⟨⟨_, rfl, ?_⟩, ?_⟩
  · have hx : ∀ b, (Value.slice A2 rs.length c2).ownBlock = some b → b ≠ w.heap.size + 1 := fun b hb => by have := hlt2 b hb; omega
    have hy : ∀ b, (Value.slice A2 rs.length c2).ownBlock = some b → b ≠ w.heap.size := fun b hb => by have := hlt2 b hb; omega
    unfold OS at ho2 ⊢
    refine own_other ?_ hx _
    refine own_other ?_ hx _
    refine own_other ?_ hx _
    refine own_other ?_ hx _
    refine own_other ?_ hx _
    refine own_other ?_ hx _
    refine own_other ?_ hy _
    exact ho2
  · have s1 : w.heap.size ≤ w.heap.size + 1 := by omega
    have s2 : w.heap.size ≤ w.heap.size := by omega
    refine Below.setCell ?_ s1 _
    refine Below.setCell ?_ s1 _
    refine Below.setCell ?_ s1 _
    refine Below.setCell ?_ s1 _
    refine Below.setCell ?_ s1 _
    refine Below.setCell ?_ s1 _
    refine Below.setCell ?_ s2 _
    exact hb2
end Go.Proofs.YtfmghfghhipmhaaDoor
