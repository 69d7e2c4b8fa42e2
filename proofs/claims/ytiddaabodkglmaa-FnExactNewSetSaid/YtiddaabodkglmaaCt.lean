import Derived.Test.YtiddaabodkglmaaCs
import Derived.Test.YtiddaabodkglmaaCc
import Derived.Test.YtiddaabodkglmaaCb
import Derived.Test.YtiddaabodkglmaaGa
namespace Go.Proofs.Ytiddaabodkglmaa
open Go.RowKit Go.Fx
set_option linter.unusedVariables false
set_option linter.unusedSimpArgs false
abbrev setV (cells rows : Int) (slice least sat : Nat) (v : Value) : Value := .agg #[.int .i64 cells, .int .i64 rows, .float .f32 slice, .float .f32 least, .float .f32 sat, v]

theorem szSet_any (cells rows : Int) (slice least sat : Nat) (A : Option Addr) (c : Nat) (rs : List ByteArray) (left : Int) (w : World) (h : Rd w A (rs.map st)) (hn : rs.length ≤ maxLen) (hs : ∀ s ∈ rs, s.size ≤ maxLen) (h1 : 0 ≤ left) (h2 : left ≤ 1048576) :
    Calls Try.prog 52 #[setV cells rows slice least sat (.slice A rs.length c), .int .i64 left] w fun e w' => (∃ r : Int, e = .returned (.int .i64 r) ∧ r ≤ left ∧ (0 ≤ r → rs.length ≤ left)) ∧ Ext w w' := by
  go_enter Try.func52, Try.ntmps52
  go_wp2_with (go_at_call 150; refine (szS_any _ _ _ _ _ (h.ext (by (repeat (first | exact Below.refl _ _ | assumption | refine below_drewN ?_ _ | refine Below.drew ?_ | refine Below.alloc ?_ (by first | exact Nat.le_refl _ | (simp; done) | (simp; omega)) _ | refine Below.setCell ?_ (by first | exact Nat.le_refl _ | (simp; done) | (simp; omega)) _)))) hn hs h1 h2).mono ?_; rintro e w1 ⟨⟨r, rfl, hr1, hr2⟩, rfl⟩)
  all_goals go_ret
  · exact ⟨⟨-1, rfl, by omega, by omega⟩, by (repeat (first | exact Below.refl _ _ | assumption | refine below_drewN ?_ _ | refine Below.drew ?_ | refine Below.alloc ?_ (by first | exact Nat.le_refl _ | (simp; done) | (simp; omega)) _ | refine Below.setCell ?_ (by first | exact Nat.le_refl _ | (simp; done) | (simp; omega)) _))⟩
  · exact ⟨⟨r, rfl, hr1, hr2⟩, by (repeat (first | exact Below.refl _ _ | assumption | refine below_drewN ?_ _ | refine Below.drew ?_ | refine Below.alloc ?_ (by first | exact Nat.le_refl _ | (simp; done) | (simp; omega)) _ | refine Below.setCell ?_ (by first | exact Nat.le_refl _ | (simp; done) | (simp; omega)) _))⟩
theorem toSet_any (cells rows : Int) (slice least sat : Nat) (A : Option Addr) (c : Nat) (rs : List ByteArray) (w : World) (h : Rd w A (rs.map st)) (hn : rs.length ≤ 1048576) :
    Calls Try.prog 54 #[setV cells rows slice least sat (.slice A rs.length c)] w fun e w' => (∃ v, e = .returned (setV cells rows slice least sat v) ∧ OS w' w.heap.size v rs) ∧ Ext w w' := by
  go_enter Try.func54, Try.ntmps54
  go_wp2_with fail
  refine (toS_any A c rs _ (h.ext (by (repeat (first | exact Below.refl _ _ | assumption | refine below_drewN ?_ _ | refine Below.drew ?_ | refine Below.alloc ?_ (by first | exact Nat.le_refl _ | (simp; done) | (simp; omega)) _ | refine Below.setCell ?_ (by first | exact Nat.le_refl _ | (simp; done) | (simp; omega)) _)))) hn).mono ?_
  rintro e w1 ⟨⟨v, rfl, ho⟩, hb1⟩
  have k2 : w1.heap[w.heap.size + 1 + 1]? = some (.cells #[.int .i64 cells, .int .i64 rows, .float .f32 slice, .float .f32 least, .float .f32 sat, .slice none 0 0] 40 (0, 0)) := blk_ext (by rw [show w.heap.size + 1 + 1 = ((w.alloc _).alloc _).heap.size by simp]; exact heap_alloc_new _ _) hb1
  have k1 : w1.heap[w.heap.size + 1]? = some (.cells #[.int .i64 0, .int .i64 0, .float .f32 0, .float .f32 0, .float .f32 0, .slice none 0 0] 40 (0, 0)) := blk_ext (blk_alloc (by rw [show w.heap.size + 1 = (w.alloc _).heap.size by simp]; exact heap_alloc_new _ _)) hb1
  obtain ⟨ac0, ac1, ac2, ac3, ac4, ac5, af⟩ := blk6 k2
  obtain ⟨bc0, bc1, bc2, bc3, bc4, bc5, bf⟩ := blk6 k1
  have hb2 : Ext w w1 := Ext.trans (by (repeat (first | exact Below.refl _ _ | assumption | refine below_drewN ?_ _ | refine Below.drew ?_ | refine Below.alloc ?_ (by first | exact Nat.le_refl _ | (simp; done) | (simp; omega)) _ | refine Below.setCell ?_ (by first | exact Nat.le_refl _ | (simp; done) | (simp; omega)) _))) hb1
  have ho2 : OS w1 w.heap.size v rs := own_base ho (by simp; omega)
  obtain ⟨A2, c2, rfl, -, -⟩ := own_slice ho
  have hin := own_in ho
  have hlt2 : ∀ b, (Value.slice A2 rs.length c2).ownBlock = some b → w.heap.size + 1 + 1 < b := fun b hb => by have := (hin b hb).1; simp at this; omega
  clear k1 k2 hb1 ho hin
  go_wp2_with fail
  refine bodyPost_ret (v := setV cells rows slice least sat (.slice A2 rs.length c2)) (by simp [results, Try.results54, go_sem, *]) rfl ⟨⟨_, rfl, ?_⟩, ?_⟩
  · have hx : ∀ b, (Value.slice A2 rs.length c2).ownBlock = some b → b ≠ w.heap.size + 1 := fun b hb => by have := hlt2 b hb; omega
    have hy : ∀ b, (Value.slice A2 rs.length c2).ownBlock = some b → b ≠ w.heap.size + 1 + 1 := fun b hb => by have := hlt2 b hb; omega
    unfold OS at ho2 ⊢
    refine own_other ?_ hx _
    refine own_other ?_ hx _
    refine own_other ?_ hx _
    refine own_other ?_ hx _
    refine own_other ?_ hx _
    refine own_other ?_ hx _
    refine own_other ?_ hy _
    exact ho2
  · have s1 : w.heap.size ≤ w.heap.size + 1 := by omega
    have s2 : w.heap.size ≤ w.heap.size + 1 + 1 := by omega
    refine Below.setCell ?_ s1 _
    refine Below.setCell ?_ s1 _
    refine Below.setCell ?_ s1 _
    refine Below.setCell ?_ s1 _
    refine Below.setCell ?_ s1 _
    refine Below.setCell ?_ s1 _
    refine Below.setCell ?_ s2 _
    exact hb2

set_option maxHeartbeats 1000000 in
theorem eqSet_any (cells rows : Int) (s1 l1 t1 s2 l2 t2 : Nat) (A B : Option Addr) (c d : Nat) (rs : List ByteArray) (w : World) (h : Rd w A (rs.map st)) (h' : Rd w B (rs.map st)) (hn : rs.length ≤ maxLen) (e1 : cn .f32 s1 = cn .f32 s2) (e2 : cn .f32 l1 = cn .f32 l2) (e3 : cn .f32 t1 = cn .f32 t2) :
    Calls Try.prog 56 #[setV cells rows s1 l1 t1 (.slice A rs.length c), setV cells rows s2 l2 t2 (.slice B rs.length d)] w fun e w' => e = .returned (.bool true) ∧ Ext w w' := by
  have x1 := widen_run s1
  have x2 := widen_run l1
  have x3 := widen_run t1
  have x4 := widen_run s2
  have x5 := widen_run l2
  have x6 := widen_run t2
  have HL := Lib.hid hn
  unfold maxLen at hn
  have E1 := Lib.hid e1
  have E2 := Lib.hid e2
  have E3 := Lib.hid e3
  clear e1 e2 e3
  go_enter Try.func56, Try.ntmps56
  go_wp2_with (first | (go_at_call 67; refine (sameFloat_any _ _ (by first | (rw [cn_widened, cn_widened, E1.out]; done) | (rw [cn_widened, cn_widened, E2.out]; done) | (rw [cn_widened, cn_widened, E3.out]; done)) _).mono ?_; rintro e w1 ⟨rfl, n, rfl⟩) | (go_at_call 154; refine (eqS_any _ _ _ _ rs _ (h.ext (((Ext.refl _).alloc _ |>.alloc _).trans (Ext.drewN _ _))) (h'.ext (((Ext.refl _).alloc _ |>.alloc _).trans (Ext.drewN _ _))) HL.out).mono ?_; rintro e w1 ⟨rfl, n, rfl⟩))
  go_ret
  exact ⟨rfl, (((Ext.refl _).alloc _).alloc _).trans (Ext.drewN _ _)⟩
end Go.Proofs.Ytiddaabodkglmaa
