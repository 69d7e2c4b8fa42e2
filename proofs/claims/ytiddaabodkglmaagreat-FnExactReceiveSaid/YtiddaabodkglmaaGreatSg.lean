import Derived.Test.YtiddaabodkglmaaGreatK8
import Derived.Test.YtiddaabodkglmaaGreatK1
namespace Go.Fx
open Go.RowKit
set_option linter.unusedVariables false
set_option linter.unusedSimpArgs false
theorem size_alloc1 (w : World) (o : Obj) : (w.alloc o).heap.size = w.heap.size + 1 := by simp
theorem blk_turn {w w' : World} {b c d : Nat} {o : Obj} (h : w.heap[b]? = some o) (ht : Turn c d w w') (hb : b < c ∨ d ≤ b) : w'.heap[b]? = some o := by
  rw [ht.block b (Array.getElem?_eq_some_iff.1 h).1 hb]; exact h
theorem recv_len {cells rows : Int} {slice least sat log : Nat} {rs : List Nat} : (recv cells rows slice least sat log rs).length ≤ 64 ∧ ∀ r ∈ recv cells rows slice least sat log rs, r.length ≤ 64 := by
  unfold recv
  split
  · rename_i h
    unfold recvOk at h
    simp only [Bool.and_eq_true] at h
    have hw := h.2
    unfold weaveOk at hw
    simp only [Bool.and_eq_true] at hw
    have hp := hw.2
    unfold pictureOk at hp
    simp only [Bool.and_eq_true, decide_eq_true_eq] at hp
    refine ⟨hp.1.1.2, fun r hr => ?_⟩
    have := hp.2
    rw [List.all_eq_true] at this
    have h2 := this r hr
    simp only [Bool.and_eq_true] at h2
    have h3 := h2.1
    unfold rowOk at h3
    simp only [Bool.and_eq_true, decide_eq_true_eq] at h3
    omega
  · exact ⟨by simp, fun r hr => by cases hr⟩
end Go.Fx
