import Derived.Test.YtfmghfghhipmhaaDoorTn
import Derived.Test.YtfmghfghhipmhaaDoorSm
namespace Go.Fx
open Go.RowKit
set_option linter.unusedVariables false
set_option linter.unusedSimpArgs false
theorem size_alloc1 (w : World) (o : Obj) : (w.alloc o).heap.size = w.heap.size + 1 := by simp
theorem blk_turn {w w' : World} {b c d : Nat} {o : Obj} (h : w.heap[b]? = some o) (ht : Turn c d w w') (hb : b < c ∨ d ≤ b) : w'.heap[b]? = some o := blk_past_turn h ht hb
end Go.Fx
