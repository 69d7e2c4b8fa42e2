import Derived.Test.YtiddaabodkglmaaFb
import Derived.Test.YtiddaabodkglmaaGa
namespace Go.Fx
open Ieee
set_option linter.unusedVariables false
theorem fop_mul_comm (k : FloatKind) (x y : Nat) : fop .mul k x y = fop .mul k y x := by
  unfold fop floatBits
  simp only
  congr 1
  unfold Format.mul
  cases k.format.read x <;> cases k.format.read y <;> simp [Datum.product, Bool.xor_comm, Nat.mul_comm, Int.add_comm]
theorem lineOk_cns (rs : List Nat) : lineOk (cns rs) = lineOk rs := by unfold lineOk; rw [fine_cns]; simp
theorem samplesOk_cns (rs : List Nat) : samplesOk (cns rs) = samplesOk rs := by unfold samplesOk; rw [fine_cns]; simp
theorem lineOk_of {rs ss : List Nat} (h : cns rs = ss) : lineOk rs = lineOk ss := by rw [← h, lineOk_cns]
theorem samplesOk_of {rs ss : List Nat} (h : cns rs = ss) : samplesOk rs = samplesOk ss := by rw [← h, samplesOk_cns]
/-- a line brought to level -/
def tl1 (rs : List Nat) (x : Nat) : Nat := mul32 (quo32 1115684864 (sub32 (lvBlack rs) (lvPulse rs))) (sub32 (cn .f32 x) (lvBlack rs))
def tlAll (rs : List Nat) : List Nat := rs.map (tl1 rs)
def tlOk (rs : List Nat) : Bool := levelsOk rs && lineOk (tlAll rs)
def tl (rs : List Nat) : List Nat := if tlOk rs = true then tlAll rs else []
theorem tl_len {gs rs : List Nat} (h : cns gs = tl rs) : gs.length ≤ rs.length := by
  have := congrArg List.length h
  simp only [List.length_map] at this
  rw [this]; unfold tl; split <;> simp [tlAll]
theorem take_snoc {α : Type} {l : List α} {k : Nat} (h : k < l.length) : l.take (k + 1) = l.take k ++ [l[k]] := by rw [List.take_succ_eq_append_getElem h]
theorem cns_snoc {gs ss : List Nat} {k b : Nat} (h : cns gs = ss.take k) (hk : k < ss.length) (hb : cn .f32 b = ss[k]) : cns (gs ++ [b]) = ss.take (k + 1) := by
  rw [take_snoc hk, ← h, ← hb]; simp [cns]
end Go.Fx
