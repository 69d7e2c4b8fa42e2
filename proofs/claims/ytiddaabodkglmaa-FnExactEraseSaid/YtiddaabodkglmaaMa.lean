import Derived.Test.YtiddaabodkglmaaAp
namespace Go.Fx
open Go.RowKit
set_option linter.unusedVariables false
set_option linter.unusedSimpArgs false

/-- behind k rounds: the first k as they are to be, the others as they were -/
structure Mix (k : Nat) (ys ts os : List Value) : Prop where
  len : ys.length = os.length
  lent : ts.length = os.length
  new : ∀ j, j < k → ys[j]? = ts[j]?
  old : ∀ j, k ≤ j → ys[j]? = os[j]?
theorem Mix.start {ts os : List Value} (k : Nat) (hl : ts.length = os.length) (h : ∀ j, j < k → ts[j]? = os[j]?) : Mix k os ts os := ⟨rfl, hl, fun j hj => (h j hj).symm, fun _ _ => rfl⟩
theorem Mix.set {k : Nat} {ys ts os : List Value} (h : Mix k ys ts os) {u : Value} (hu : ts[k]? = some u) : Mix (k + 1) (ys.set k u) ts os := by
  have hk := (List.getElem?_eq_some_iff.1 hu).1
  refine ⟨by simpa using h.len, h.lent, fun j hj => ?_, fun j hj => ?_⟩
  · by_cases e : j = k
    · subst e; rw [List.getElem?_set_self (by have := h.len; have := h.lent; omega), hu]
    · rw [List.getElem?_set_ne (by omega)]; exact h.new j (by omega)
  · rw [List.getElem?_set_ne (by omega)]; exact h.old j (by omega)
theorem Mix.keep {k : Nat} {ys ts os : List Value} (h : Mix k ys ts os) (hu : ts[k]? = os[k]?) : Mix (k + 1) ys ts os := by
  refine ⟨h.len, h.lent, fun j hj => ?_, fun j hj => h.old j (by omega)⟩
  by_cases e : j = k
  · subst e; rw [h.old j (Nat.le_refl _), hu]
  · exact h.new j (by omega)
theorem Mix.done {k : Nat} {ys ts os : List Value} (h : Mix k ys ts os) (hr : ∀ j, k ≤ j → ts[j]? = os[j]?) : ys = ts := by
  apply List.ext_getElem?
  intro j
  by_cases e : j < k
  · exact h.new j e
  · rw [h.old j (by omega), hr j (by omega)]

def eraseF (at_ n : Int) (i : Nat) (x : Nat) : Nat := if at_ ≤ i ∧ i < at_ + n then 0 else x
def erase (rs : List Nat) (at_ n : Int) : List Nat := if 0 ≤ n ∧ n ≤ 280 then rs.mapIdx (eraseF at_ n) else rs
theorem erase_len (rs : List Nat) (at_ n : Int) : (erase rs at_ n).length = rs.length := by unfold erase; split <;> simp
theorem erase_at {rs : List Nat} {at_ n : Int} (h : 0 ≤ n ∧ n ≤ 280) {k : Nat} (hk : k < rs.length) : ((erase rs at_ n).map fl)[k]? = some (fl (if at_ ≤ k ∧ k < at_ + n then 0 else rs[k])) := by
  unfold erase; rw [if_pos h]; simp [hk, eraseF]
theorem erase_none {rs : List Nat} {at_ n : Int} (h : ¬ (0 ≤ n ∧ n ≤ 280)) : erase rs at_ n = rs := by unfold erase; rw [if_neg h]

/-- runs of low samples: (begin, length) -/
def lowsFrom (low : Nat → Bool) : (i n : Nat) → List Nat → List (Int × Int)
  | i, n, [] => if 5 ≤ n then [((i : Int) - n, (n : Int))] else []
  | i, n, x :: r => if low x then lowsFrom low (i + 1) (n + 1) r else (if 5 ≤ n then [((i : Int) - n, (n : Int))] else []) ++ lowsFrom low (i + 1) 0 r
def lows (rs : List Nat) (slice : Nat) : List (Int × Int) := if 20000 < rs.length then [] else lowsFrom (fun x => fle .f32 x slice) 0 0 rs

end Go.Fx
