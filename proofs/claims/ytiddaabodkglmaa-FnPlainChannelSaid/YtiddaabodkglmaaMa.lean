import Derived.Test.YtiddaabodkglmaaAp
namespace Go.Fx
open Go.RowKit
set_option linter.unusedVariables false
set_option linter.unusedSimpArgs false

/-- behind k rounds: the first k as they are to be, the others as they were -/
structure Mix (k : Nat) (ys ts os : List Value) : Prop where
  len : ys.length = os.length
  lent : ts.length = os.length
  new : ∀ j, j < k → ys[j]? = ts[j]?
  old : ∀ j, k ≤ j → ys[j]? = os[j]?
theorem Mix.start {ts os : List Value} (k : Nat) (hl : ts.length = os.length) (h : ∀ j, j < k → ts[j]? = os[j]?) : Mix k os ts os := ⟨rfl, hl, fun j hj => (h j hj).symm, fun _ _ => rfl⟩
theorem Mix.set {k : Nat} {ys ts os : List Value} (h : Mix k ys ts os) {u : Value} (hu : ts[k]? = some u) : Mix (k + 1) (ys.set k u) ts os := by
  have hk := (List.getElem?_eq_some_iff.1 hu).1
  refine ⟨by simpa using h.len, h.lent, fun j hj => ?_, fun j hj => ?_⟩
  · by_cases e : j = k
    · subst e; rw [List.getElem?_set_self (by have := h.len; have := h.lent; omega), hu]
    · rw [List.getElem?_set_ne (by omega)]; exact h.new j (by omega)
  · rw [List.getElem?_set_ne (by omega)]; exact h.old j (by omega)
theorem Mix.keep {k : Nat} {ys ts os : List Value} (h : Mix k ys ts os) (hu : ts[k]? = os[k]?) : Mix (k + 1) ys ts os := by
  refine ⟨h.len, h.lent, fun j hj => ?_, fun j hj => h.old j (by omega)⟩
  by_cases e : j = k
  · subst e; rw [h.old j (Nat.le_refl _), hu]
  · exact h.new j (by omega)
theorem Mix.done {k : Nat} {ys ts os : List Value} (h : Mix k ys ts os) (hr : ∀ j, k ≤ j → ts[j]? = os[j]?) : ys = ts := by
  apply List.ext_getElem?
  intro j
  by_cases e : j < k
  · exact h.new j e
  · rw [h.old j (by omega), hr j (by omega)]

def eraseF (at_ n : Int) (i : Nat) (x : Nat) : Nat := if at_ ≤ i ∧ i < at_ + n then 0 else x
def erase (rs : List Nat) (at_ n : Int) : List Nat := if 0 ≤ n ∧ n ≤ 280 then rs.mapIdx (eraseF at_ n) else rs
theorem erase_len (rs : List Nat) (at_ n : Int) : (erase rs at_ n).length = rs.length := by unfold erase; split <;> simp
theorem erase_at {rs : List Nat} {at_ n : Int} (h : 0 ≤ n ∧ n ≤ 280) {k : Nat} (hk : k < rs.length) : ((erase rs at_ n).map fl)[k]? = some (fl (if at_ ≤ k ∧ k < at_ + n then 0 else rs[k])) := by
  unfold erase; rw [if_pos h]; simp [hk, eraseF]
theorem erase_none {rs : List Nat} {at_ n : Int} (h : ¬ (0 ≤ n ∧ n ≤ 280)) : erase rs at_ n = rs := by unfold erase; rw [if_neg h]

/-- runs of low samples: (begin, length) -/
def lowsFrom (low : Nat → Bool) : (i n : Nat) → List Nat → List (Int × Int)
  | i, n, [] => if 5 ≤ n then [((i : Int) - n, (n : Int))] else []
  | i, n, x :: r => if low x then lowsFrom low (i + 1) (n + 1) r else (if 5 ≤ n then [((i : Int) - n, (n : Int))] else []) ++ lowsFrom low (i + 1) 0 r
def lows (rs : List Nat) (slice : Nat) : List (Int × Int) := if 20000 < rs.length then [] else lowsFrom (fun x => fle .f32 x slice) 0 0 rs

/-- where the walk over the samples stands -/
def LowsAt (low : Nat → Bool) (rs : List Nat) (k m : Nat) (acc all : List (Int × Int)) : Prop :=
  (k ≤ rs.length ∧ all = acc ++ lowsFrom low k m (rs.drop k)) ∨ (k = rs.length + 1 ∧ all = acc)
section
variable {low : Nat → Bool} {rs : List Nat} {k m : Nat} {acc all : List (Int × Int)}
theorem LowsAt.finish (h : LowsAt low rs k m acc all) (e : k = rs.length + 1) : all = acc := by
  rcases h with h | h
  · omega
  · exact h.2
theorem LowsAt.now (h : LowsAt low rs k m acc all) (e : k ≤ rs.length) : all = acc ++ lowsFrom low k m (rs.drop k) := by
  rcases h with h | h
  · exact h.2
  · omega
theorem LowsAt.step_in (h : LowsAt low rs k m acc all) (hlt : k < rs.length) (hl : low rs[k] = true) : LowsAt low rs (k + 1) (m + 1) acc all := by
  refine .inl ⟨hlt, ?_⟩
  rw [h.now (Nat.le_of_lt hlt), List.drop_eq_getElem_cons hlt, lowsFrom, if_pos hl]
theorem LowsAt.step_out (h : LowsAt low rs k m acc all) (hlt : k < rs.length) (hl : low rs[k] = false) (h5 : 5 ≤ m) : LowsAt low rs (k + 1) 0 (acc ++ [((k : Int) - m, (m : Int))]) all := by
  refine .inl ⟨hlt, ?_⟩
  rw [h.now (Nat.le_of_lt hlt), List.drop_eq_getElem_cons hlt, lowsFrom, if_neg (by simp [hl]), if_pos h5, List.append_assoc]
theorem LowsAt.step_low (h : LowsAt low rs k m acc all) (hlt : k < rs.length) (hl : low rs[k] = false) (h5 : ¬ 5 ≤ m) : LowsAt low rs (k + 1) 0 acc all := by
  refine .inl ⟨hlt, ?_⟩
  rw [h.now (Nat.le_of_lt hlt), List.drop_eq_getElem_cons hlt, lowsFrom, if_neg (by simp [hl]), if_neg h5, List.nil_append]
theorem LowsAt.end_out (h : LowsAt low rs rs.length m acc all) (h5 : 5 ≤ m) : LowsAt low rs (rs.length + 1) 0 (acc ++ [((rs.length : Int) - m, (m : Int))]) all := by
  refine .inr ⟨rfl, ?_⟩
  rw [h.now (Nat.le_refl _), List.drop_length, lowsFrom, if_pos h5]
theorem LowsAt.end_low (h : LowsAt low rs rs.length m acc all) (h5 : ¬ 5 ≤ m) : LowsAt low rs (rs.length + 1) 0 acc all := by
  refine .inr ⟨rfl, ?_⟩
  rw [h.now (Nat.le_refl _), List.drop_length, lowsFrom, if_neg h5, List.append_nil]
end

end Go.Fx
