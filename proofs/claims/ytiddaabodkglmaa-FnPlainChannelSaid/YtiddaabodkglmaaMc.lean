import Derived.Test.YtiddaabodkglmaaMb
namespace Go.Fx
open Ieee
set_option linter.unusedVariables false
/-- is a run's beginning near a place? -/
def near (p : Int) (r : Int × Int) : Bool := decide (p - 3 ≤ r.1) && decide (r.1 ≤ p + 3)
/-- the starts behind one that is known -/
def startsGo (runs : List (Int × Int)) (n length gap : Int) : Nat → Int → Int → List Int
  | 0, _, _ => []
  | f + 1, at_, missed =>
    if n < at_ + length + length then [] else
    match runs.find? (near (at_ + length)) with
    | some r => r.1 :: startsGo runs n length gap f r.1 0
    | none => if gap < missed + 1 then [] else (at_ + length) :: startsGo runs n length gap f (at_ + length) (missed + 1)
def startsOk (runs : List (Int × Int)) (n length gap : Int) : Bool :=
  match runs with
  | [] => false
  | r :: _ => (decide (28 ≤ length) && decide (length ≤ 280)) && (decide (0 ≤ gap) && decide (gap ≤ 10)) && decide (r.1 + length ≤ n)
def starts (runs : List (Int × Int)) (n length gap : Int) : List Int :=
  if startsOk runs n length gap = true then
    match runs with
    | [] => []
    | r :: _ => r.1 :: startsGo runs n length gap (n.toNat + 1) r.1 0
  else []
/-- the runs that 'Lows' finds begin in the stream -/
theorem lowsFrom_begin (low : Nat → Bool) (i n : Nat) (rs : List Nat) (hn : n ≤ i) : ∀ r ∈ lowsFrom low i n rs, 0 ≤ r.1 ∧ r.1 ≤ i + rs.length := by
  induction rs generalizing i n with
  | nil =>
    intro r hr
    unfold lowsFrom at hr
    split at hr
    · simp only [List.mem_singleton] at hr; subst hr; simp; omega
    · cases hr
  | cons x l ih =>
    intro r hr
    unfold lowsFrom at hr
    split at hr
    · have := ih (i + 1) (n + 1) (by omega) r hr; simp at this ⊢; omega
    · rw [List.mem_append] at hr
      rcases hr with hr | hr
      · split at hr
        · simp only [List.mem_singleton] at hr; subst hr; simp; omega
        · cases hr
      · have := ih (i + 1) 0 (by omega) r hr; simp at this ⊢; omega
theorem lows_begin (rs : List Nat) (x : Nat) : ∀ r ∈ lows rs x, 0 ≤ r.1 ∧ r.1 ≤ rs.length := by
  intro r hr
  unfold lows at hr
  split at hr
  · cases hr
  · have := lowsFrom_begin _ 0 0 rs (by omega) r hr; simpa using this
end Go.Fx
