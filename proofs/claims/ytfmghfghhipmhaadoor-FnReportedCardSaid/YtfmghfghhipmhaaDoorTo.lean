import Derived.Test.YtfmghfghhipmhaaDoorSu
namespace Go.Proofs.YtfmghfghhipmhaaDoor
open Go.RowKit Go.Fx Go.Sort
set_option linter.unusedVariables false
set_option linter.unusedSimpArgs false
theorem info_bool : (Tryd.prog.info? 4).map (fun i => (i.zero, i.size, i.bytes)) = some (some (.bool false), 1, 1) := by kernel_rfl
abbrev bo (b : Bool) : Value := .bool b
/-- a fresh row of flags -/
abbrev OBo (w : World) (base : Nat) (v : Value) (bs : List Bool) : Prop := w.ownsRow base 4 1 v bs.length (bs.map bo)
theorem tuneAll_snoc : ∀ (ls : List Txt) (s : TS) (l : Txt), tuneAll s (ls ++ [l]) = tune (tuneAll s ls) l ∧ tuneFlags s (ls ++ [l]) = tuneFlags s ls ++ [tuneOk (tuneAll s ls) l]
  | [], s, l => ⟨rfl, rfl⟩
  | x :: ls, s, l => by
    obtain ⟨h1, h2⟩ := tuneAll_snoc ls (tune s x) l
    refine ⟨h1, ?_⟩
    show tuneOk s x :: tuneFlags (tune s x) (ls ++ [l]) = _
    rw [h2]; rfl
theorem tuneFlags_len : ∀ (ls : List Txt) (s : TS), (tuneFlags s ls).length = ls.length
  | [], _ => rfl
  | l :: ls, s => by
    show (tuneFlags (tune s l) ls).length + 1 = ls.length + 1
    rw [tuneFlags_len ls]
theorem tuneAll_len : ∀ (ls : List Txt) (s : TS), (tuneAll s ls).log.length ≤ s.log.length + ls.length := fun ls s => by
  rw [tuneAll_log]
  have h := List.length_filter_le id (tuneFlags s ls)
  rw [tuneFlags_len] at h; omega
theorem tune_len (s : TS) (l : Txt) : (tune s l).log.length ≤ max s.log.length 100 := by
  cases h : tuneOk s l
  · rw [tune_no h]; omega
  · rw [tune_log h]
    unfold tuneOk at h
    simp only [Bool.and_eq_true, decide_eq_true_eq] at h
    have := h.1.1.2
    simp only [List.length_append, List.length_cons, List.length_nil]; omega
theorem tuneAll_max : ∀ (ls : List Txt) (s : TS), (tuneAll s ls).log.length ≤ max s.log.length 100
  | [], s => by show s.log.length ≤ _; omega
  | l :: ls, s => by
    have h1 := tuneAll_max ls (tune s l)
    have h2 := tune_len s l
    show (tuneAll (tune s l) ls).log.length ≤ _
    omega
end Go.Proofs.YtfmghfghhipmhaaDoor
