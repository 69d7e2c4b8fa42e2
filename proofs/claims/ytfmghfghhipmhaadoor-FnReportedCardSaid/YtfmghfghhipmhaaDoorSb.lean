import Derived.Test.YtfmghfghhipmhaaDoorSa
import Derived.Test.YtfmghfghhipmhaaDoorK1
namespace Go.Fx
open Go.Lib
set_option linter.unusedVariables false
set_option linter.unusedSimpArgs false
/-! fields, put together again -/
theorem flds_tail : ∀ (x cur : Txt), 32 ∉ x → flds cur x = if (cur ++ x).isEmpty then [] else [cur ++ x]
  | [], cur, _ => by unfold flds; simp
  | c :: x, cur, h => by
    have h1 : c ≠ 32 := fun e => h (by rw [e]; exact List.mem_cons_self)
    have h2 : 32 ∉ x := fun e => h (List.mem_cons_of_mem _ e)
    rw [flds, if_neg h1, flds_tail x _ h2, List.append_assoc]; rfl
theorem flds_head : ∀ (x cur l : Txt), 32 ∉ x → flds cur (x ++ 32 :: l) = if (cur ++ x).isEmpty then flds [] l else (cur ++ x) :: flds [] l
  | [], cur, l, _ => by rw [List.nil_append, flds, if_pos rfl, List.append_nil]
  | c :: x, cur, l, h => by
    have h1 : c ≠ 32 := fun e => h (by rw [e]; exact List.mem_cons_self)
    have h2 : 32 ∉ x := fun e => h (List.mem_cons_of_mem _ e)
    rw [List.cons_append, flds, if_neg h1, flds_head x _ l h2, List.append_assoc]; rfl
def unw : List Txt → Txt
  | [] => []
  | x :: r => x ++ joinTail [32] r
theorem unw_join (fs : List Txt) : join fs [32] = unw fs := by
  cases fs with
  | nil => rfl
  | cons x r => exact join_cons x r [32]
theorem unw_two (x y : Txt) (r : List Txt) : unw (x :: y :: r) = x ++ 32 :: unw (y :: r) := by
  unfold unw joinTail; simp
theorem flds_unw : ∀ (fs : List Txt), (∀ f ∈ fs, f ≠ [] ∧ 32 ∉ f) → flds [] (unw fs) = fs
  | [], _ => rfl
  | [x], h => by
    obtain ⟨h1, h2⟩ := h x List.mem_cons_self
    have e : unw [x] = x := by unfold unw joinTail; simp
    rw [e, flds_tail x [] h2]
    cases x with
    | nil => exact absurd rfl h1
    | cons c x => rfl
  | x :: y :: r, h => by
    obtain ⟨h1, h2⟩ := h x List.mem_cons_self
    rw [unw_two, flds_head x [] _ h2, flds_unw (y :: r) (fun f hf => h f (List.mem_cons_of_mem _ hf))]
    cases x with
    | nil => exact absurd rfl h1
    | cons c x => rfl
theorem flds_mem : ∀ (l cur : Txt), 32 ∉ cur → ∀ f ∈ flds cur l, f ≠ [] ∧ 32 ∉ f
  | [], cur, h, f, hf => by
    unfold flds at hf
    cases cur with
    | nil => simp at hf
    | cons c cur =>
      simp at hf
      subst hf
      exact ⟨by simp, h⟩
  | c :: l, cur, h, f, hf => by
    rw [flds] at hf
    by_cases hc : c = 32
    · rw [if_pos hc] at hf
      cases cur with
      | nil => exact flds_mem l [] (by simp) f hf
      | cons d cur =>
        rcases List.mem_cons.1 hf with rfl | hf
        · exact ⟨by simp, h⟩
        · exact flds_mem l [] (by simp) f hf
    · rw [if_neg hc] at hf
      exact flds_mem l (cur ++ [c]) (by
        intro e
        rcases List.mem_append.1 e with e | e
        · exact h e
        · simp at e; exact hc e.symm) f hf
theorem flds_plain {p : UInt8 → Bool} : ∀ (l cur : Txt), cur.all p = true → l.all p = true → ∀ f ∈ flds cur l, f.all p = true
  | [], cur, h, _, f, hf => by
    unfold flds at hf
    cases cur with
    | nil => simp at hf
    | cons c cur =>
      simp only [List.isEmpty_cons, Bool.false_eq_true, if_false, List.mem_singleton] at hf
      subst hf
      exact h
  | c :: l, cur, h, h', f, hf => by
    rw [flds] at hf
    rw [List.all_cons, Bool.and_eq_true] at h'
    by_cases hc : c = 32
    · rw [if_pos hc] at hf
      cases cur with
      | nil => exact flds_plain l [] rfl h'.2 f hf
      | cons d cur =>
        rcases List.mem_cons.1 hf with rfl | hf
        · exact h
        · exact flds_plain l [] rfl h'.2 f hf
    · rw [if_neg hc] at hf
      exact flds_plain l (cur ++ [c]) (by rw [List.all_append, h, List.all_cons, h'.1]; rfl) h'.2 f hf
theorem unw_len : ∀ (l cur : Txt), (unw (flds cur l)).length ≤ cur.length + l.length
  | [], cur => by
    unfold flds
    cases cur <;> simp [unw, joinTail]
  | c :: l, cur => by
    rw [flds]
    have h0 := unw_len l []
    have h1 := unw_len l (cur ++ [c])
    split
    · cases cur with
      | nil => simp at h0 ⊢; omega
      | cons d cur =>
        simp only [List.isEmpty_cons, Bool.false_eq_true, if_false]
        cases hf : flds [] l with
        | nil => simp [unw, joinTail]
        | cons y r =>
          rw [hf] at h0
          rw [unw_two]
          simp only [List.length_append, List.length_cons, List.length_nil] at h0 ⊢; omega
    · simp only [List.length_append, List.length_cons, List.length_nil] at h1 ⊢; omega
theorem unw_all {p : UInt8 → Bool} (hp : p 32 = true) : ∀ (fs : List Txt), (∀ f ∈ fs, f.all p = true) → (unw fs).all p = true
  | [], _ => rfl
  | [x], h => by
    have e : unw [x] = x := by unfold unw joinTail; simp
    rw [e]; exact h x List.mem_cons_self
  | x :: y :: r, h => by
    rw [unw_two, List.all_append, List.all_cons, h x List.mem_cons_self, hp, unw_all hp (y :: r) (fun f hf => h f (List.mem_cons_of_mem _ hf))]; rfl
theorem fields_again {l : Txt} (h : fieldsOk l = true) : fieldsOk (unw (flds [] l)) = true ∧ flds [] (unw (flds [] l)) = flds [] l := by
  have e := flds_unw (flds [] l) (flds_mem l [] (by simp))
  unfold fieldsOk at h ⊢
  simp only [Bool.and_eq_true, decide_eq_true_eq] at h ⊢
  have h1 := unw_len l []
  rw [e]
  exact ⟨⟨⟨by simp only [List.length_nil] at h1; omega, unw_all rfl _ (flds_plain l [] rfl h.1.2)⟩, h.2⟩, rfl⟩
/-! a set that is tuned -/
abbrev ba (l : Txt) : ByteArray := ⟨l.toArray⟩
theorem ba_inj {l m : Txt} (h : ba l = ba m) : l = m := by
  have := congrArg (fun b : ByteArray => b.data.toList) h
  simpa using this
theorem ba_self (s : ByteArray) : ba s.data.toList = s := by cases s; simp
theorem ba_data (l : Txt) : (ba l).data.toList = l := by simp
theorem ba_size (l : Txt) : (ba l).size = l.length := by simp [ByteArray.size]
structure TS where
  cells : Int
  rows : Int
  slice : Nat
  least : Nat
  sat : Nat
  log : List ByteArray
def TS.ok (s : TS) : Bool := setOk s.cells s.rows s.slice s.least s.sat s.log.length
/-- thousandths, as a single -/
def thou (n : Int) : Nat := fconv .f64 .f32 (fop .quo .f64 (floatOfInt .f64 n) 4652007308841189376)
def tSize : Txt := [115, 105, 122, 101]
def tSlice : Txt := [115, 108, 105, 99, 101]
def tKiller : Txt := [107, 105, 108, 108, 101, 114]
def tSat : Txt := [115, 97, 116, 117, 114, 97, 116, 105, 111, 110]
def did (s : TS) : List Txt → Option TS
  | [a, b, c] => if a = tSize ∧ uintOk b = true ∧ uintOk c = true then some { s with cells := uint b, rows := uint c } else none
  | [a, b] => if pfixOk b = true then
      if a = tSlice then some { s with slice := thou (pfix b) }
      else if a = tKiller then some { s with least := thou (pfix b) }
      else if a = tSat then some { s with sat := thou (pfix b) }
      else none
    else none
  | _ => none
def didOk (s : TS) (f : List Txt) : Bool := match did s f with
  | some t => t.ok
  | none => false
def tuneOk (s : TS) (l : Txt) : Bool := s.ok && decide (s.log.length < 100) && fieldsOk l && didOk s (flds [] l)
def tune (s : TS) (l : Txt) : TS := if tuneOk s l = true then { (did s (flds [] l)).getD s with log := s.log ++ [ba (unw (flds [] l))] } else s
def tuneAll (s : TS) (ls : List Txt) : TS := ls.foldl tune s
def tuneFlags : TS → List Txt → List Bool
  | _, [] => []
  | s, l :: ls => tuneOk s l :: tuneFlags (tune s l) ls
theorem did_log {s t : TS} {f : List Txt} (h : did s f = some t) : t.log = s.log := by
  unfold did at h
  split at h
  · split at h
    · injection h with h; subst h; rfl
    · cases h
  · split at h
    · split at h
      · injection h with h; subst h; rfl
      · split at h
        · injection h with h; subst h; rfl
        · split at h
          · injection h with h; subst h; rfl
          · cases h
    · cases h
  · cases h
theorem tune_no {s : TS} {l : Txt} (h : tuneOk s l = false) : tune s l = s := by unfold tune; rw [h]; rfl
theorem tune_log {s : TS} {l : Txt} (h : tuneOk s l = true) : (tune s l).log = s.log ++ [ba (unw (flds [] l))] := by unfold tune; rw [if_pos h]
theorem tune_ok {s : TS} {l : Txt} (h : tuneOk s l = true) : (tune s l).ok = true := by
  have h0 := h
  unfold tuneOk at h
  simp only [Bool.and_eq_true, decide_eq_true_eq] at h
  obtain ⟨⟨⟨h1, h2⟩, h3⟩, h4⟩ := h
  unfold didOk at h4
  unfold tune
  rw [if_pos h0]
  cases hd : did s (flds [] l) with
  | none => rw [hd] at h4; cases h4
  | some t =>
    rw [hd] at h4
    have hl := did_log hd
    unfold TS.ok setOk at h4 ⊢
    simp only [Option.getD_some, List.length_append, List.length_cons, List.length_nil, Bool.and_eq_true, decide_eq_true_eq] at h4 ⊢
    exact ⟨h4.1, by omega⟩
theorem tune_again {s : TS} {l : Txt} (h : fieldsOk l = true) : tuneOk s (unw (flds [] l)) = tuneOk s l ∧ tune s (unw (flds [] l)) = tune s l := by
  obtain ⟨h1, h2⟩ := fields_again h
  have e : tuneOk s (unw (flds [] l)) = tuneOk s l := by unfold tuneOk; rw [h1, h2, h]
  exact ⟨e, by unfold tune; rw [e, h2]⟩
theorem tuneAll_log : ∀ (ls : List Txt) (s : TS), (tuneAll s ls).log.length = s.log.length + ((tuneFlags s ls).filter id).length
  | [], s => by simp [tuneAll, tuneFlags]
  | l :: ls, s => by
    have ih := tuneAll_log ls (tune s l)
    show (tuneAll (tune s l) ls).log.length = _
    rw [ih]
    cases h : tuneOk s l
    · rw [tuneFlags, h, tune_no h]; rfl
    · rw [tuneFlags, h, tune_log h]; simp; omega
/-- what a log tells, done again -/
theorem tuneAll_again : ∀ (ls : List Txt) (s : TS), ∃ es : List Txt, (tuneAll s ls).log = s.log ++ es.map ba ∧ tuneAll s es = tuneAll s ls ∧ (∀ b ∈ tuneFlags s es, b = true)
  | [], s => ⟨[], by simp [tuneAll], rfl, fun b hb => by cases hb⟩
  | l :: ls, s => by
    obtain ⟨es, h1, h2, h3⟩ := tuneAll_again ls (tune s l)
    cases h : tuneOk s l
    · rw [tune_no h] at h1 h2 h3
      refine ⟨es, ?_, ?_, h3⟩
      · show (tuneAll (tune s l) ls).log = _
        rw [tune_no h]; exact h1
      · show _ = tuneAll (tune s l) ls
        rw [tune_no h]; exact h2
    · have hf : fieldsOk l = true := by
        unfold tuneOk at h; simp only [Bool.and_eq_true] at h; exact h.1.2
      obtain ⟨a1, a2⟩ := tune_again (s := s) hf
      refine ⟨unw (flds [] l) :: es, ?_, ?_, ?_⟩
      · show (tuneAll (tune s l) ls).log = _
        rw [h1, tune_log h]; simp
      · show tuneAll (tune s (unw (flds [] l))) es = tuneAll (tune s l) ls
        rw [a2, h2]
      · intro b hb
        rw [tuneFlags, a1, a2, h] at hb
        rcases List.mem_cons.1 hb with rfl | hb
        · rfl
        · exact h3 b hb
end Go.Fx
