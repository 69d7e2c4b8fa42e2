import GoSem.ClaimOpen
import Derived.JoinedOf
namespace Go.Fx
set_option linter.unusedSimpArgs false

/-! which functions a function leads to: reckoned over a table of numbers, not over the program's text -/

def clG (G : Nat → List Nat) : Nat → List Nat → List Nat → List Nat
  | 0, _, seen => seen.reverse
  | _ + 1, [], seen => seen.reverse
  | n + 1, f :: todo, seen => if seen.contains f then clG G n todo seen else clG G n (G f ++ todo) (f :: seen)

def leadOf (P : Program) (g : Nat) : List Nat := (P.funcs[g]?).elim [] P.leadsTo

theorem closureVia_eq {P : Program} {G : Nat → List Nat} (hG : ∀ g, leadOf P g = G g) : ∀ (n : Nat) (todo seen : List Nat), P.closureVia n todo seen = clG G n todo seen := by
  intro n
  induction n with
  | zero => intro todo seen; cases todo <;> simp [Program.closureVia, clG]
  | succ n ih =>
    intro todo seen
    cases todo with
    | nil => simp [Program.closureVia, clG]
    | cons f todo =>
      simp only [Program.closureVia, clG]
      have h := hG f
      unfold leadOf at h
      rw [h, ih, ih]

/-- the table is right from number i on -/
def OkT (P : Program) : Nat → List (List Nat) → Prop
  | _, [] => True
  | i, L :: r => leadOf P i = L ∧ OkT P (i + 1) r

theorem OkT.get {P : Program} : ∀ {T : List (List Nat)} {i : Nat}, OkT P i T → ∀ (j : Nat) (L : List Nat), T[j]? = some L → leadOf P (i + j) = L
  | [], _, _, j, L, h => by simp at h
  | M :: T, i, ⟨h1, h2⟩, 0, L, h => by simp at h; rw [Nat.add_zero, h1, h]
  | M :: T, i, ⟨h1, h2⟩, j + 1, L, h => by
    have := OkT.get h2 j L (by simpa using h)
    rw [← this]; congr 1; omega

def tabG (T : List (List Nat)) (g : Nat) : List Nat := T.getD g []

theorem lead_tab {P : Program} {T : List (List Nat)} (hs : P.funcs.size = T.length) (h : OkT P 0 T) (g : Nat) : leadOf P g = tabG T g := by
  unfold tabG
  rw [List.getD_eq_getElem?_getD]
  cases hg : T[g]? with
  | some L =>
    have := h.get g L hg
    rw [Nat.zero_add] at this
    rw [this]; rfl
  | none =>
    have : T.length ≤ g := List.getElem?_eq_none_iff.1 hg
    unfold leadOf
    rw [Array.getElem?_eq_none (by omega)]
    rfl

theorem map_lead {P : Program} {T : List (List Nat)} (hs : P.funcs.size = T.length) (h : OkT P 0 T) : P.funcs.toList.map P.leadsTo = T := by
  apply List.ext_getElem?
  intro i
  rw [List.getElem?_map]
  have ht := lead_tab hs h i
  unfold leadOf tabG at ht
  by_cases hi : i < T.length
  · have h1 : i < P.funcs.size := by omega
    rw [Array.getElem?_eq_getElem h1] at ht
    have h2 : P.funcs.toList[i]? = some P.funcs[i] := by rw [Array.getElem?_toList, Array.getElem?_eq_getElem h1]
    rw [h2, List.getElem?_eq_getElem hi]
    simp only [Option.map_some]
    simp only [Option.elim_some, List.getD_eq_getElem?_getD, List.getElem?_eq_getElem hi, Option.getD_some] at ht
    rw [ht]
  · have h2 : P.funcs.toList[i]? = none := List.getElem?_eq_none (by rw [Array.length_toList]; omega)
    rw [h2, List.getElem?_eq_none (by omega)]; rfl

def fuelT (T : List (List Nat)) : Nat := 1 + (T.map fun L => L.length + 1).sum

theorem closure_tab {P : Program} {T : List (List Nat)} (hs : P.funcs.size = T.length) (h : OkT P 0 T) (f : Nat) : P.closure f = clG (tabG T) (fuelT T) [f] [] := by
  have hm : (P.funcs.toList.map fun g => (P.leadsTo g).length + 1) = T.map fun L => L.length + 1 := by
    rw [← map_lead hs h, List.map_map]; rfl
  unfold Program.closure fuelT
  rw [closureVia_eq (lead_tab hs h), hm]

def recG (T : List (List Nat)) (l : List Nat) : Bool := l.any fun g => (tabG T g).any fun h => (clG (tabG T) (fuelT T) [h] []).contains g

theorem recurses_tab {P : Program} {T : List (List Nat)} (hs : P.funcs.size = T.length) (h : OkT P 0 T) (f : Nat) : P.recurses f = (P.unfollowed f || recG T (P.closure f)) := by
  unfold Program.recurses recG
  congr 2
  funext g
  have := lead_tab hs h g
  unfold leadOf at this
  rw [this]
  congr 1
  funext x
  rw [closure_tab hs h]

/-! the words of the translation's head -/
def joinSigns : List (List Char) → List Char
  | [] => []
  | [w] => w
  | w :: v :: r => w ++ (Char.ofNat 32) :: joinSigns (v :: r)
def noBlank (w : List Char) : Bool := w.all fun c => !(c == Char.ofNat 32)
theorem cut_ne_gc : (("cut".toList == "gc".toList) = false) ∧ (("cut".toList == "spec".toList) = false) ∧ (("cut".toList == "carried".toList) = false) ∧ (("cut".toList == "finals".toList) = false) := by decide +kernel
theorem may_of {P : Program} {rest : List (List Char)} (h : behindMainWord (wordsSigns P.initOrder.toList) = "cut".toList :: rest) (hl : stripLifts liftWords ("cut".toList :: rest) = ([], "cut".toList :: rest))
    (h1 : P.laysLater = false) (h2 : P.bearsReflect = false) (h3 : P.doorFits [] = true) : P.mayEnter = true := by
  obtain ⟨e1, e2, e3, e4⟩ := cut_ne_gc
  unfold Program.mayEnter
  rw [h]
  simp only [e1, e2, e3, hl, h1, h2, h3, List.head?_cons, beq_self_eq_true, Bool.not_false, Bool.or_true, Bool.true_and, Bool.and_true, Bool.and_self, Bool.or_self, Bool.false_and, Bool.false_or, Bool.or_false]
  simp
theorem lifts_of {P : Program} {rest : List (List Char)} (h : behindMainWord (wordsSigns P.initOrder.toList) = "cut".toList :: rest) (hl : stripLifts liftWords ("cut".toList :: rest) = ([], "cut".toList :: rest)) : P.liftsFinal = false ∧ P.make = some .cut := by
  obtain ⟨e1, e2, e3, e4⟩ := cut_ne_gc
  constructor
  · unfold Program.liftsFinal Program.headLifts
    rw [h]
    have e5 : ((some "cut".toList : Option (List Char)) == some "carried".toList) = false := by decide +kernel
    simp only [hl, List.head?_cons, e5, Bool.false_and, Bool.false_or, beq_self_eq_true, if_true]
    rfl
  · unfold Program.make
    rw [h]
    simp only [e1, e2, beq_self_eq_true, Bool.or_self, Bool.true_or, if_true, Bool.false_eq_true, if_false]
theorem wordsSigns_cons {c : Char} (hc : c ≠ Char.ofNat 32) {X : List Char} {w : List Char} {ws : List (List Char)} (h : wordsSigns X = w :: ws) : wordsSigns (c :: X) = (c :: w) :: ws := by
  unfold wordsSigns
  split
  · rename_i h1; exact absurd h1 (by simp)
  · rename_i r h1
    cases h1
    exact absurd rfl hc
  · rename_i c' r h1 h2
    cases h2
    rw [h]
theorem wordsSigns_word (w : List Char) (h : noBlank w = true) : wordsSigns w = [w] := by
  induction w with
  | nil => rfl
  | cons c w ih =>
    simp only [noBlank, List.all_cons, Bool.and_eq_true, Bool.not_eq_true', beq_eq_false_iff_ne] at h
    exact wordsSigns_cons h.1 (ih (by simpa [noBlank] using h.2))
theorem wordsSigns_app (w r : List Char) (h : noBlank w = true) : wordsSigns (w ++ (Char.ofNat 32) :: r) = w :: wordsSigns r := by
  induction w with
  | nil => rfl
  | cons c w ih =>
    simp only [noBlank, List.all_cons, Bool.and_eq_true, Bool.not_eq_true', beq_eq_false_iff_ne] at h
    rw [List.cons_append]
    exact wordsSigns_cons h.1 (ih (by simpa [noBlank] using h.2))
theorem wordsSigns_join : ∀ {l : List (List Char)}, l.all noBlank = true → l ≠ [] → wordsSigns (joinSigns l) = l
  | [], _, h => absurd rfl h
  | [w], h, _ => by simp only [joinSigns]; exact wordsSigns_word w (by simpa using h)
  | w :: v :: r, h, _ => by
    simp only [List.all_cons, Bool.and_eq_true] at h
    simp only [joinSigns]
    rw [wordsSigns_app w _ h.1, wordsSigns_join (by simp [h.2]) (by simp)]

end Go.Fx
