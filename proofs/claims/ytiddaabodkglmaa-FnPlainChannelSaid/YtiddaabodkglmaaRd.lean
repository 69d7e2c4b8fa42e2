import Derived.Test.YtiddaabodkglmaaFw
import Derived.Test.YtiddaabodkglmaaMo
namespace Go.Fx
open Go.RowKit
set_option linter.unusedVariables false
set_option linter.unusedSimpArgs false

/-! slices that are read, slices that the call owns -/

abbrev fl (x : Nat) : Value := .float .f32 x
abbrev it (n : Int) : Value := .int .i64 n

/-- the value '.slice A n c' reads as these cells; it lies among the blocks of 'w' -/
def Rd (w : World) (A : Option Addr) (cs : List Value) : Prop :=
  cs = [] ∨ ∃ b off, A = some ⟨b, off, none⟩ ∧ b < w.heap.size ∧ ∀ j u, cs[j]? = some u → w.cell? ⟨b, off + j, none⟩ = some u

/-- what a call leaves: nothing that was there has turned -/
abbrev Ext (w w' : World) : Prop := Below w.heap.size w w'

theorem Ext.refl (w : World) : Ext w w := Below.refl _ _
theorem Ext.trans {a b c : World} (h : Ext a b) (k : Ext b c) : Ext a c := Below.trans h (k.mono h.size)
theorem Ext.drewN (w : World) (n : Nat) : Ext w (w.drewN n) := below_drewN (Below.refl _ _) n

theorem Ext.step {a b c d : World} (h : Ext a b) (hd : ∃ n, c = b.drewN n) (k : Ext c d) : Ext a d := by
  obtain ⟨n, rfl⟩ := hd
  exact Ext.trans (Ext.trans h (Ext.drewN b n)) k
section
variable {w w' : World} {A : Option Addr} {cs : List Value}
theorem Rd.nil (w : World) (A : Option Addr) : Rd w A [] := .inl rfl
theorem Rd.ext (h : Rd w A cs) (e : Ext w w') : Rd w' A cs := by
  rcases h with h | ⟨b, off, hA, hb, hc⟩
  · exact .inl h
  · refine .inr ⟨b, off, hA, Nat.lt_of_lt_of_le hb e.size, fun j u hu => ?_⟩
    rw [e.cell (p := ⟨b, off + j, none⟩) hb]
    exact hc j u hu
theorem Rd.drewN (h : Rd w A cs) (n : Nat) : Rd (w.drewN n) A cs := h.ext (Ext.drewN w n)
/-- only block g, and what is new, has turned -/
theorem Rd.grown {row : Option Nat} (h : Rd w A cs) (e : w.grownBy w' row) (hne : ∀ ad, A = some ad → cs ≠ [] → some ad.block ≠ row) : Rd w' A cs := by
  rcases h with h | ⟨b, off, hA, hb, hc⟩
  · exact .inl h
  · by_cases hcs : cs = []
    · exact .inl hcs
    · refine .inr ⟨b, off, hA, Nat.lt_of_lt_of_le hb e.size, fun j u hu => ?_⟩
      rw [World.cell?_of_block (w := w) (a := ⟨b, off + j, none⟩) (e.block b hb (hne _ hA hcs))]
      exact hc j u hu
end

/-! rows of the call's own -/
section
variable {w w' : World} {base : Nat} {E : TypeId} {size n : Nat} {v : Value} {xs : List Value}
theorem own_form (h : w.ownsRow base E size v n xs) : (v = .slice none 0 0 ∧ n = 0 ∧ xs = []) ∨ ∃ g c, v = .slice (some ⟨g, 0, none⟩) n c ∧ base ≤ g ∧ g < w.heap.size ∧ n ≤ c ∧ c ≤ maxLen := by
  obtain ⟨hl, h⟩ := h
  rcases h with ⟨rfl, rfl⟩ | ⟨g, cap, cur, rfl, hb, hg, hn, hc, _⟩
  · exact .inl ⟨rfl, rfl, List.eq_nil_of_length_eq_zero (by simpa using hl)⟩
  · exact .inr ⟨g, cap, rfl, hb, (Array.getElem?_eq_some_iff.1 hg).1, hn, hc⟩
theorem own_slice (h : w.ownsRow base E size v n xs) : ∃ A c, v = .slice A n c ∧ Rd w A xs ∧ (A = none → n = 0) := by
  rcases own_form h with ⟨rfl, rfl, rfl⟩ | ⟨g, c, rfl, _, hg, _, _⟩
  · exact ⟨none, 0, rfl, .inl rfl, fun _ => rfl⟩
  · refine ⟨_, c, rfl, .inr ⟨g, 0, rfl, hg, fun j u hu => ?_⟩, fun h => by cases h⟩
    have := h.cells (g := g) rfl j u hu
    unfold Addr.add at this
    by_cases hj : j = 0
    · subst hj; simpa using this
    · simpa [hj] using this
theorem own_cell {g c : Nat} (h : w.ownsRow base E size (.slice (some ⟨g, 0, none⟩) n c) n xs) {j : Nat} {u : Value} (hu : xs[j]? = some u) : w.cell? ⟨g, j, none⟩ = some u := by
  have := h.cells (g := g) rfl j u hu
  unfold Addr.add at this
  by_cases hj : j = 0
  · subst hj; simpa using this
  · simpa [hj] using this
theorem own_frozen {g c : Nat} (h : w.ownsRow base E size (.slice (some ⟨g, 0, none⟩) n c) n xs) (j : Nat) : w.frozen? ⟨g, j, none⟩ = false := by
  rcases h.2 with ⟨h, _⟩ | ⟨g', cap, cur, hv, _, hg, _⟩
  · cases h
  · cases hv
    simp [World.frozen?, hg]
theorem own_set {g c : Nat} (h : w.ownsRow base E size (.slice (some ⟨g, 0, none⟩) n c) n xs) {j : Nat} (u : Value) :
    (w.setCell ⟨g, j, none⟩ u).ownsRow base E size (.slice (some ⟨g, 0, none⟩) n c) n (xs.set j u) := by
  obtain ⟨hl, h⟩ := h
  refine ⟨by simpa using hl, ?_⟩
  rcases h with ⟨h, _⟩ | ⟨g', cap, cur, hv, hb, hg, hn, hc, hs, ht⟩
  · cases h
  · cases hv
    refine .inr ⟨g, c, cur.setIfInBounds j u, rfl, hb, ?_, hn, hc, by simpa using hs, ?_⟩
    · simp [World.setCell, Array.getElem?_modify, hg]
    · rw [Array.toList_setIfInBounds, List.take_set, ht]
theorem own_draw (h : w.ownsRow base E size v n xs) (k : Nat) : (w.drewN k).ownsRow base E size v n xs := h
theorem own_ext (h : w.ownsRow base E size v n xs) (e : Ext w w') : w'.ownsRow base E size v n xs := by
  refine ⟨h.1, ?_⟩
  rcases h.2 with hn | ⟨g, cap, cur, rfl, hb, hgg, rest⟩
  · exact .inl hn
  · exact .inr ⟨g, cap, cur, rfl, hb, (e.block g (Array.getElem?_eq_some_iff.1 hgg).1).trans hgg, rest⟩
theorem own_base {base' : Nat} (h : w.ownsRow base E size v n xs) (hb : base' ≤ base) : w.ownsRow base' E size v n xs := by
  refine ⟨h.1, ?_⟩
  rcases h.2 with hn | ⟨g, cap, cur, hv, hb', rest⟩
  · exact .inl hn
  · exact .inr ⟨g, cap, cur, hv, by omega, rest⟩
theorem grown_ext {row : Option Nat} (h : w.grownBy w' row) (hr : ∀ k, row = some k → w.heap.size ≤ k) : Ext w w' :=
  ⟨h.os, h.tape, h.output, h.size, fun k hk => h.block k hk (fun e => by have := hr k e.symm; omega)⟩
theorem grown_none (h : w.grownBy w' none) : Ext w w' := grown_ext h (fun k hk => by cases hk)
end

theorem grown_refl (w : World) (row : Option Nat) : w.grownBy w row := ⟨rfl, rfl, rfl, Nat.le_refl _, fun _ _ _ => rfl⟩
theorem grown_drewN {w w' : World} {row : Option Nat} (h : w.grownBy w' row) (n : Nat) : w.grownBy (w'.drewN n) row := ⟨h.os, h.tape, h.output, h.size, h.block⟩
theorem grown_set {w w' : World} {row : Option Nat} (h : w.grownBy w' row) {p : Addr} (hp : some p.block = row ∨ w.heap.size ≤ p.block) (u : Value) : w.grownBy (w'.setCell p u) row :=
  ⟨h.os, h.tape, h.output, by simpa [World.setCell] using h.size, fun k hk hne => by
    rw [Below.heap_setCell w' p u k (fun e => by
      subst e
      rcases hp with hp | hp
      · exact hne hp
      · omega)]
    exact h.block k hk hne⟩
theorem grown_ext' {w w1 w2 : World} {row : Option Nat} (h : w.grownBy w1 row) (e : Ext w1 w2) : w.grownBy w2 row :=
  ⟨e.os.trans h.os, e.tape.trans h.tape, e.output.trans h.output, Nat.le_trans h.size e.size, fun k hk hne => (e.block k (Nat.lt_of_lt_of_le hk h.size)).trans (h.block k hk hne)⟩
theorem ext_grown {w w1 w2 : World} {row : Option Nat} (e : Ext w w1) (h : w1.grownBy w2 row) : w.grownBy w2 row :=
  ⟨h.os.trans e.os, h.tape.trans e.tape, h.output.trans e.output, Nat.le_trans e.size h.size, fun k hk hne => (h.block k (Nat.lt_of_lt_of_le hk e.size) hne).trans (e.block k hk)⟩
theorem grown_trans {w w1 w2 : World} {row : Option Nat} (e : w.grownBy w1 row) (h : w1.grownBy w2 row) : w.grownBy w2 row :=
  ⟨h.os.trans e.os, h.tape.trans e.tape, h.output.trans e.output, Nat.le_trans e.size h.size, fun k hk hne => (h.block k (Nat.lt_of_lt_of_le hk e.size) hne).trans (e.block k hk hne)⟩
/-- an owned row where there is an element -/
theorem own_at {w : World} {base : Nat} {E : TypeId} {size n c : Nat} {A : Option Addr} {xs : List Value} (h : w.ownsRow base E size (.slice A n c) n xs) (hn : 0 < n) : ∃ g, A = some ⟨g, 0, none⟩ ∧ base ≤ g ∧ g < w.heap.size := by
  rcases own_form h with ⟨h1, h2, _⟩ | ⟨g, c', hv, hb, hg, _, _⟩
  · omega
  · cases hv; exact ⟨g, rfl, hb, hg⟩

/-! the elements' cells -/
@[simp] theorem getElem?_fl (rs : List Nat) (j : Nat) : (rs.map fl)[j]? = (rs[j]?).map fl := by simp
theorem rf_at {w : World} {A : Option Addr} {rs : List Nat} (h : Rd w A (rs.map fl)) {i : Nat} (hi : i < rs.length) :
    ∃ b off, A = some ⟨b, off, none⟩ ∧ b < w.heap.size ∧ w.cell? ⟨b, off + i, none⟩ = some (.float .f32 rs[i]) := by
  rcases h with h | ⟨b, off, hA, hb, hc⟩
  · have : rs = [] := by simpa using h
    subst this; simp at hi
  · exact ⟨b, off, hA, hb, hc i _ (by simp [hi])⟩
theorem ri_at {w : World} {A : Option Addr} {rs : List Int} (h : Rd w A (rs.map it)) {i : Nat} (hi : i < rs.length) :
    ∃ b off, A = some ⟨b, off, none⟩ ∧ b < w.heap.size ∧ w.cell? ⟨b, off + i, none⟩ = some (.int .i64 rs[i]) := by
  rcases h with h | ⟨b, off, hA, hb, hc⟩
  · have : rs = [] := by simpa using h
    subst this; simp at hi
  · exact ⟨b, off, hA, hb, hc i _ (by simp [hi])⟩

def cells2 {α : Type} (f g : α → Value) (xs : List α) : List Value := xs.flatMap fun x => [f x, g x]
theorem cells2_len {α : Type} (f g : α → Value) (xs : List α) : (cells2 f g xs).length = xs.length * 2 := by
  unfold cells2
  induction xs with
  | nil => rfl
  | cons x l ih => rw [List.flatMap_cons, List.length_append, ih]; simp; omega
theorem cells2_at {α : Type} (f g : α → Value) (xs : List α) {i : Nat} (hi : i < xs.length) : (cells2 f g xs)[i * 2]? = some (f xs[i]) ∧ (cells2 f g xs)[i * 2 + 1]? = some (g xs[i]) := by
  unfold cells2
  induction xs generalizing i with
  | nil => simp at hi
  | cons x l ih =>
    cases i with
    | zero => simp [List.flatMap_cons]
    | succ i =>
      have := ih (i := i) (by simpa using hi)
      rw [List.flatMap_cons]
      have e1 : (i + 1) * 2 = i * 2 + 2 := by omega
      rw [e1]
      simpa using this
abbrev c1 (c : Cel) : Value := .float .f32 c.y
abbrev c2 (c : Cel) : Value := .complex .f32 c.re c.im
abbrev ccells (cs : List Cel) : List Value := cells2 c1 c2 cs
theorem rc_at {w : World} {A : Option Addr} {cs : List Cel} (h : Rd w A (ccells cs)) {i : Nat} (hi : i < cs.length) :
    ∃ b off, A = some ⟨b, off, none⟩ ∧ b < w.heap.size ∧ w.cell? ⟨b, off + i * 2, none⟩ = some (.float .f32 cs[i].y) ∧ w.cell? ⟨b, off + i * 2 + 1, none⟩ = some (.complex .f32 cs[i].re cs[i].im) := by
  rcases h with h | ⟨b, off, hA, hb, hc⟩
  · have h2 : (ccells cs).length = cs.length * 2 := cells2_len _ _ _
    rw [h] at h2; simp at h2; omega
  · obtain ⟨h1, h2⟩ := cells2_at c1 c2 cs hi
    exact ⟨b, off, hA, hb, hc _ _ h1, by have := hc _ _ h2; rwa [← Nat.add_assoc] at this⟩

/-- the canonical numbers of raw ones -/
abbrev cns (rs : List Nat) : List Nat := rs.map (cn .f32)
abbrev ccn (cs : List Cel) : List Cel := cs.map Cel.cn

/-- the first k of these cells are those -/
def Upto (k : Nat) (xs ys : List Value) : Prop := xs.length = ys.length ∧ ∀ j, j < k → xs[j]? = ys[j]?
theorem Upto.zero {xs ys : List Value} (h : xs.length = ys.length) : Upto 0 xs ys := ⟨h, fun j hj => by omega⟩
theorem Upto.step {k : Nat} {xs ys : List Value} (h : Upto k xs ys) {u : Value} (hu : ys[k]? = some u) : Upto (k + 1) (xs.set k u) ys := by
  refine ⟨by simpa using h.1, fun j hj => ?_⟩
  by_cases hjk : j = k
  · subst hjk
    have := (List.getElem?_eq_some_iff.1 hu).1
    rw [List.getElem?_set_self (by rw [h.1]; exact this), hu]
  · rw [List.getElem?_set_ne (by omega)]
    exact h.2 j (by omega)
theorem Upto.step2 {k : Nat} {xs ys : List Value} (h : Upto (2 * k) xs ys) {u v : Value} (hu : ys[2 * k]? = some u) (hv : ys[2 * k + 1]? = some v) : Upto (2 * (k + 1)) ((xs.set (2 * k) u).set (2 * k + 1) v) ys :=
  (h.step hu).step hv
theorem Upto.all {xs ys : List Value} (h : Upto ys.length xs ys) : xs = ys := by
  apply List.ext_getElem? 
  intro j
  by_cases hj : j < ys.length
  · exact h.2 j hj
  · rw [List.getElem?_eq_none (by have := h.1; omega), List.getElem?_eq_none (by omega)]

end Go.Fx
