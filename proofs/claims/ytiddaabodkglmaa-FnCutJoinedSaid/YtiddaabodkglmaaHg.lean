import Derived.Test.YtiddaabodkglmaaK1
namespace Go.Fx
open Go.RowKit
set_option linter.unusedVariables false
set_option linter.unusedSimpArgs false
/-! rows of rows: a row is replaced by another one, two are joined, parts of them -/
section
variable {w w' : World} {base : Nat} {Eo E : TypeId} {size : Nat} {v : Value} {us : List Value} {rows : List (Nat × List Value)}
theorem Rows2.replace {g n c : Nat} (h : Rows2 w base Eo E size (.slice (some ⟨g, 0, none⟩) n c) us rows) {i m : Nat} {u u' : Value} {r' : Nat × List Value} (hu : us[i]? = some u) (ho : w.ownsRow base E size u' r'.1 r'.2) (hold : InR (.slice (some ⟨g, 0, none⟩) n c) us base m) (hnew : ∀ b, u'.ownBlock = some b → m ≤ b) :
    Rows2 (w.setCell ⟨g, i, none⟩ u') base Eo E size (.slice (some ⟨g, 0, none⟩) n c) (us.set i u') (rows.set i r') := by
  obtain ⟨-, hn, -⟩ := h.rd
  have hgm : g < m := (hold.1 g rfl).2
  have hown := h.own
  rw [← hn] at hown
  have hlt : i < us.length := (List.getElem?_eq_some_iff.1 hu).1
  have fresh : ∀ b, u'.ownBlock = some b → b ≠ g := fun b hb => by have := hnew b hb; omega
  refine ⟨by simp [h.len], ?_, ?_, ?_, ?_⟩
  · rw [List.length_set, ← hn]
    exact own_set hown u'
  · intro j x r hx hr
    by_cases hij : i = j
    · subst hij
      rw [List.getElem?_set_self hlt] at hx
      rw [List.getElem?_set_self (by rw [← h.len]; exact hlt)] at hr
      cases hx; cases hr
      exact own_other ho (p := ⟨g, i, none⟩) fresh u'
    · rw [List.getElem?_set_ne hij] at hx hr
      refine own_other (h.row j x r hx hr) (p := ⟨g, i, none⟩) (fun b hb e => ?_) u'
      subst e
      exact h.out x (List.mem_of_getElem? hx) _ hb rfl
  · intro x hx b hb e
    rcases List.mem_or_eq_of_mem_set hx with h1 | h1
    · exact h.out x h1 b hb e
    · subst h1
      have e' : g = b := by
        have : (Value.slice (some ⟨g, 0, none⟩) n c).ownBlock = some g := rfl
        rw [this] at e; exact Option.some.inj e
      exact fresh b hb e'.symm
  · rw [List.pairwise_iff_getElem]
    intro a b ha hb hab x hx hy
    have ha' : a < us.length := by simpa using ha
    have hb' : b < us.length := by simpa using hb
    rw [List.getElem_set] at hx hy
    by_cases h1 : i = a
    · rw [if_pos h1] at hx
      rw [if_neg (by omega)] at hy
      have := hnew x hx
      have := (hold.2 _ (List.getElem_mem hb') x hy).2
      omega
    · rw [if_neg h1] at hx
      by_cases h2 : i = b
      · rw [if_pos h2] at hy
        have := hnew x hy
        have := (hold.2 _ (List.getElem_mem ha') x hx).2
        omega
      · rw [if_neg h2] at hy
        exact List.pairwise_iff_getElem.1 h.sep a b ha' hb' hab x hx hy
theorem Rows2.join {base2 : Nat} {v2 : Value} {us2 : List Value} {rows2 : List (Nat × List Value)} (h : Rows2 w base Eo E size v us rows) (h2 : Rows2 w base2 Eo E size v2 us2 rows2) {v' : Value} {m q : Nat} (ho : w'.ownsRow base Eo 1 v' (us.length + us2.length) (us ++ us2)) (hg : w.grownBy w' v.ownBlock)
    (hat : v'.ownBlock = v.ownBlock ∨ v'.ownBlock = some q) (hq : w.heap.size ≤ q) (hold : InR v us base m) (hm : m ≤ base2) (hb : base ≤ base2) : Rows2 w' base Eo E size v' (us ++ us2) (rows ++ rows2) := by
  have hnew := h2.inR
  have hvu : ∀ x ∈ us2, ∀ b, x.ownBlock = some b → v.ownBlock ≠ some b := fun x hx b hb e => by
    have := (hnew.2 x hx b hb).1
    have := (hold.1 b e).2
    omega
  have hat' : ∀ b, b < w.heap.size → v'.ownBlock = some b → v.ownBlock = some b := fun b hb e => by
    rcases hat with h1 | h1
    · rw [← h1]; exact e
    · rw [h1] at e; cases e; omega
  refine ⟨by simp [h.len, h2.len], ?_, ?_, ?_, ?_⟩
  · rw [List.length_append, ← h.len, ← h2.len]; exact ho
  · intro i x y hx hy
    by_cases hi : i < us.length
    · rw [List.getElem?_append_left hi] at hx
      rw [List.getElem?_append_left (by rw [← h.len]; exact hi)] at hy
      exact own_apart (h.row i x y hx hy) hg fun b hb e => h.out x (List.mem_of_getElem? hx) b hb e.symm
    · rw [List.getElem?_append_right (by omega)] at hx
      rw [List.getElem?_append_right (by rw [← h.len]; omega), ← h.len] at hy
      exact own_apart (own_base (h2.row _ x y hx hy) hb) hg fun b hb e => hvu x (List.mem_of_getElem? hx) b hb e.symm
  · intro x hx b hb e
    rcases List.mem_append.1 hx with hx | hx
    · obtain ⟨_, _, hox⟩ := h.mem hx
      exact h.out x hx b hb (hat' b (hox.lt b hb).2 e)
    · exact hvu x hx b hb (hat' b (hnew.2 x hx b hb).2 e)
  · refine List.pairwise_append.2 ⟨h.sep, h2.sep, fun x hx y hy b hb e => ?_⟩
    have := (hold.2 x hx b hb).2
    have := (hnew.2 y hy b e).1
    omega
theorem Rd.cut {b off : Nat} {cs : List Value} (h : Rd w (some ⟨b, off, none⟩) cs) (i n : Nat) : Rd w (some ⟨b, off + i, none⟩) ((cs.drop i).take n) := by
  rcases h with h | ⟨b', off', hA, hb, hc⟩
  · subst h; exact .inl (by simp)
  · injection hA with hA
    injection hA with e1 e2
    subst e1 e2
    refine .inr ⟨b, off + i, rfl, hb, fun j u hu => ?_⟩
    rw [List.getElem?_take] at hu
    split at hu
    · rw [List.getElem?_drop] at hu
      have := hc _ u hu
      rw [← Nat.add_assoc] at this
      exact this
    · cases hu
theorem RdRows.cut {b off : Nat} (h : RdRows w (some ⟨b, off, none⟩) us rows) (i n : Nat) : RdRows w (some ⟨b, off + i, none⟩) ((us.drop i).take n) ((rows.drop i).take n) := by
  refine ⟨by simp [h.len], h.rd.cut i n, fun j x r hx hr => ?_⟩
  rw [List.getElem?_take] at hx hr
  split at hx
  · rename_i hlt
    rw [if_pos hlt, List.getElem?_drop] at hr
    rw [List.getElem?_drop] at hx
    exact h.row _ x r hx hr
  · cases hx
end
end Go.Fx
