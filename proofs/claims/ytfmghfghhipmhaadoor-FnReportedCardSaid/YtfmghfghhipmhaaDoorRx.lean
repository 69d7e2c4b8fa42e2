import Derived.Test.YtfmghfghhipmhaaDoorRw
import Derived.Laws.Cover2
import Derived.Carry
namespace Go.Fx
open Go.RowKit Go.ChangeShapes Go.WideShapes Go.ChangeAt
set_option linter.unusedVariables false
set_option linter.unnecessarySimpa false
set_option linter.unusedSimpArgs false
abbrev by8 (n : Int) : Value := .int .u8 n

section
variable {H : Type} {enc : TypeId × Value → H} {P : Program}

theorem open_i64 {w : World} {base : Nat} {t : TypeId} {v : Value} {d : DataW H} {ps : List MemPlace} (ht : P.underlying t = some (.int .i64)) (hval : Value.okWide P w .any base t v) (h : DataW.Trod enc P w 0 (fun _ => true) true t v d ps) :
    ∃ n, v = .int .i64 n ∧ -9223372036854775808 ≤ n ∧ n ≤ 9223372036854775807 := by
  obtain ⟨n, h1, h2⟩ := Go.ChangeShapes.open_int ht hval h
  exact ⟨n, h1, by simpa [Lit.wf, IntKind.min, IntKind.max, IntKind.bits, IntKind.signed] using h2.2.2⟩
theorem open_f32 {w : World} {base : Nat} {t : TypeId} {v : Value} (ht : P.underlying t = some (.float .f32)) (hval : Value.okWide P w .any base t v) : ∃ b, v = .float .f32 b := okWide_float ht hval
theorem open_b {w : World} {base : Nat} {t : TypeId} {v : Value} (ht : P.underlying t = some .bool) (hval : Value.okWide P w .any base t v) : ∃ b, v = .bool b := okWide_bool ht hval

/-- a slice of ints that came in -/
theorem open_i64s {w : World} {base : Nat} {t e : TypeId} {v : Value} {d : DataW H} {ps : List MemPlace} (ht : P.underlying t = some (.slice e)) (he : P.underlying e = some (.int .i64)) (hc : P.cellsOf e = 1)
    (hval : Value.okWide P w .any base t v) (h : DataW.Trod enc P w 0 (fun _ => true) true t v d ps) (hlt : ∀ x ∈ ps, x.block < w.heap.size) :
    ∃ (A : Option Addr) (c : Nat) (rs : List Int), v = .slice A rs.length c ∧ Rd w A (rs.map it) ∧ rs.length ≤ maxLen ∧ (∀ x ∈ rs, -9223372036854775808 ≤ x ∧ x ≤ 9223372036854775807) := by
  obtain ⟨a0, len, cap, rfl⟩ := okWide_slice ht hval
  obtain ⟨fuel, hf⟩ := h
  have hf' : DataW.trod enc P w 0 (fun _ => true) true fuel t [.slice a0 len cap] = some (d, ps) := by simpa [Value.cells] using hf
  rcases Go.Deep.open_slice1 ht hc hf' with ⟨h1, h2⟩ | ⟨a, len', cap', m, n, V, D, Pl, h1, hb, hl, hm, hmm, hx, hi⟩
  · simp only [List.cons.injEq, Value.slice.injEq, and_true] at h1
    obtain ⟨rfl, rfl, rfl⟩ := h1
    exact ⟨none, 0, [], rfl, .inl rfl, by simp, by simp⟩
  · simp only [List.cons.injEq, Value.slice.injEq, and_true] at h1
    obtain ⟨rfl, rfl, rfl⟩ := h1
    simp only [if_true] at hmm
    subst hmm
    have hv : ∀ i, i < m → ∃ b : Int, V i = .int .i64 b ∧ -9223372036854775808 ≤ b ∧ b ≤ 9223372036854775807 := by
      intro i him
      obtain ⟨_, h2⟩ := hi i him
      obtain ⟨b, h3, -, h4⟩ := DataW.trod_int he h2
      simp only [List.cons.injEq, and_true] at h3
      exact ⟨b, h3, by simpa [Lit.wf, IntKind.min, IntKind.max, IntKind.bits, IntKind.signed] using h4⟩
    let g : Nat → Int := fun i => match V i with | .int _ b => b | _ => 0
    have hg : ∀ i, i < m → V i = .int .i64 (g i) ∧ -9223372036854775808 ≤ g i ∧ g i ≤ 9223372036854775807 := by
      intro i him
      obtain ⟨b, hb, hlt⟩ := hv i him
      have : g i = b := by simp only [g, hb]
      exact ⟨by rw [this]; exact hb, by rw [this]; exact hlt⟩
    refine ⟨some a, m, (List.range len).map g, by simp, ?_, by simp; omega, ?_⟩
    · by_cases h0 : len = 0
      · subst h0; exact .inl (by simp)
      · obtain ⟨ab, ao, as⟩ := a
        have hcell : ∀ i, i < len → w.cell? ((⟨ab, ao, as⟩ : Addr).add i) = some (.int .i64 (g i)) := fun i hil => by
          rw [(hi i (by omega)).1, (hg i (by omega)).1]
        have hs : as = none := by
          have h2 := hcell 0 (by omega)
          cases as with
          | none => rfl
          | some z =>
            simp only [Addr.add, if_true, World.cell?] at h2
            split at h2 <;> simp at h2
        subst hs
        have hab : ab < w.heap.size := by
          have h2 := hcell 0 (by omega)
          simp only [Addr.add, if_true] at h2
          rcases Nat.lt_or_ge ab w.heap.size with h | h
          · exact h
          · simp [World.cell?, Array.getElem?_eq_none h] at h2
        refine .inr ⟨ab, ao, rfl, hab, fun j u hu => ?_⟩
        simp only [List.map_map, List.getElem?_map, Option.map_eq_some_iff, List.getElem?_range] at hu
        obtain ⟨x, hx1, hx2⟩ := hu
        have hj : j < len := by
          rcases Nat.lt_or_ge j len with h | h
          · exact h
          · rw [List.getElem?_eq_none (by simpa using h)] at hx1; cases hx1
        rw [List.getElem?_range hj] at hx1
        cases hx1
        have h3 := hcell j hj
        have e : (⟨ab, ao, none⟩ : Addr).add j = ⟨ab, ao + j, none⟩ := by unfold Addr.add; split <;> simp_all
        rw [e] at h3
        rw [h3, ← hx2]; rfl
    · intro x hx
      obtain ⟨i, hi2, rfl⟩ := List.mem_map.1 hx
      exact (hg i (by have := List.mem_range.1 hi2; omega)).2
/-- bytes that came in -/
theorem open_u8s {w : World} {base : Nat} {t e : TypeId} {v : Value} {d : DataW H} {ps : List MemPlace} (ht : P.underlying t = some (.slice e)) (he : P.underlying e = some (.int .u8)) (hc : P.cellsOf e = 1)
    (hval : Value.okWide P w .any base t v) (h : DataW.Trod enc P w 0 (fun _ => true) true t v d ps) (hlt : ∀ x ∈ ps, x.block < w.heap.size) :
    ∃ (A : Option Addr) (c : Nat) (rs : List Int), v = .slice A rs.length c ∧ Rd w A (rs.map by8) ∧ rs.length ≤ maxLen ∧ (∀ x ∈ rs, 0 ≤ x ∧ x ≤ 255) := by
  obtain ⟨a0, len, cap, rfl⟩ := okWide_slice ht hval
  obtain ⟨fuel, hf⟩ := h
  have hf' : DataW.trod enc P w 0 (fun _ => true) true fuel t [.slice a0 len cap] = some (d, ps) := by simpa [Value.cells] using hf
  rcases Go.Deep.open_slice1 ht hc hf' with ⟨h1, h2⟩ | ⟨a, len', cap', m, n, V, D, Pl, h1, hb, hl, hm, hmm, hx, hi⟩
  · simp only [List.cons.injEq, Value.slice.injEq, and_true] at h1
    obtain ⟨rfl, rfl, rfl⟩ := h1
    exact ⟨none, 0, [], rfl, .inl rfl, by simp, by simp⟩
  · simp only [List.cons.injEq, Value.slice.injEq, and_true] at h1
    obtain ⟨rfl, rfl, rfl⟩ := h1
    simp only [if_true] at hmm
    subst hmm
    have hv : ∀ i, i < m → ∃ b : Int, V i = .int .u8 b ∧ 0 ≤ b ∧ b ≤ 255 := by
      intro i him
      obtain ⟨_, h2⟩ := hi i him
      obtain ⟨b, h3, -, h4⟩ := DataW.trod_int he h2
      simp only [List.cons.injEq, and_true] at h3
      exact ⟨b, h3, by simpa [Lit.wf, IntKind.min, IntKind.max, IntKind.bits, IntKind.signed] using h4⟩
    let g : Nat → Int := fun i => match V i with | .int _ b => b | _ => 0
    have hg : ∀ i, i < m → V i = .int .u8 (g i) ∧ 0 ≤ g i ∧ g i ≤ 255 := by
      intro i him
      obtain ⟨b, hb, hlt⟩ := hv i him
      have : g i = b := by simp only [g, hb]
      exact ⟨by rw [this]; exact hb, by rw [this]; exact hlt⟩
    refine ⟨some a, m, (List.range len).map g, by simp, ?_, by simp; omega, ?_⟩
    · by_cases h0 : len = 0
      · subst h0; exact .inl (by simp)
      · obtain ⟨ab, ao, as⟩ := a
        have hcell : ∀ i, i < len → w.cell? ((⟨ab, ao, as⟩ : Addr).add i) = some (.int .u8 (g i)) := fun i hil => by
          rw [(hi i (by omega)).1, (hg i (by omega)).1]
        have hs : as = none := by
          have h2 := hcell 0 (by omega)
          cases as with
          | none => rfl
          | some z =>
            simp only [Addr.add, if_true, World.cell?] at h2
            split at h2 <;> simp at h2
        subst hs
        have hab : ab < w.heap.size := by
          have h2 := hcell 0 (by omega)
          simp only [Addr.add, if_true] at h2
          rcases Nat.lt_or_ge ab w.heap.size with h | h
          · exact h
          · simp [World.cell?, Array.getElem?_eq_none h] at h2
        refine .inr ⟨ab, ao, rfl, hab, fun j u hu => ?_⟩
        simp only [List.map_map, List.getElem?_map, Option.map_eq_some_iff, List.getElem?_range] at hu
        obtain ⟨x, hx1, hx2⟩ := hu
        have hj : j < len := by
          rcases Nat.lt_or_ge j len with h | h
          · exact h
          · rw [List.getElem?_eq_none (by simpa using h)] at hx1; cases hx1
        rw [List.getElem?_range hj] at hx1
        cases hx1
        have h3 := hcell j hj
        have e : (⟨ab, ao, none⟩ : Addr).add j = ⟨ab, ao + j, none⟩ := by unfold Addr.add; split <;> simp_all
        rw [e] at h3
        rw [h3, ← hx2]; rfl
    · intro x hx
      obtain ⟨i, hi2, rfl⟩ := List.mem_map.1 hx
      exact (hg i (by have := List.mem_range.1 hi2; omega)).2
theorem open_u8s_cap {w : World} {base : Nat} {t e : TypeId} {v : Value} {d : DataW H} {ps : List MemPlace} (ht : P.underlying t = some (.slice e)) (he : P.underlying e = some (.int .u8)) (hc : P.cellsOf e = 1)
    (hval : Value.okWide P w .any base t v) (h : DataW.Trod enc P w 0 (fun _ => true) true t v d ps) (hlt : ∀ x ∈ ps, x.block < w.heap.size) :
    ∃ (A : Option Addr) (c : Nat) (rs : List Int), v = .slice A rs.length c ∧ Rd w A (rs.map by8) ∧ rs.length ≤ maxLen ∧ (∀ x ∈ rs, 0 ≤ x ∧ x ≤ 255) ∧ rs.length ≤ c := by
  obtain ⟨a0, len, cap, rfl⟩ := okWide_slice ht hval
  obtain ⟨fuel, hf⟩ := h
  have hf' : DataW.trod enc P w 0 (fun _ => true) true fuel t [.slice a0 len cap] = some (d, ps) := by simpa [Value.cells] using hf
  rcases Go.Deep.open_slice1 ht hc hf' with ⟨h1, h2⟩ | ⟨a, len', cap', m, n, V, D, Pl, h1, hb, hl, hm, hmm, hx, hi⟩
  · simp only [List.cons.injEq, Value.slice.injEq, and_true] at h1
    obtain ⟨rfl, rfl, rfl⟩ := h1
    exact ⟨none, 0, [], rfl, .inl rfl, by simp, by simp, by simp⟩
  · simp only [List.cons.injEq, Value.slice.injEq, and_true] at h1
    obtain ⟨rfl, rfl, rfl⟩ := h1
    simp only [if_true] at hmm
    subst hmm
    have hv : ∀ i, i < m → ∃ b : Int, V i = .int .u8 b ∧ 0 ≤ b ∧ b ≤ 255 := by
      intro i him
      obtain ⟨_, h2⟩ := hi i him
      obtain ⟨b, h3, -, h4⟩ := DataW.trod_int he h2
      simp only [List.cons.injEq, and_true] at h3
      exact ⟨b, h3, by simpa [Lit.wf, IntKind.min, IntKind.max, IntKind.bits, IntKind.signed] using h4⟩
    let g : Nat → Int := fun i => match V i with | .int _ b => b | _ => 0
    have hg : ∀ i, i < m → V i = .int .u8 (g i) ∧ 0 ≤ g i ∧ g i ≤ 255 := by
      intro i him
      obtain ⟨b, hb, hlt⟩ := hv i him
      have : g i = b := by simp only [g, hb]
      exact ⟨by rw [this]; exact hb, by rw [this]; exact hlt⟩
    refine ⟨some a, m, (List.range len).map g, by simp, ?_, by simp; omega, ?_, by simp; omega⟩
    · by_cases h0 : len = 0
      · subst h0; exact .inl (by simp)
      · obtain ⟨ab, ao, as⟩ := a
        have hcell : ∀ i, i < len → w.cell? ((⟨ab, ao, as⟩ : Addr).add i) = some (.int .u8 (g i)) := fun i hil => by
          rw [(hi i (by omega)).1, (hg i (by omega)).1]
        have hs : as = none := by
          have h2 := hcell 0 (by omega)
          cases as with
          | none => rfl
          | some z =>
            simp only [Addr.add, if_true, World.cell?] at h2
            split at h2 <;> simp at h2
        subst hs
        have hab : ab < w.heap.size := by
          have h2 := hcell 0 (by omega)
          simp only [Addr.add, if_true] at h2
          rcases Nat.lt_or_ge ab w.heap.size with h | h
          · exact h
          · simp [World.cell?, Array.getElem?_eq_none h] at h2
        refine .inr ⟨ab, ao, rfl, hab, fun j u hu => ?_⟩
        simp only [List.map_map, List.getElem?_map, Option.map_eq_some_iff, List.getElem?_range] at hu
        obtain ⟨x, hx1, hx2⟩ := hu
        have hj : j < len := by
          rcases Nat.lt_or_ge j len with h | h
          · exact h
          · rw [List.getElem?_eq_none (by simpa using h)] at hx1; cases hx1
        rw [List.getElem?_range hj] at hx1
        cases hx1
        have h3 := hcell j hj
        have e : (⟨ab, ao, none⟩ : Addr).add j = ⟨ab, ao + j, none⟩ := by unfold Addr.add; split <;> simp_all
        rw [e] at h3
        rw [h3, ← hx2]; rfl
    · intro x hx
      obtain ⟨i, hi2, rfl⟩ := List.mem_map.1 hx
      exact (hg i (by have := List.mem_range.1 hi2; omega)).2
end
end Go.Fx
