import Derived.Test.YtfmghfghhipmhaaDoorRx
import Derived.Test.YtfmghfghhipmhaaDoorK7
import Derived.Deep.Strs
namespace Go.Proofs.YtfmghfghhipmhaaDoor
open Go.RowKit Go.Fx Go.ChangeShapes Go.WideShapes Go.ChangeAt
set_option linter.unusedVariables false
set_option linter.unusedSimpArgs false
theorem open_strL {H : Type} {enc : TypeId × Value → H} {P : Program} {w : World} {t e : TypeId} {fuel : Nat} {v : Value} {x : DataW H × List MemPlace} (ht : P.underlying t = some (.slice e)) (he : P.underlying e = some .string) (hc : P.cellsOf e = 1)
    (h : DataW.trod enc P w 0 (fun _ => true) true fuel t [v] = some x) : ∃ (A : Option Addr) (c : Nat) (rs : List ByteArray), v = .slice A rs.length c ∧ Rd w A (rs.map st) ∧ rs.length ≤ maxLen ∧ ∀ s ∈ rs, s.size ≤ maxLen := by
  rcases Go.Deep.open_strs ht he hc h with ⟨h1, h2⟩ | ⟨a, len, cap, m, Sx, h1, hb, hl, hm, hmm, hx, hi⟩
  · simp only [List.cons.injEq, and_true] at h1
    exact ⟨none, 0, [], h1, .inl rfl, by simp, by simp⟩
  · simp only [List.cons.injEq, and_true] at h1
    simp only [if_true] at hmm
    subst hmm
    refine ⟨some a, m, (List.range len).map Sx, by simpa using h1, ?_, by simp; omega, ?_⟩
    · by_cases h0 : len = 0
      · subst h0; exact .inl (by simp)
      · obtain ⟨ab, ao, az⟩ := a
        have hs : az = none := by
          have h2 := (hi 0 (by omega)).1
          cases az with
          | none => rfl
          | some z =>
            simp only [Addr.add, if_true, World.cell?] at h2
            split at h2 <;> simp at h2
        subst hs
        have hab : ab < w.heap.size := by
          have h2 := (hi 0 (by omega)).1
          simp only [Addr.add, if_true] at h2
          rcases Nat.lt_or_ge ab w.heap.size with h | h
          · exact h
          · simp [World.cell?, Array.getElem?_eq_none h] at h2
        refine .inr ⟨ab, ao, rfl, hab, fun j u hu => ?_⟩
        simp only [List.map_map, List.getElem?_map, Option.map_eq_some_iff] at hu
        obtain ⟨x, hx1, hx2⟩ := hu
        have hj : j < len := by
          rcases Nat.lt_or_ge j len with h | h
          · exact h
          · rw [List.getElem?_eq_none (by simpa using h)] at hx1; cases hx1
        rw [List.getElem?_range hj] at hx1
        cases hx1
        have h3 := (hi j (by omega)).1
        have e : (⟨ab, ao, none⟩ : Addr).add j = ⟨ab, ao + j, none⟩ := by unfold Addr.add; split <;> simp_all
        rw [e] at h3
        rw [h3, ← hx2]; rfl
    · intro s hs
      obtain ⟨i, hi2, rfl⟩ := List.mem_map.1 hs
      exact (hi i (by have := List.mem_range.1 hi2; omega)).2
theorem trod_f32 {H : Type} {enc : TypeId × Value → H} {P : Program} {w : World} {t : TypeId} {fuel : Nat} {v : Value} {x : DataW H × List MemPlace} (ht : P.underlying t = some (.float .f32))
    (h : DataW.trod enc P w 0 (fun _ => true) true fuel t [v] = some x) : ∃ b, v = .float .f32 b := by
  cases fuel with
  | zero => simp [DataW.trod] at h
  | succ n =>
    simp only [DataW.trod, ht] at h
    cases v <;> simp only at h <;> first | (cases h; done) | skip
    rename_i k b
    cases k
    · exact ⟨b, rfl⟩
    · simp at h
set_option maxRecDepth 100000 in
theorem open_set {H : Type} {enc : TypeId × Value → H} {w : World} {base : Nat} {v : Value} {d : DataW H} {ps : List MemPlace} (hval : Value.okWide Tryd.prog w .any base 25 v) (h : DataW.Trod enc Tryd.prog w 0 (fun _ => true) true 25 v d ps) :
    ∃ (cells rows : Int) (slice least sat : Nat) (A : Option Addr) (c : Nat) (rs : List ByteArray), v = setV cells rows slice least sat (.slice A rs.length c) ∧ Rd w A (rs.map st) ∧ rs.length ≤ maxLen ∧ ∀ s ∈ rs, s.size ≤ maxLen := by
  obtain ⟨cs, rfl, hsz⟩ := okWide_struct Tryd.underlying25 hval
  have h6 : cs.size = 6 := by rw [hsz]; kernel_rfl
  obtain ⟨fuel, hf⟩ := h
  obtain ⟨xs, n, _, hx, hl, hlen, hi⟩ := DataW.trod_struct Tryd.underlying25 hf
  obtain ⟨l⟩ := cs
  match l, h6 with
  | [c0, c1, c2, c3, c4, c5], _ =>
    have k1 : Tryd.prog.cellsOf 3 = 1 := by kernel_rfl
    have k2 : Tryd.prog.cellsOf 22 = 1 := by kernel_rfl
    have k3 : Tryd.prog.cellsOf 23 = 1 := by kernel_rfl
    have hx6 : ∀ i, i < 6 → ∃ y, xs[i]? = some y := fun i h => ⟨_, List.getElem?_eq_getElem (by rw [hlen]; exact h)⟩
    obtain ⟨y0, hy0⟩ := hx6 0 (by omega)
    obtain ⟨y1, hy1⟩ := hx6 1 (by omega)
    obtain ⟨y2, hy2⟩ := hx6 2 (by omega)
    obtain ⟨y3, hy3⟩ := hx6 3 (by omega)
    obtain ⟨y4, hy4⟩ := hx6 4 (by omega)
    obtain ⟨y5, hy5⟩ := hx6 5 (by omega)
    have e0 := hi 0 _ rfl
    have e1 := hi 1 _ rfl
    have e2 := hi 2 _ rfl
    have e3 := hi 3 _ rfl
    have e4 := hi 4 _ rfl
    have e5 := hi 5 _ rfl
    rw [hy0] at e0
    rw [hy1] at e1
    rw [hy2] at e2
    rw [hy3] at e3
    rw [hy4] at e4
    rw [hy5] at e5
    simp only [List.getElem_toArray, List.getElem_cons_zero, List.getElem_cons_succ, k1, k2, k3, Value.cells, List.drop_zero, List.drop_succ_cons, List.take_succ_cons, List.take_zero] at e0 e1 e2 e3 e4 e5
    obtain ⟨n0, hn0, -, -⟩ := DataW.trod_int Tryd.underlying3 e0
    obtain ⟨n1, hn1, -, -⟩ := DataW.trod_int Tryd.underlying3 e1
    obtain ⟨b2, rfl⟩ := trod_f32 Tryd.underlying22 e2
    obtain ⟨b3, rfl⟩ := trod_f32 Tryd.underlying22 e3
    obtain ⟨b4, rfl⟩ := trod_f32 Tryd.underlying22 e4
    obtain ⟨A, c, rs, rfl, hr, hn, hs⟩ := open_strL Tryd.underlying23 Tryd.underlying9 (by kernel_rfl) e5
    simp only [List.cons.injEq, and_true] at hn0 hn1
    subst hn0 hn1
    exact ⟨n0, n1, b2, b3, b4, A, c, rs, rfl, hr, hn, hs⟩
end Go.Proofs.YtfmghfghhipmhaaDoor
