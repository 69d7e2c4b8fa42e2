import Derived.Test.YtfmghfghhipmhaaDoorK1
import Derived.ProofKit
import Derived.Deep.Slices
namespace Go.Fx
open Go.RowKit Go.ChangeShapes Go.WideShapes Go.ChangeAt
set_option linter.unusedVariables false
set_option linter.unnecessarySimpa false
set_option linter.unusedSimpArgs false

/-! the row of a law: it returns true, and nothing that was there has turned -/
section
variable {H : Type} {enc : TypeId × Value → H} {P : Program}

theorem trodAll_lt {w : World} {ts : List TypeId} {vs : List Value} {ds : List (DataW H)} {ps : List MemPlace} (h : DataW.TrodAll enc P w 0 (fun _ => true) true ts vs ds ps) :
    ts.length = vs.length ∧ ts.length = ds.length := by
  induction ts generalizing vs ds ps with
  | nil => cases vs <;> cases ds <;> simp [DataW.TrodAll] at h ⊢
  | cons t ts ih =>
    cases vs with
    | nil => simp [DataW.TrodAll] at h
    | cons v vs =>
      cases ds with
      | nil => simp [DataW.TrodAll] at h
      | cons d ds =>
        obtain ⟨p, q, _, h2, _⟩ := h
        have := ih h2
        simp; omega

theorem trodAll_below (hl : laidOutB P = true) {W W' : World} (hb : Below W.heap.size W W') {ts : List TypeId} {vs : List Value} {ds : List (DataW H)} {ps : List MemPlace}
    (hr : ts.all (fun t => P.readableRec t && decide (t < P.types.size)) = true) (h : DataW.TrodAll enc P W 0 (fun _ => true) true ts vs ds ps) (hlt : ∀ x ∈ ps, x.block < W.heap.size) :
    DataW.TrodAll enc P W' 0 (fun b => decide (b < W.heap.size)) true ts vs ds ps := by
  induction ts generalizing vs ds ps with
  | nil => cases vs <;> cases ds <;> first | exact h | exact h.elim
  | cons t ts ih =>
    cases vs with
    | nil => simp [DataW.TrodAll] at h
    | cons v vs =>
      cases ds with
      | nil => simp [DataW.TrodAll] at h
      | cons d ds =>
        obtain ⟨p, q, h1, h2, rfl⟩ := h
        simp only [List.all_cons, Bool.and_eq_true, decide_eq_true_eq] at hr
        obtain ⟨⟨hr1, hr2⟩, hr3⟩ := hr
        refine ⟨p, q, Below.trod hl hr1 hr2 h1 hb (fun x hx => hlt x (List.mem_append_left _ hx)), ih ?_ h2 (fun x hx => hlt x (List.mem_append_right _ hx)), rfl⟩
        simpa using hr3

theorem law_post {f : Func} {s : ChangeSpec} {W W' : World} {args : Array Value} {ds gs : List (DataW H)} {before : List MemPlace} {tb : TypeId} (hl : laidOutB P = true)
    (hr : f.params.toList.all (fun t => P.readableRec t && decide (t < P.types.size)) = true) (hv : s.vars = []) (hs : gs = [] → s.fn H (ds ++ gs) = { results := [.lit (.bool true)], args := ds })
    (hrt : f.resultTypes = #[tb]) (hb : P.underlying tb = some .bool) (hW : DataW.Whole enc P f.params.toList s.vars false W args.toList ds gs before) (hB : Below W.heap.size W W') :
    s.post enc P f false true false false W args (.bool true) W' := by
  have hlt : ∀ p ∈ before, p.block < W.heap.size := fun p hp => hW.lt p hp
  have hW' := hW
  obtain ⟨p, q, hA, hV, rfl, hfz, hnd⟩ := hW
  rw [hv] at hV
  obtain ⟨rfl, rfl⟩ := trodVars_none hV
  have hs := hs rfl
  have hA' := trodAll_below hl hB hr hA (fun x hx => hlt x (List.mem_append_left _ hx))
  refine ⟨ds, [], p ++ [], [], p, [], hW', ?_, ?_, ?_, ?_, fun h => by cases h⟩
  · rw [hs, hrt]
    exact trodAll_mk1 (shut_bool hb true)
  · rw [hs]; exact hA'
  · rw [hs, hv]; rfl
  · exact World.keptBut_mono (fun x hx => ⟨hx, .inr (.inl (by simpa using hx))⟩) (hB.frame (· ∈ p ++ []))

/-- a slice of singles that came in -/
theorem open_f32s {w : World} {base : Nat} {t e : TypeId} {v : Value} {d : DataW H} {ps : List MemPlace} (ht : P.underlying t = some (.slice e)) (he : P.underlying e = some (.float .f32)) (hc : P.cellsOf e = 1)
    (hval : Value.okWide P w .any base t v) (h : DataW.Trod enc P w 0 (fun _ => true) true t v d ps) (hlt : ∀ x ∈ ps, x.block < w.heap.size) :
    ∃ (A : Option Addr) (c : Nat) (rs : List Nat), v = .slice A rs.length c ∧ Rd w A (rs.map fl) ∧ rs.length ≤ maxLen ∧ (∀ x ∈ rs, x < 2 ^ 32) := by
  obtain ⟨a0, len, cap, rfl⟩ := okWide_slice ht hval
  obtain ⟨fuel, hf⟩ := h
  have hf' : DataW.trod enc P w 0 (fun _ => true) true fuel t [.slice a0 len cap] = some (d, ps) := by simpa [Value.cells] using hf
  rcases Go.Deep.open_slice1 ht hc hf' with ⟨h1, h2⟩ | ⟨a, len', cap', m, n, V, D, Pl, h1, hb, hl, hm, hmm, hx, hi⟩
  · simp only [List.cons.injEq, Value.slice.injEq, and_true] at h1
    obtain ⟨rfl, rfl, rfl⟩ := h1
    exact ⟨none, 0, [], rfl, .inl rfl, by simp, by simp⟩
  · simp only [List.cons.injEq, Value.slice.injEq, and_true] at h1
    obtain ⟨rfl, rfl, rfl⟩ := h1
    simp only [if_true] at hmm
    subst hmm
    have hv : ∀ i, i < m → ∃ b, V i = .float .f32 b ∧ b < 2 ^ 32 := by
      intro i him
      obtain ⟨_, h2⟩ := hi i him
      cases n with
      | zero => simp [DataW.trod] at h2
      | succ n =>
        simp only [DataW.trod, he] at h2
        cases hV : V i <;> simp only [hV] at h2 <;> first | (cases h2; done) | skip
        rename_i k b
        cases k
        · refine ⟨b, rfl, ?_⟩
          by_cases hw : (Lit.float .f32 b).wf = true
          · simpa [Lit.wf] using hw
          · simp [hw] at h2
        · simp at h2
    let g : Nat → Nat := fun i => match V i with | .float _ b => b | _ => 0
    have hg : ∀ i, i < m → V i = .float .f32 (g i) ∧ g i < 2 ^ 32 := by
      intro i him
      obtain ⟨b, hb, hlt⟩ := hv i him
      have : g i = b := by simp only [g, hb]
      exact ⟨by rw [this]; exact hb, by rw [this]; exact hlt⟩
    refine ⟨some a, m, (List.range len).map g, by simp, ?_, by simp; omega, ?_⟩
    · by_cases h0 : len = 0
      · subst h0; exact .inl (by simp)
      · obtain ⟨ab, ao, as⟩ := a
        have hcell : ∀ i, i < len → w.cell? ((⟨ab, ao, as⟩ : Addr).add i) = some (.float .f32 (g i)) := fun i hil => by
          rw [(hi i (by omega)).1, (hg i (by omega)).1]
        have hs : as = none := by
          have h2 := hcell 0 (by omega)
          cases as with
          | none => rfl
          | some z =>
            simp only [Addr.add, if_true, World.cell?] at h2
            split at h2 <;> simp at h2
        subst hs
        have hab : ab < w.heap.size := by
          have h2 := hcell 0 (by omega)
          simp only [Addr.add, if_true] at h2
          rcases Nat.lt_or_ge ab w.heap.size with h | h
          · exact h
          · simp [World.cell?, Array.getElem?_eq_none h] at h2
        refine .inr ⟨ab, ao, rfl, hab, fun j u hu => ?_⟩
        simp only [List.map_map, List.getElem?_map, Option.map_eq_some_iff, List.getElem?_range] at hu
        obtain ⟨x, hx1, hx2⟩ := hu
        have hj : j < len := by
          rcases Nat.lt_or_ge j len with h | h
          · exact h
          · rw [List.getElem?_eq_none (by simpa using h)] at hx1; cases hx1
        rw [List.getElem?_range hj] at hx1
        cases hx1
        have h3 := hcell j hj
        have e : (⟨ab, ao, none⟩ : Addr).add j = ⟨ab, ao + j, none⟩ := by unfold Addr.add; split <;> simp_all
        rw [e] at h3
        rw [h3, ← hx2]; rfl
    · intro x hx
      obtain ⟨i, hi2, rfl⟩ := List.mem_map.1 hx
      exact (hg i (by have := List.mem_range.1 hi2; omega)).2
end
end Go.Fx
