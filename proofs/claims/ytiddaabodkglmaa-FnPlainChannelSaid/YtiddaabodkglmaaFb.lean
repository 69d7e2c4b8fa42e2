import Derived.Test.YtiddaabodkglmaaFn
import Derived.Test.YtiddaabodkglmaaMo
namespace Go.Fx
open Ieee
set_option linter.unusedVariables false

theorem nearest_bd (f : Format) (neg : Bool) (mag : Nat) (place : Int) (E : Int) (h : mag ≠ 0 → place + mag.log2 < E) (hE0 : f.leastPlace + f.fractionBits < E)
    (hE1 : E + 3 < f.leastPlace + f.fractionBits + 2 ^ f.exponentBits) (hE : (3 : Int) < 2 ^ f.exponentBits) :
    ∃ m p, f.read (f.nearest neg mag place) = .number neg m p ∧ f.leastPlace ≤ p ∧ (m ≠ 0 → p + m.log2 ≤ E) := by
  have hsw : 0 < f.signWeight := Nat.two_pow_pos _
  have hbin : 0 < f.binade := Nat.two_pow_pos _
  have hir := f.infRung_lt
  have hpe : ((2 ^ f.exponentBits : Nat) : Int) = 2 ^ f.exponentBits := by simp
  have hlogb : ∀ m, m < f.binade → m ≠ 0 → (m.log2 : Int) < f.fractionBits := fun m hm h0 => by
    have := log2_lt_of h0 (show m < 2 ^ f.fractionBits from hm); omega
  have key : ∀ rung, rung < f.infRung → (rung / f.binade : Int) + f.leastPlace - 1 + f.fractionBits ≤ E →
      ∃ m p, f.read (f.word neg rung) = .number neg m p ∧ f.leastPlace ≤ p ∧ (m ≠ 0 → p + m.log2 ≤ E) := by
    intro rung hr hq
    rw [read_word f neg (by omega)]
    by_cases hb : rung < f.binade
    · rw [if_pos hb]
      exact ⟨_, _, rfl, Int.le_refl _, fun h0 => by have := hlogb rung hb h0; omega⟩
    · rw [if_neg hb, if_pos hr]
      refine ⟨_, _, rfl, by omega, fun h0 => ?_⟩
      have h1 : f.binade + rung % f.binade < 2 ^ (f.fractionBits + 1) := by
        have := Nat.mod_lt rung hbin
        rw [Nat.pow_succ]; unfold Format.binade at *; omega
      have h2 := log2_lt_of h0 h1
      have h3 : 1 ≤ rung / f.binade := (Nat.one_le_div_iff hbin).2 (by omega)
      have h4 : ((rung / f.binade : Nat) : Int) = (rung : Int) / (f.binade : Int) := by simp
      omega
  unfold Format.nearest
  by_cases h0 : mag = 0
  · rw [if_pos h0]
    refine key 0 ?_ (by simp; omega)
    unfold Format.infRung
    exact Nat.mul_pos (by omega) hbin
  · rw [if_neg h0]
    have h := h h0
    simp only []
    generalize hlast : max (place + (mag.log2 : Int) - f.fractionBits) f.leastPlace = last
    have hkept : Toward.even.cut neg (mag <<< (place - last).toNat) (last - place).toNat ≤ 2 ^ (f.fractionBits + 1) := by
      refine Nat.le_trans (cut_le _ _ _ _) ?_
      rw [Nat.shiftLeft_eq]
      generalize hn : mag * 2 ^ (place - last).toNat = n
      have hn0 : n ≠ 0 := by rw [← hn]; exact Nat.mul_ne_zero h0 (by have := Nat.two_pow_pos (place - last).toNat; omega)
      have hnl : n.log2 = mag.log2 + (place - last).toNat := by rw [← hn]; exact log2_mul_pow h0 _
      have hlt := lt_pow_log2 n
      have hq : n / 2 ^ (min (last - place).toNat (n.log2 + 2)) < 2 ^ (f.fractionBits + 1) := by
        rw [Nat.div_lt_iff_lt_mul (Nat.two_pow_pos _), ← Nat.pow_add]
        refine Nat.lt_of_lt_of_le hlt (Nat.pow_le_pow_right (by omega) ?_)
        omega
      omega
    generalize Toward.even.cut neg (mag <<< (place - last).toNat) (last - place).toNat = kept at *
    have h2 : (last - f.leastPlace).toNat + 2 < 2 ^ f.exponentBits - 1 := by omega
    have h3 : ((last - f.leastPlace).toNat + 2) * f.binade < (2 ^ f.exponentBits - 1) * f.binade := Nat.mul_lt_mul_of_pos_right h2 hbin
    have h4 : ((last - f.leastPlace).toNat + 2) * f.binade = (last - f.leastPlace).toNat * f.binade + 2 ^ (f.fractionBits + 1) := by
      rw [Nat.add_mul, Nat.pow_succ]; unfold Format.binade; omega
    have hlt : (last - f.leastPlace).toNat * f.binade + kept < f.infRung := by unfold Format.infRung; omega
    rw [Nat.min_eq_left (Nat.le_of_lt hlt)]
    refine key _ hlt ?_
    have h5 : ((last - f.leastPlace).toNat * f.binade + kept) / f.binade ≤ (last - f.leastPlace).toNat + 2 := by
      refine Nat.div_le_of_le_mul ?_
      rw [Nat.mul_comm f.binade]
      omega
    have h6 : (((last - f.leastPlace).toNat * f.binade + kept : Nat) : Int) / (f.binade : Int) = ((((last - f.leastPlace).toNat * f.binade + kept) / f.binade : Nat) : Int) := by simp
    rw [h6]
    omega

/-- a number whose amount, in least places, is below 2 ^ N -/
def Bd (k : FloatKind) (N : Nat) (b : Nat) : Prop := ∃ a, fk k b = some a ∧ a.natAbs < 2 ^ N
theorem Bd.mono {k : FloatKind} {N M b : Nat} (h : Bd k N b) (hM : N ≤ M) : Bd k M b := by
  obtain ⟨a, h1, h2⟩ := h
  exact ⟨a, h1, Nat.lt_of_lt_of_le h2 (Nat.pow_le_pow_right (by omega) hM)⟩
theorem Bd.not {k : FloatKind} {N b : Nat} (h : Bd k N b) : isN k b = false := by
  obtain ⟨a, h1, _⟩ := h
  cases hb : isN k b
  · rfl
  · rw [fk_none.2 hb] at h1; cases h1
theorem bd_cn {k : FloatKind} {N b : Nat} : Bd k N (cn k b) ↔ Bd k N b := by unfold Bd; rw [fk_cn]
theorem Bd.number {k : FloatKind} {N b : Nat} (h : Bd k N b) (hN : N ≤ k.format.fractionBits + 1 + 2 ^ k.format.exponentBits) :
    ∃ s m p, k.format.read b = .number s m p ∧ k.format.leastPlace ≤ p ∧ m * 2 ^ (p - k.format.leastPlace).toNat < 2 ^ N := by
  obtain ⟨a, h1, h2⟩ := h
  unfold fk at h1
  cases hr : k.format.read b with
  | nan s m => rw [hr] at h1; cases h1
  | infinity s =>
    rw [hr] at h1
    simp only [dk, Option.some.injEq] at h1
    have : a.natAbs = 2 ^ (k.format.fractionBits + 1 + 2 ^ k.format.exponentBits) := by
      rw [← h1, sg_natAbs]; unfold big tp; rfl
    have h3 := Nat.pow_le_pow_right (show 0 < 2 by omega) hN
    omega
  | number s m p =>
    rw [hr] at h1
    simp only [dk, Option.some.injEq] at h1
    refine ⟨s, m, p, rfl, read_place _ hr, ?_⟩
    rw [← h1, Int.mul_assoc, sg_natAbs, Int.natAbs_mul] at h2
    simpa using h2
theorem bd_number {k : FloatKind} {N b m : Nat} {s : Bool} {p : Int} (hr : k.format.read b = .number s m p) (hm : m ≠ 0 → p + m.log2 < N + k.format.leastPlace) : Bd k N b := by
  refine ⟨_, by unfold fk; rw [hr]; rfl, ?_⟩
  rw [Int.mul_assoc, sg_natAbs, Int.natAbs_mul]
  have hp := read_place _ hr
  simp only [Int.natAbs_natCast]
  by_cases h0 : m = 0
  · subst h0; simp [Nat.two_pow_pos]
  · have h1 := hm h0
    have h2 := lt_pow_log2 m
    have h3 : m * 2 ^ (p - k.format.leastPlace).toNat < 2 ^ (m.log2 + 1) * 2 ^ (p - k.format.leastPlace).toNat := Nat.mul_lt_mul_of_pos_right h2 (Nat.two_pow_pos _)
    rw [← Nat.pow_add] at h3
    exact Nat.lt_of_lt_of_le h3 (Nat.pow_le_pow_right (by omega) (by omega))
theorem bd_add {k : FloatKind} {N x y : Nat} (hx : Bd k N x) (hy : Bd k N y) (hN0 : k.format.fractionBits < N) (hN1 : N + 4 < k.format.fractionBits + 2 ^ k.format.exponentBits) : Bd k (N + 2) (fop .add k x y) := by
  obtain ⟨s, m, i, hr, hi, hm⟩ := hx.number (by omega)
  obtain ⟨t, n, j, hr', hj, hn⟩ := hy.number (by omega)
  have hpe : ((2 ^ k.format.exponentBits : Nat) : Int) = 2 ^ k.format.exponentBits := by simp
  let base := min i j
  let total := signed s m (i - base).toNat + signed t n (j - base).toNat
  have hsum : k.format.add x y = some (k.format.nearest (if total = 0 then s && t else total < 0) total.natAbs base) := by
    unfold Format.add; rw [hr, hr']; rfl
  have htot : total.natAbs * 2 ^ (base - k.format.leastPlace).toNat < 2 ^ (N + 1) := by
    have e1 : (i - base).toNat + (base - k.format.leastPlace).toNat = (i - k.format.leastPlace).toNat := by omega
    have e2 : (j - base).toNat + (base - k.format.leastPlace).toNat = (j - k.format.leastPlace).toNat := by omega
    have h1 : total.natAbs ≤ m * 2 ^ (i - base).toNat + n * 2 ^ (j - base).toNat := by
      refine Nat.le_trans (Int.natAbs_add_le _ _) ?_
      rw [signed_eq, signed_eq, Int.mul_assoc, Int.mul_assoc, sg_natAbs, sg_natAbs, Int.natAbs_mul, Int.natAbs_mul]
      simp
    have h2 : total.natAbs * 2 ^ (base - k.format.leastPlace).toNat ≤ m * 2 ^ (i - k.format.leastPlace).toNat + n * 2 ^ (j - k.format.leastPlace).toNat := by
      refine Nat.le_trans (Nat.mul_le_mul_right _ h1) ?_
      rw [Nat.add_mul, Nat.mul_assoc, Nat.mul_assoc, ← Nat.pow_add, ← Nat.pow_add, e1, e2]
      exact Nat.le_refl _
    rw [Nat.pow_succ]; omega
  have hE3 : (3 : Int) < 2 ^ k.format.exponentBits := by cases k <;> decide
  obtain ⟨m', p', hr2, hp2, hm2⟩ := nearest_bd k.format (if total = 0 then s && t else total < 0) total.natAbs base (N + 1 + k.format.leastPlace)
    (fun h0 => by
      have h3 := pow_log2_le h0
      have h4 : 2 ^ (total.natAbs.log2 + (base - k.format.leastPlace).toNat) < 2 ^ (N + 1) := by
        rw [Nat.pow_add]
        exact Nat.lt_of_le_of_lt (Nat.mul_le_mul_right _ h3) htot
      have h5 := (Nat.pow_lt_pow_iff_right (show 1 < 2 by omega)).1 h4
      omega) (by omega) (by omega) hE3
  unfold fop floatBits
  simp only [hsum]
  exact bd_number hr2 (fun h0 => by have := hm2 h0; omega)
theorem bd_within {x c : Nat} {C : Int} {N : Nat} (hc : fk .f32 c = some C) (h : within32 x c = true) (hC : C.natAbs < 2 ^ N) (h0 : 0 ≤ C) : Bd .f32 N x := by
  unfold within32 at h
  simp only [Bool.and_eq_true] at h
  obtain ⟨h1, h2⟩ := h
  have hneg : fk .f32 (Op.negFloat .f32 c) = some (-C) := by rw [fk_neg, hc]; rfl
  cases hx : fk .f32 x with
  | none => rw [(cmp_nan (.inl hx)).2.2.1] at h2; cases h2
  | some a =>
    rw [fge_fk hx hneg] at h1
    rw [fle_fk hx hc] at h2
    simp only [decide_eq_true_eq] at h1 h2
    exact ⟨a, hx, by omega⟩
/-- the quotient of numbers is no NaN, unless by 0 -/
theorem not_quo {k : FloatKind} {N x y : Nat} (hx : Bd k N x) (hN : N ≤ k.format.fractionBits + 1 + 2 ^ k.format.exponentBits) {t : Bool} {n : Nat} {j : Int} (hy : k.format.read y = .number t n j) (hn : n ≠ 0) : isN k (fop .quo k x y) = false := by
  obtain ⟨s, m, i, hr, hi, hm⟩ := hx.number hN
  have : ∃ r, floatBits .quo k x y = some r := by
    unfold floatBits
    simp only
    unfold Format.div
    rw [hr, hy]
    unfold Datum.quotient
    simp [hn]
  obtain ⟨r, hr⟩ := this
  unfold fop
  rw [hr]
  exact floatBits_not hr

/-- the sum of the first ones, from the first one on -/
def sumN (rs : List Nat) : Nat → Nat
  | 0 => cn .f32 (rs.getD 0 0)
  | k + 1 => add32 (sumN rs k) (cn .f32 (rs.getD (k + 1) 0))
abbrev sumAll (rs : List Nat) : Nat := sumN rs (rs.length - 1)
theorem fine_at {rs : List Nat} (h : fine rs = true) {k : Nat} (hk : k < rs.length) : Bd .f32 160 (cn .f32 (rs.getD k 0)) := by
  have : within32 rs[k] 1149239296 = true := by
    unfold fine at h
    rw [List.all_eq_true] at h
    exact h _ (List.getElem_mem hk)
  rw [bd_cn, List.getD_eq_getElem?_getD, List.getElem?_eq_getElem hk]
  exact bd_within (C := 1024 * 2 ^ 149) (by decide +kernel) this (by decide) (by decide)
theorem sumN_bd {rs : List Nat} (h : fine rs = true) : ∀ (k : Nat), k < rs.length → k ≤ 40 → Bd .f32 (160 + 2 * k) (sumN rs k)
  | 0, hk, _ => fine_at h hk
  | k + 1, hk, h40 => by
    have h1 := sumN_bd h k (by omega) (by omega)
    have h2 := (fine_at h hk).mono (M := 160 + 2 * k) (by omega)
    have e1 : 23 < 160 + 2 * k := by omega
    have e2 : 160 + 2 * k + 4 < 23 + 2 ^ 8 := by omega
    exact bd_add h1 h2 e1 e2
theorem fine_cut {rs : List Nat} (h : fine rs = true) (i n : Nat) : fine ((rs.drop i).take n) = true := by
  unfold fine at *
  rw [List.all_eq_true] at *
  intro x hx
  exact h x (List.mem_of_mem_drop (List.mem_of_mem_take hx))
theorem le_of_not_gt {k : FloatKind} {x y : Nat} (hx : isN k x = false) (hy : isN k y = false) : fle k x y = !fgt k x y := by
  cases h1 : fk k x with
  | none => rw [fk_none.1 h1] at hx; cases hx
  | some a =>
    cases h2 : fk k y with
    | none => rw [fk_none.1 h2] at hy; cases hy
    | some b =>
      rw [fle_fk h1 h2, fgt_fk h1 h2]
      by_cases h : a ≤ b
      · simp [h, Int.not_lt.2 h]
      · simp [h, Int.not_le.1 h]
/-- the level of the pulse, and of the burst -/
def lvPulse (rs : List Nat) : Nat := quo32 (sumAll ((rs.drop 0).take 8)) 1090519040
def lvBlack (rs : List Nat) : Nat := quo32 (sumAll ((rs.drop 8).take 16)) 1098907648
def levelsOk (rs : List Nat) : Bool := lineOk rs && fgt .f32 (lvBlack rs) (lvPulse rs)
theorem lv_not {rs : List Nat} (h : lineOk rs = true) : isN .f32 (lvPulse rs) = false ∧ isN .f32 (lvBlack rs) = false := by
  simp only [lineOk, Bool.and_eq_true, decide_eq_true_eq] at h
  obtain ⟨⟨⟨h1, h2⟩, h3⟩, h4⟩ := h
  have l1 : ((rs.drop 0).take 8).length = 8 := by simp; omega
  have l2 : ((rs.drop 8).take 16).length = 16 := by simp; omega
  constructor
  · refine not_quo (t := false) (n := 2 ^ 23) (j := -20) (sumN_bd (fine_cut h4 0 8) _ (by omega) (by omega)) (by rw [l1]; decide) (by decide +kernel) (by decide)
  · refine not_quo (t := false) (n := 2 ^ 23) (j := -19) (sumN_bd (fine_cut h4 8 16) _ (by omega) (by omega)) (by rw [l2]; decide) (by decide +kernel) (by decide)
end Go.Fx
