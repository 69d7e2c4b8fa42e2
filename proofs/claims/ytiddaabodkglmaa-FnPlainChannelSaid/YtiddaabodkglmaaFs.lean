import Derived.Test.YtiddaabodkglmaaFb
namespace Go.Fx
open Ieee
set_option linter.unusedVariables false
set_option linter.unusedSimpArgs false

/-! signs: what is written of a number and of its opposite; sums and products do not depend on the order -/

theorem sum_comm (d e : Datum) : d.sum e = e.sum d := by
  cases d <;> cases e <;> simp only [Datum.sum]
  · rename_i s m i t n j
    rw [Int.min_comm j i, Int.add_comm (signed t n _), Bool.and_comm t s]
  · rename_i s t
    cases s <;> cases t <;> rfl
theorem product_comm (d e : Datum) : d.product e = e.product d := by
  cases d <;> cases e <;> simp only [Datum.product]
  · rename_i s m i t n j
    rw [Nat.mul_comm n m, Int.add_comm j i, Bool.xor_comm t s]
  · rename_i s t; rw [Bool.xor_comm]
theorem fop_add_comm (k : FloatKind) (x y : Nat) : fop .add k x y = fop .add k y x := by
  unfold fop floatBits; simp only [Format.add]; rw [sum_comm]
theorem fop_mulc (k : FloatKind) (x y : Nat) : fop .mul k x y = fop .mul k y x := by
  unfold fop floatBits; simp only [Format.mul]; rw [product_comm]
theorem product_opp (d e : Datum) : d.opposite.product e = (d.product e).map Datum.opposite := by
  cases d <;> cases e <;> simp only [Datum.product, Datum.opposite, Option.map]
  · rename_i s m i t n j; cases s <;> cases t <;> rfl
  · rename_i s m i t; split <;> first | rfl | (cases s <;> cases t <;> rfl)
  · rename_i s t n j; split <;> first | rfl | (cases s <;> cases t <;> rfl)
  · rename_i s t; cases s <;> cases t <;> rfl
theorem opp_opp (d : Datum) : d.opposite.opposite = d := by cases d <;> simp [Datum.opposite]
theorem product_opps (d e : Datum) : d.opposite.product e.opposite = d.product e := by
  rw [product_opp, product_comm, product_opp, product_comm, Option.map_map]
  have : Datum.opposite ∘ Datum.opposite = id := by funext x; exact opp_opp x
  rw [this, Option.map_id]; rfl
theorem fop_mul_opps (k : FloatKind) (x y : Nat) : fop .mul k (fneg k x) (fneg k y) = fop .mul k x y := by
  unfold fneg
  rw [fop_cn_l, fop_cn_r]
  unfold fop floatBits
  simp only [Format.mul]
  rw [read_neg, read_neg, product_opps]

theorem fk_word (k : FloatKind) {rung : Nat} (h : rung ≤ k.format.infRung) : ∃ u : Int, 0 ≤ u ∧ (u = 0 ↔ rung = 0) ∧ ∀ s, fk k (k.format.word s rung) = some (sg s * u) := by
  have hir := k.format.infRung_lt
  have hb : 0 < k.format.binade := Nat.two_pow_pos _
  have hlt : rung < k.format.signWeight := by omega
  by_cases h1 : rung < k.format.binade
  · refine ⟨rung, by omega, by omega, fun s => ?_⟩
    unfold fk
    rw [read_word _ _ hlt, if_pos h1]
    simp [dk, tp]
  · by_cases h2 : rung < k.format.infRung
    · refine ⟨(k.format.binade + rung % k.format.binade : Nat) * tp ((k.format.leastPlace + (rung / k.format.binade - 1 : Nat)) - k.format.leastPlace).toNat, ?_, ?_, fun s => ?_⟩
      · exact Int.mul_nonneg (by omega) (Int.le_of_lt (tp_pos _))
      · have : 0 < ((k.format.binade + rung % k.format.binade : Nat) : Int) * tp ((k.format.leastPlace + (rung / k.format.binade - 1 : Nat)) - k.format.leastPlace).toNat := Int.mul_pos (by omega) (tp_pos _)
        omega
      · unfold fk
        rw [read_word _ _ hlt, if_neg h1, if_pos h2]
        simp only [dk, Int.mul_assoc]
    · obtain rfl : rung = k.format.infRung := by omega
      have hbig : 0 < big k.format := tp_pos _
      refine ⟨big k.format, by omega, by omega, fun s => ?_⟩
      unfold fk
      rw [read_word _ _ hlt, if_neg h1, if_neg h2, if_pos rfl]
      rfl
/-- the rung that is written of a number -/
def rungOf (f : Format) (mag : Nat) (place : Int) : Nat :=
  if mag = 0 then 0 else
  let last := max (place + mag.log2 - f.fractionBits) f.leastPlace
  min ((last - f.leastPlace).toNat * f.binade + Toward.even.cut false (mag <<< (place - last).toNat) (last - place).toNat) f.infRung
theorem nearest_rung (f : Format) (s : Bool) (mag : Nat) (place : Int) : f.nearest s mag place = f.word s (rungOf f mag place) := by
  unfold Format.nearest rungOf
  by_cases h : mag = 0
  · rw [if_pos h, if_pos h]
  · rw [if_neg h, if_neg h]; rfl
theorem rungOf_le (f : Format) (mag : Nat) (place : Int) : rungOf f mag place ≤ f.infRung := by
  unfold rungOf
  split
  · omega
  · exact Nat.min_le_right ..
theorem rungOf_zero (f : Format) (place : Int) : rungOf f 0 place = 0 := by unfold rungOf; rw [if_pos rfl]
theorem rungOf_pos (f : Format) {mag : Nat} {place : Int} (hm : mag ≠ 0) (hp : f.leastPlace ≤ place) (hx : 1 ≤ f.exponentBits) : 0 < rungOf f mag place := by
  have hb : 0 < f.binade := Nat.two_pow_pos _
  have hi : 0 < f.infRung := by
    unfold Format.infRung
    have : 2 ^ 1 ≤ 2 ^ f.exponentBits := Nat.pow_le_pow_right (by omega) hx
    exact Nat.mul_pos (by omega) hb
  unfold rungOf
  rw [if_neg hm]
  simp only []
  generalize hl : max (place + (mag.log2 : Int) - f.fractionBits) f.leastPlace = last
  by_cases h : last = f.leastPlace
  · have hd : (last - place).toNat = 0 := by omega
    rw [hd, cut_exact _ _ _ 0 (by omega) (by simp)]
    have : 0 < mag <<< (place - last).toNat := by rw [Nat.shiftLeft_eq]; exact Nat.mul_pos (by omega) (Nat.two_pow_pos _)
    simp only [Nat.pow_zero, Nat.div_one]
    omega
  · have h2 : 1 ≤ (last - f.leastPlace).toNat := by omega
    have : 0 < (last - f.leastPlace).toNat * f.binade := Nat.mul_pos h2 hb
    omega
theorem exp_pos (k : FloatKind) : 1 ≤ k.format.exponentBits := by cases k <;> decide
/-- the amount that is written of a number; the sign is its own -/
theorem fk_number (k : FloatKind) (m : Nat) (p : Int) : ∃ u : Int, 0 ≤ u ∧ (m = 0 → u = 0) ∧ (k.format.leastPlace ≤ p → m ≠ 0 → 0 < u) ∧ ∀ s, fk k (k.format.write (.number s m p)) = some (sg s * u) := by
  obtain ⟨u, h1, h2, h3⟩ := fk_word k (rungOf_le k.format m p)
  refine ⟨u, h1, fun h => ?_, fun hp hm => ?_, fun s => ?_⟩
  · subst h; exact h2.2 (rungOf_zero _ _)
  · have := rungOf_pos k.format hm hp (exp_pos k)
    have h4 : u ≠ 0 := fun e => by have := h2.1 e; omega
    omega
  · show fk k (k.format.nearest s m p) = _
    rw [nearest_rung]; exact h3 s
theorem fk_inf (k : FloatKind) (s : Bool) : fk k (k.format.write (.infinity s)) = some (sg s * big k.format) := by
  show fk k (k.format.word s k.format.infRung) = _
  unfold fk
  have hir := k.format.infRung_lt
  have hb : k.format.binade ≤ k.format.infRung := by
    unfold Format.infRung
    have : 2 ^ 1 ≤ 2 ^ k.format.exponentBits := Nat.pow_le_pow_right (by omega) (exp_pos k)
    exact Nat.le_mul_of_pos_left _ (by omega)
  rw [read_word _ _ hir, if_neg (by omega), if_neg (by omega), if_pos rfl]
  rfl
theorem fk_write_opp (k : FloatKind) {d : Datum} (h : d.isNaN = false) : fk k (k.format.write d.opposite) = (fk k (k.format.write d)).map (- ·) := by
  cases d
  · rename_i s m p
    obtain ⟨u, -, -, -, hu⟩ := fk_number k m p
    show fk k (k.format.write (.number (!s) m p)) = _
    rw [hu, hu, sg_not]; simp [Int.neg_mul]
  · rename_i s
    show fk k (k.format.write (.infinity (!s))) = _
    rw [fk_inf, fk_inf, sg_not]; simp [Int.neg_mul]
  · cases h
theorem fk_qn (k : FloatKind) : fk k (qn k) = none := fk_none.2 (isN_qn k)
/-- a product with the opposite is the opposite -/
theorem fk_mul_neg (k : FloatKind) (x y : Nat) : fk k (fop .mul k (fneg k x) y) = (fk k (fop .mul k x y)).map (- ·) := by
  unfold fneg
  rw [fop_cn_l]
  unfold fop floatBits
  simp only [Format.mul]
  rw [read_neg, product_opp]
  cases h : (k.format.read x).product (k.format.read y)
  · simp [fk_qn]
  · simp only [Option.map_some, Option.getD_some]
    exact fk_write_opp k (product_not h)
theorem signed_opp (s : Bool) (m u : Nat) : signed (!s) m u = - signed s m u := by rw [signed_eq, signed_eq, sg_not]; simp [Int.neg_mul]
theorem fk_sum_of (k : FloatKind) (t : Int) (b : Int) (s s' : Bool) : fk k (k.format.write (.number (if -t = 0 then s' else decide (-t < 0)) (-t).natAbs b)) = (fk k (k.format.write (.number (if t = 0 then s else decide (t < 0)) t.natAbs b))).map (- ·) := by
  obtain ⟨u, h0, hz, -, hu⟩ := fk_number k t.natAbs b
  rw [Int.natAbs_neg, hu, hu]
  by_cases h : t = 0
  · have hu0 : u = 0 := hz (by omega)
    simp [hu0]
  · rw [if_neg h, if_neg (by omega)]
    by_cases h1 : t < 0
    · have h2 : ¬ (-t < 0) := by omega
      rw [decide_eq_true h1, decide_eq_false h2]; simp [sg]
    · have h2 : -t < 0 := by omega
      rw [decide_eq_false h1, decide_eq_true h2]; simp [sg]
/-- the sum of the opposites is the opposite (but for the sign of 0) -/
theorem fk_sum_opps (k : FloatKind) (d e : Datum) : fk k (((d.opposite.sum e.opposite).map k.format.write).getD (qn k)) = (fk k (((d.sum e).map k.format.write).getD (qn k))).map (- ·) := by
  cases d <;> cases e <;> simp only [Datum.sum, Datum.opposite, Option.map, Option.getD, fk_qn]
  · rename_i s m i t n j
    rw [signed_opp, signed_opp, ← Int.neg_add]
    exact fk_sum_of k _ _ _ _
  · rename_i s m i t; exact fk_write_opp k (d := .infinity t) rfl
  · rename_i s t n j; exact fk_write_opp k (d := .infinity s) rfl
  · rename_i s t
    cases s <;> cases t <;> simp [fk_qn, fk_inf, sg]
theorem fk_add_negs (k : FloatKind) (x y : Nat) : fk k (fop .add k (fneg k x) (fneg k y)) = (fk k (fop .add k x y)).map (- ·) := by
  unfold fneg
  rw [fop_cn_l, fop_cn_r]
  unfold fop floatBits
  simp only [Format.add]
  rw [read_neg, read_neg]
  exact fk_sum_opps k _ _
/-- a difference turned round is the opposite (but for the sign of 0) -/
theorem fk_sub_turn (k : FloatKind) (x y : Nat) : fk k (fop .sub k y x) = (fk k (fop .sub k x y)).map (- ·) := by
  unfold fop floatBits
  simp only [Format.sub]
  rw [← fk_sum_opps, opp_opp, sum_comm]
/-- a square is no less than 0 -/
theorem fk_square (k : FloatKind) {x : Nat} (h : isN k x = false) : ∃ s : Int, fk k (fop .mul k x x) = some s ∧ 0 ≤ s := by
  unfold isN at h
  unfold fop floatBits
  simp only [Format.mul]
  generalize k.format.read x = d at h
  cases d
  · rename_i s m p
    simp only [Datum.product, Bool.xor_self, Option.map_some, Option.getD_some]
    obtain ⟨u, h0, -, -, hu⟩ := fk_number k (m * m) (p + p)
    exact ⟨_, hu _, by simpa [sg] using h0⟩
  · rename_i s
    simp only [Datum.product, Bool.xor_self, Option.map_some, Option.getD_some]
    have : 0 < big k.format := tp_pos _
    exact ⟨_, fk_inf _ _, by simp [sg]; omega⟩
  · cases h
theorem sg_nonneg {s : Bool} {m : Nat} {j : Nat} (h : 0 ≤ sg s * (m : Int) * tp j) : m = 0 ∨ s = false := by
  cases s
  · exact .inr rfl
  · left
    have := tp_pos j
    by_cases hm : m = 0
    · exact hm
    · have h2 : 0 < (m : Int) * tp j := Int.mul_pos (by omega) this
      have h3 : sg true * (m : Int) * tp j = - ((m : Int) * tp j) := by simp [sg, Int.neg_mul]
      rw [h3] at h
      omega
/-- amounts add up to 0 only if both are 0 -/
theorem fk_add_nonneg (k : FloatKind) {x y : Nat} {a b : Int} (hx : fk k x = some a) (hy : fk k y = some b) (ha : 0 ≤ a) (hb : 0 ≤ b) : ∃ s : Int, fk k (fop .add k x y) = some s ∧ 0 ≤ s ∧ (s = 0 ↔ a = 0 ∧ b = 0) := by
  have px : ∀ s m p, k.format.read x = .number s m p → k.format.leastPlace ≤ p := fun s m p h => read_place _ h
  have py : ∀ s m p, k.format.read y = .number s m p → k.format.leastPlace ≤ p := fun s m p h => read_place _ h
  unfold fk at hx hy
  unfold fop floatBits
  simp only [Format.add]
  have hbig : 0 < big k.format := tp_pos _
  generalize k.format.read x = d at *
  generalize k.format.read y = e at *
  cases d <;> cases e <;> simp only [dk, Option.some.injEq, reduceCtorEq] at hx hy
  · rename_i s m i t n j
    have hi := px _ _ _ rfl
    have hj := py _ _ _ rfl
    subst hx hy
    simp only [Datum.sum, Option.map_some, Option.getD_some]
    have h1 := sg_nonneg ha
    have h2 := sg_nonneg hb
    have e1 : signed s m (i - min i j).toNat = (m : Int) * tp (i - min i j).toNat := by
      rw [signed_eq]; rcases h1 with rfl | rfl <;> simp [sg, tp]
    have e2 : signed t n (j - min i j).toNat = (n : Int) * tp (j - min i j).toNat := by
      rw [signed_eq]; rcases h2 with rfl | rfl <;> simp [sg, tp]
    rw [e1, e2]
    have q1 : 0 ≤ (m : Int) * tp (i - min i j).toNat := Int.mul_nonneg (by omega) (Int.le_of_lt (tp_pos _))
    have q2 : 0 ≤ (n : Int) * tp (j - min i j).toNat := Int.mul_nonneg (by omega) (Int.le_of_lt (tp_pos _))
    have z1 : (m : Int) * tp (i - min i j).toNat = 0 ↔ m = 0 := by
      constructor
      · intro h; rcases Int.mul_eq_zero.1 h with h | h
        · omega
        · exact absurd h (tp_ne _)
      · rintro rfl; simp
    have z2 : (n : Int) * tp (j - min i j).toNat = 0 ↔ n = 0 := by
      constructor
      · intro h; rcases Int.mul_eq_zero.1 h with h | h
        · omega
        · exact absurd h (tp_ne _)
      · rintro rfl; simp
    have w1 : sg s * (m : Int) * tp (i - k.format.leastPlace).toNat = 0 ↔ m = 0 := by
      constructor
      · intro h; rcases Int.mul_eq_zero.1 h with h | h
        · rcases Int.mul_eq_zero.1 h with h | h
          · cases s <;> simp [sg] at h
          · omega
        · exact absurd h (tp_ne _)
      · rintro rfl; simp
    have w2 : sg t * (n : Int) * tp (j - k.format.leastPlace).toNat = 0 ↔ n = 0 := by
      constructor
      · intro h; rcases Int.mul_eq_zero.1 h with h | h
        · rcases Int.mul_eq_zero.1 h with h | h
          · cases t <;> simp [sg] at h
          · omega
        · exact absurd h (tp_ne _)
      · rintro rfl; simp
    rw [w1, w2, ← z1, ← z2]
    generalize (m : Int) * tp (i - min i j).toNat = u at *
    generalize (n : Int) * tp (j - min i j).toNat = v at *
    obtain ⟨r, h0, hz, hp, hu⟩ := fk_number k (u + v).natAbs (min i j)
    refine ⟨_, hu _, ?_, ?_⟩
    · by_cases h : u + v = 0
      · have : r = 0 := hz (by omega)
        simp [this]
      · have h3 : ¬ (u + v < 0) := by omega
        simp [h, h3, sg]; exact h0
    · constructor
      · intro h
        by_cases h4 : u + v = 0
        · omega
        · have h3 : ¬ (u + v < 0) := by omega
          have := hp (by omega) (by omega)
          simp [h4, h3, sg] at h; omega
      · rintro ⟨rfl, rfl⟩
        have : r = 0 := hz (by simp)
        simp [this]
  · rename_i s m i t
    subst hx hy
    have : t = false := by cases t <;> first | rfl | (exfalso; simp [sg] at hb; omega)
    subst this
    exact ⟨_, fk_inf k _, by simp [sg]; omega, by simp [sg]; omega⟩
  · rename_i s t n j
    subst hx hy
    have : s = false := by cases s <;> first | rfl | (exfalso; simp [sg] at ha; omega)
    subst this
    exact ⟨_, fk_inf k _, by simp [sg]; omega, by simp [sg]; omega⟩
  · rename_i s t
    subst hx hy
    have h1 : s = false := by cases s <;> first | rfl | (exfalso; simp [sg] at ha; omega)
    have h2 : t = false := by cases t <;> first | rfl | (exfalso; simp [sg] at hb; omega)
    subst h1 h2
    exact ⟨_, fk_inf k _, by simp [sg]; omega, ⟨fun h => by simp [sg] at h; omega, fun h => by omega⟩⟩
end Go.Fx
