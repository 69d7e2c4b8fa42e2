import Derived.Test.YtiddaabodkglmaaFw
namespace Go.Fx
open Ieee

theorem cut_le (way : Toward) (neg : Bool) (n drop : Nat) : way.cut neg n drop ≤ n / 2 ^ (min drop (n.log2 + 2)) + 1 := by
  unfold Toward.cut
  simp only [Nat.shiftLeft_eq, Nat.one_mul]
  have h : ∀ b : Bool, b.toNat ≤ 1 := fun b => by cases b <;> simp
  exact Nat.add_le_add_left (h _) _

/-- what is written of a number that is not too great is no infinity -/
theorem nearest_finite (f : Format) (neg : Bool) (mag : Nat) (place : Int) (h : mag ≠ 0 → place + mag.log2 + 4 < f.leastPlace + f.fractionBits + 2 ^ f.exponentBits) (hE : (3 : Int) < 2 ^ f.exponentBits) :
    (f.read (f.nearest neg mag place)).isInfinity = false := by
  have hsw : 0 < f.signWeight := Nat.two_pow_pos _
  have hbin : 0 < f.binade := Nat.two_pow_pos _
  have hir := f.infRung_lt
  have key : ∀ rung, rung < f.infRung → (f.read (f.word neg rung)).isInfinity = false := by
    intro rung hr
    rw [read_word f neg (by omega)]
    by_cases hb : rung < f.binade
    · rw [if_pos hb]; rfl
    · rw [if_neg hb, if_pos hr]; rfl
  have hpe : ((2 ^ f.exponentBits : Nat) : Int) = 2 ^ f.exponentBits := by simp
  unfold Format.nearest
  by_cases h0 : mag = 0
  · rw [if_pos h0]
    refine key 0 ?_
    unfold Format.infRung
    exact Nat.mul_pos (by omega) hbin
  · rw [if_neg h0]
    have h := h h0
    simp only []
    generalize hlast : max (place + (mag.log2 : Int) - f.fractionBits) f.leastPlace = last
    -- what is kept has at most fractionBits + 1 digits, but for the one that is carried
    have hkept : Toward.even.cut neg (mag <<< (place - last).toNat) (last - place).toNat ≤ 2 ^ (f.fractionBits + 1) := by
      refine Nat.le_trans (cut_le _ _ _ _) ?_
      rw [Nat.shiftLeft_eq]
      generalize hn : mag * 2 ^ (place - last).toNat = n
      have hn0 : n ≠ 0 := by rw [← hn]; exact Nat.mul_ne_zero h0 (by have := Nat.two_pow_pos (place - last).toNat; omega)
      have hnl : n.log2 = mag.log2 + (place - last).toNat := by rw [← hn]; exact log2_mul_pow h0 _
      have hlt := lt_pow_log2 n
      have hq : n / 2 ^ (min (last - place).toNat (n.log2 + 2)) < 2 ^ (f.fractionBits + 1) := by
        rw [Nat.div_lt_iff_lt_mul (Nat.two_pow_pos _), ← Nat.pow_add]
        refine Nat.lt_of_lt_of_le hlt (Nat.pow_le_pow_right (by omega) ?_)
        omega
      omega
    refine key _ ?_
    have h2 : (last - f.leastPlace).toNat + 2 < 2 ^ f.exponentBits - 1 := by omega
    have h3 : ((last - f.leastPlace).toNat + 2) * f.binade < (2 ^ f.exponentBits - 1) * f.binade := Nat.mul_lt_mul_of_pos_right h2 hbin
    have h4 : ((last - f.leastPlace).toNat + 2) * f.binade = (last - f.leastPlace).toNat * f.binade + 2 ^ (f.fractionBits + 1) := by
      rw [Nat.add_mul, Nat.pow_succ]; unfold Format.binade; omega
    unfold Format.infRung at *
    exact Nat.lt_of_le_of_lt (Nat.min_le_left ..) (by omega)

end Go.Fx
