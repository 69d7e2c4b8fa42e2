import Derived.Test.YtfmghfghhipmhaaDoorK1
namespace Go.Fx
open Ieee
set_option linter.unusedVariables false
set_option linter.unusedSimpArgs false
set_option exponentiation.threshold 2000
/-! the word of a double, rounded to a whole number -/
theorem dbl_bin : double.binade = 2 ^ 52 := by decide
theorem dbl_sign : double.signWeight = 2 ^ 63 := by decide
theorem dbl_inf : double.infRung = 2047 * 2 ^ 52 := by decide
theorem dbl_least : double.leastPlace = -1074 := by decide
theorem dbl_read (neg : Bool) {R : Nat} (h1 : 2 ^ 52 ≤ R) (h2 : R < 2047 * 2 ^ 52) : double.read (double.word neg R) = .number neg (2 ^ 52 + R % 2 ^ 52) (-1074 + (R / 2 ^ 52 - 1 : Nat)) := by
  rw [read_word double neg (by rw [dbl_sign]; omega), dbl_bin, dbl_inf, dbl_least, if_neg (by omega), if_pos h2]
theorem dbl_read0 (neg : Bool) {R : Nat} (h1 : R < 2 ^ 52) : double.read (double.word neg R) = .number neg R (-1074) := by
  rw [read_word double neg (by rw [dbl_sign]; omega), dbl_bin, dbl_least, if_pos h1]
/-- a word between 1 and 2 ^ 52 -/
theorem dbl_V (neg : Bool) {R : Nat} (h1 : 1023 * 2 ^ 52 ≤ R) (h2 : R < 1075 * 2 ^ 52) : IsV double (double.word neg R) (sg neg * ((2 ^ 52 + R % 2 ^ 52 : Nat) : Int)) (1075 - R / 2 ^ 52) := by
  refine ⟨neg, _, _, dbl_read neg (by omega) (by omega), by rw [dbl_least]; omega, ?_⟩
  rw [dbl_least]
  have e1 : (-1074 + ((R / 2 ^ 52 - 1 : Nat) : Int) - -1074).toNat = R / 2 ^ 52 - 1 := by omega
  have e2 : (-(-1074 : Int)).toNat = 1074 := rfl
  rw [e1, e2, Int.mul_assoc (sg neg * _), ← Int.natCast_mul, ← Nat.pow_add, show R / 2 ^ 52 - 1 + (1075 - R / 2 ^ 52) = 1074 by omega]
/-- rounded to a whole number, away from 0 at the half -/
theorem round_V (neg : Bool) {R s : Nat} (h1 : 1023 * 2 ^ 52 ≤ R) (h2 : R < 1075 * 2 ^ 52) (hs : s + 1 = 1075 - R / 2 ^ 52) : IsV double (double.word neg ((R + 2 ^ s) / 2 ^ (s + 1) * 2 ^ (s + 1))) (sg neg * (((2 ^ 52 + R % 2 ^ 52 + 2 ^ s) / 2 ^ (s + 1) : Nat) : Int)) 0 := by
  have hs51 : s ≤ 51 := by omega
  have hp := Nat.two_pow_pos s
  have hps : 2 ^ s ≤ 2 ^ 51 := Nat.pow_le_pow_right (by decide) hs51
  generalize hE : R / 2 ^ 52 = E at *
  generalize hF : R % 2 ^ 52 = F at *
  have hR : R = E * 2 ^ 52 + F := by have := Nat.div_add_mod R (2 ^ 52); rw [hE, hF] at this; omega
  have hF2 : F < 2 ^ 52 := by rw [← hF]; exact Nat.mod_lt _ (by decide)
  obtain ⟨t, ht⟩ : ∃ t, 52 = (s + 1) + t := ⟨52 - (s + 1), by omega⟩
  have h52 : (2 : Nat) ^ 52 = 2 ^ (s + 1) * 2 ^ t := by rw [← Nat.pow_add, ← ht]
  -- the quotient
  generalize hq : (F + 2 ^ s) / 2 ^ (s + 1) = q
  have hqle : q * 2 ^ (s + 1) ≤ F + 2 ^ s := by rw [← hq]; exact Nat.div_mul_le_self _ _
  have hql : q ≤ 2 ^ t := by
    have h3 : F + 2 ^ s < (2 ^ t + 1) * 2 ^ (s + 1) := by
      have : (2 ^ t + 1) * 2 ^ (s + 1) = 2 ^ 52 + 2 ^ (s + 1) := by rw [h52, Nat.add_mul, Nat.one_mul, Nat.mul_comm]
      have e : 2 ^ (s + 1) = 2 ^ s * 2 := Nat.pow_succ ..
      omega
    have : q < 2 ^ t + 1 := by rw [← hq]; exact Nat.div_lt_of_lt_mul (by rw [Nat.mul_comm]; exact h3)
    omega
  have eM : (2 ^ 52 + F + 2 ^ s) / 2 ^ (s + 1) = 2 ^ t + q := by
    rw [Nat.add_assoc, h52, Nat.mul_add_div (Nat.two_pow_pos _), hq]
  have eR : (R + 2 ^ s) / 2 ^ (s + 1) * 2 ^ (s + 1) = E * 2 ^ 52 + q * 2 ^ (s + 1) := by
    rw [hR, Nat.add_assoc, h52, ← Nat.mul_assoc, Nat.mul_comm E, Nat.mul_assoc, Nat.mul_add_div (Nat.two_pow_pos _), hq, Nat.add_mul]
    congr 1
    rw [Nat.mul_comm (E * 2 ^ t)]
  rw [eM, eR]
  by_cases hc : q = 2 ^ t
  · -- a carry
    subst hc
    have e1 : E * 2 ^ 52 + 2 ^ t * 2 ^ (s + 1) = (E + 1) * 2 ^ 52 := by rw [Nat.mul_comm (2 ^ t), ← h52]; omega
    rw [e1]
    refine ⟨neg, _, _, dbl_read neg (by omega) (by omega), by rw [dbl_least]; omega, ?_⟩
    rw [dbl_least, Nat.mul_mod_left, Nat.add_zero, Nat.mul_div_cancel _ (by decide : 0 < 2 ^ 52)]
    have e2 : (-1074 + ((E + 1 - 1 : Nat) : Int) - -1074).toNat = E := by omega
    have e3 : (-(-1074 : Int)).toNat = 1074 := rfl
    rw [e2, e3]
    have e4 : E + (s + 1) = 1075 := by omega
    have e5 : (2 : Nat) ^ 52 * 2 ^ E = (2 ^ t + 2 ^ t) * 2 ^ 1074 := by
      have : 2 ^ t + 2 ^ t = 2 ^ (t + 1) := by rw [Nat.pow_succ]; omega
      rw [this, ← Nat.pow_add, ← Nat.pow_add, show t + 1 + 1074 = 52 + E by omega]
    rw [Int.mul_assoc (sg neg), ← Int.natCast_mul, e5, Int.natCast_mul, Int.mul_assoc]
    rw [Nat.pow_zero]; simp [Int.mul_assoc]
  · have hqlt : q < 2 ^ t := by omega
    have hsm : q * 2 ^ (s + 1) < 2 ^ 52 := by rw [h52, Nat.mul_comm]; exact Nat.mul_lt_mul_of_pos_left hqlt (Nat.two_pow_pos _)
    have hdiv : (E * 2 ^ 52 + q * 2 ^ (s + 1)) / 2 ^ 52 = E := by omega
    have hmod : (E * 2 ^ 52 + q * 2 ^ (s + 1)) % 2 ^ 52 = q * 2 ^ (s + 1) := by omega
    refine ⟨neg, _, _, dbl_read neg (by omega) (by omega), by rw [dbl_least]; omega, ?_⟩
    rw [dbl_least, hdiv, hmod]
    have e2 : (-1074 + ((E - 1 : Nat) : Int) - -1074).toNat = E - 1 := by omega
    have e3 : (-(-1074 : Int)).toNat = 1074 := rfl
    rw [e2, e3]
    have e5 : (2 ^ 52 + q * 2 ^ (s + 1)) * 2 ^ (E - 1) = (2 ^ t + q) * 2 ^ 1074 := by
      have : 2 ^ 52 + q * 2 ^ (s + 1) = (2 ^ t + q) * 2 ^ (s + 1) := by rw [h52, Nat.add_mul, Nat.mul_comm (2 ^ t)]
      rw [this, Nat.mul_assoc, ← Nat.pow_add, show s + 1 + (E - 1) = 1074 by omega]
    rw [Int.mul_assoc (sg neg), ← Int.natCast_mul, e5, Int.natCast_mul, Int.mul_assoc]
    rw [Nat.pow_zero]; simp [Int.mul_assoc]
end Go.Fx
