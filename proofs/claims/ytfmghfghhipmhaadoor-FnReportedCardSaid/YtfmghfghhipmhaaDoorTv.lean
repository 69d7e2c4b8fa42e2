import Derived.Test.YtfmghfghhipmhaaDoorSh
import Derived.Test.YtfmghfghhipmhaaDoorTa
import Derived.Laws.Externs
import Derived.Laws.Bits64b
namespace Go.Fx
open Ieee
set_option linter.unusedVariables false
set_option linter.unusedSimpArgs false
set_option exponentiation.threshold 2000
/-- a double's word, rounded to a whole number -/
def rndW (neg : Bool) (R : Nat) : Nat :=
  if R < 1022 * 2 ^ 52 then double.word neg 0 else if R < 1023 * 2 ^ 52 then double.word neg (1023 * 2 ^ 52)
  else double.word neg ((R + 2 ^ (1074 - R / 2 ^ 52)) / 2 ^ (1074 - R / 2 ^ 52 + 1) * 2 ^ (1074 - R / 2 ^ 52 + 1))
theorem andNot_low (x k : Nat) (hk : k ≤ 64) (hx : x < 2 ^ 64) : bits .andNot .u64 (x : Int) ((2 ^ k - 1 : Nat) : Int) = ((x / 2 ^ k * 2 ^ k : Nat) : Int) := by
  have hle : x / 2 ^ k * 2 ^ k ≤ x := Nat.div_mul_le_self _ _
  have hm : 2 ^ k - 1 < 2 ^ 64 := by
    have h1 : 2 ^ k ≤ 2 ^ 64 := Nat.pow_le_pow_right (by decide) hk
    have := Nat.two_pow_pos k
    omega
  have h1 : (BitVec.ofInt 64 (x : Int)).toNat = x := by
    rw [BitVec.ofInt_natCast, BitVec.toNat_ofNat]; exact Nat.mod_eq_of_lt hx
  have h2 : (BitVec.ofInt 64 ((2 ^ k - 1 : Nat) : Int)).toNat = 2 ^ k - 1 := by
    rw [BitVec.ofInt_natCast, BitVec.toNat_ofNat]; exact Nat.mod_eq_of_lt hm
  have h3 : (BitVec.ofInt 64 (x : Int) &&& ~~~ BitVec.ofInt 64 ((2 ^ k - 1 : Nat) : Int)).toNat = x / 2 ^ k * 2 ^ k := by
    apply Nat.eq_of_testBit_eq
    intro i
    rw [Nat.testBit_mul_two_pow, Nat.testBit_div_two_pow, BitVec.testBit_toNat, BitVec.getLsbD_and, BitVec.getLsbD_not]
    rw [← BitVec.testBit_toNat, ← BitVec.testBit_toNat, h1, h2, Nat.testBit_two_pow_sub_one]
    by_cases hi : k ≤ i
    · have e : k + (i - k) = i := by omega
      have e2 : i - k + k = i := by omega
      by_cases h64 : i < 64
      · simp [hi, h64, e, e2, Nat.not_lt.2 hi]
      · have hz : x.testBit i = false := Nat.testBit_lt_two_pow (Nat.lt_of_lt_of_le hx (Nat.pow_le_pow_right (by decide) (by omega)))
        simp [hi, h64, e, e2, hz]
    · have : i < k := by omega
      simp [hi, this]
  show IntKind.u64.wrap ((BitVec.ofInt 64 (x : Int) &&& ~~~ BitVec.ofInt 64 ((2 ^ k - 1 : Nat) : Int)).toNat : Int) = _
  rw [h3, IntKind.wrap_u64]
  have p64 : (2 : Nat) ^ 64 = 18446744073709551616 := by decide
  omega
theorem word_eq (neg : Bool) (R : Nat) : double.word neg R = neg.toNat * 9223372036854775808 + R := by
  unfold Format.word
  rw [dbl_sign]
  cases neg <;> simp
theorem word_exp {neg : Bool} {R : Nat} (hR : R < 9223372036854775808) : bits .and .u64 ((double.word neg R : Nat) / 4503599627370496 : Int) 2047 = ((R / 4503599627370496 : Nat) : Int) := by
  rw [word_eq]
  have e : (((neg.toNat * 9223372036854775808 + R : Nat) : Int) / 4503599627370496) = (((neg.toNat * 9223372036854775808 + R) / 4503599627370496 : Nat) : Int) := by omega
  have hn : neg.toNat ≤ 1 := by cases neg <;> simp
  rw [e, show (2047 : Int) = ((2047 : Nat) : Int) from rfl, bits_and_u64_nat _ _ (by omega) (by omega), show (2047 : Nat) = 2 ^ 11 - 1 from rfl, Nat.and_two_pow_sub_one_eq_mod]
  have : (2 : Nat) ^ 11 = 2048 := by decide
  rw [this]
  omega
theorem word_sgn {neg : Bool} {R : Nat} (hR : R < 9223372036854775808) : bits .and .u64 ((double.word neg R : Nat) : Int) 9223372036854775808 = ((double.word neg 0 : Nat) : Int) := by
  rw [word_eq, word_eq]
  have hn : neg.toNat ≤ 1 := by cases neg <;> simp
  rw [show (9223372036854775808 : Int) = ((9223372036854775808 : Nat) : Int) from rfl, bits_and_u64_nat _ _ (by omega) (by omega), show (9223372036854775808 : Nat) = 2 ^ 63 by decide]
  have p : (2 : Nat) ^ 63 = 9223372036854775808 := by decide
  have ht : (neg.toNat * 2 ^ 63 + R).testBit 63 = neg := by
    rw [Nat.testBit_eq_decide_div_mod_eq, p]
    cases neg
    · simp; omega
    · simp; omega
  congr 1
  apply Nat.eq_of_testBit_eq
  intro i
  rw [Nat.testBit_and, Nat.testBit_two_pow, Nat.add_zero]
  by_cases hi : 63 = i
  · subst hi
    rw [ht]
    cases neg
    · simp
    · rw [show true.toNat * 2 ^ 63 = 2 ^ 63 by decide, Nat.testBit_two_pow]; rfl
  · rw [decide_eq_false hi, Bool.and_false]
    cases neg
    · simp
    · rw [show true.toNat * 2 ^ 63 = 2 ^ 63 by decide, Nat.testBit_two_pow, decide_eq_false hi]
theorem sh_half {j : Nat} (hj : j ≤ 51) : (2251799813685248 : Int) / 2 ^ j = ((2 ^ (51 - j) : Nat) : Int) := by
  have h : 2251799813685248 / 2 ^ j = 2 ^ (51 - j) := by
    rw [show (2251799813685248 : Nat) = 2 ^ 51 by decide, Nat.pow_div hj (by decide)]
  rw [← h]; simp
theorem sh_mask {j : Nat} (hj : j ≤ 51) : (4503599627370495 : Int) / 2 ^ j = ((2 ^ (52 - j) - 1 : Nat) : Int) := by
  have h : 4503599627370495 / 2 ^ j = 2 ^ (52 - j) - 1 := by
    have e : 2 ^ (52 - j) * 2 ^ j = 4503599627370496 := by rw [← Nat.pow_add, show 52 - j + j = 52 by omega]
    have p1 := Nat.two_pow_pos (52 - j)
    have p2 := Nat.two_pow_pos j
    refine Nat.div_eq_of_lt_le ?_ ?_
    · rw [Nat.sub_mul, e, Nat.one_mul]; omega
    · have e3 : 2 ^ (52 - j) - 1 + 1 = 2 ^ (52 - j) := by omega
      rw [e3, e]; omega
  rw [← h]; simp
theorem word_cut (neg : Bool) {R s : Nat} (hs : s ≤ 51) : (double.word neg R + 2 ^ s) / 2 ^ (s + 1) * 2 ^ (s + 1) = double.word neg ((R + 2 ^ s) / 2 ^ (s + 1) * 2 ^ (s + 1)) := by
  rw [word_eq, word_eq]
  have e : neg.toNat * 9223372036854775808 = neg.toNat * 2 ^ (62 - s) * 2 ^ (s + 1) := by
    rw [Nat.mul_assoc, ← Nat.pow_add, show 62 - s + (s + 1) = 63 by omega]
  rw [e, Nat.add_assoc, Nat.add_comm (neg.toNat * 2 ^ (62 - s) * 2 ^ (s + 1)), Nat.add_mul_div_right _ _ (Nat.two_pow_pos _), Nat.add_mul, Nat.add_comm]
theorem word_one (neg : Bool) : bits .or .u64 ((double.word neg 0 : Nat) : Int) 4607182418800017408 = ((double.word neg (1023 * 2 ^ 52) : Nat) : Int) := by
  cases neg <;> decide +kernel
end Go.Fx
namespace Go.Proofs.YtfmghfghhipmhaaDoor
open Go.RowKit Go.Fx Go.Sort Ieee
set_option linter.unusedVariables false
set_option linter.unusedSimpArgs false
theorem f64bits_run (b : Nat) (W : World) : (callFunc 92 #[.float .f64 b]).run Tryd.prog W = .ok (.value (.int .u64 b)) W := by
  rw [run_callFunc_extern Tryd.func92 (by kernel_rfl) (by kernel_rfl) (by kernel_rfl) (e := Extern.MathFloatBits.float64bits) (by kernel_rfl)]; rfl
theorem f64from_run (n : Nat) (W : World) : (callFunc 93 #[.int .u64 n]).run Tryd.prog W = .ok (.value (.float .f64 n)) W := by
  rw [run_callFunc_extern Tryd.func93 (by kernel_rfl) (by kernel_rfl) (by kernel_rfl) (e := Extern.MathFloatBits.float64frombits) (by kernel_rfl)]; rfl
set_option maxRecDepth 100000 in
set_option maxHeartbeats 2000000 in
theorem round_any (neg : Bool) (R : Nat) (hR : R < 1075 * 2 ^ 52) (w : World) :
    Calls Tryd.prog 70 #[.float .f64 (double.word neg R)] w fun e w' => e = .returned (.float .f64 (rndW neg R)) ∧ w' = w := by
  have h1 := fun b W => f64bits_run b W
  have h2 := fun b W => f64from_run b W
  have p52 : (2 : Nat) ^ 52 = 4503599627370496 := by decide
  have hE := word_exp (neg := neg) (R := R) (by omega)
  have hZ := word_sgn (neg := neg) (R := R) (by omega)
  have hO := word_one neg
  by_cases hc1 : R < 1022 * 2 ^ 52
  · have hres : Hid (rndW neg R = double.word neg 0) := Lib.hid (by unfold rndW; rw [if_pos hc1])
    have hl : ((R / 4503599627370496 : Nat) : Int) < 1022 := by omega
    clear hR hc1 hO
    generalize double.word neg R = P at *
    generalize double.word neg 0 = Z at *
    generalize R / 4503599627370496 = E at *
    have hl2 : (E : Int) < 1023 := by omega
    go_enter Tryd.func70, Tryd.ntmps70
    go_wp2_with fail
    go_ret
    rw [hres.out]
    exact ⟨by simp, rfl⟩
  by_cases hc2 : R < 1023 * 2 ^ 52
  · have hres : Hid (rndW neg R = double.word neg (1023 * 2 ^ 52)) := Lib.hid (by unfold rndW; rw [if_neg hc1, if_pos hc2])
    have hl : ((R / 4503599627370496 : Nat) : Int) = 1022 := by omega
    rw [hl] at hE
    clear hR hc1 hc2 hl
    generalize double.word neg R = P at *
    generalize double.word neg 0 = Z at *
    generalize double.word neg (1023 * 2 ^ 52) = O at *
    go_enter Tryd.func70, Tryd.ntmps70
    go_wp2_with fail
    go_ret
    rw [hres.out]
    exact ⟨by simp, rfl⟩
  · have hres : Hid (rndW neg R = double.word neg ((R + 2 ^ (1074 - R / 2 ^ 52)) / 2 ^ (1074 - R / 2 ^ 52 + 1) * 2 ^ (1074 - R / 2 ^ 52 + 1))) := Lib.hid (by unfold rndW; rw [if_neg hc1, if_neg hc2])
    have hl1 : (1023 : Int) ≤ ((R / 4503599627370496 : Nat) : Int) := by omega
    have hl2 : ((R / 4503599627370496 : Nat) : Int) < 1075 := by omega
    have hEE' : R / 2 ^ 52 = R / 4503599627370496 := by rw [p52]
    generalize hEE : R / 4503599627370496 = E at *
    clear hZ hO
    go_enter Tryd.func70, Tryd.ntmps70
    go_upto_region 9 with fail
    generalize hy : (E : Int) - 1023 = y
    have hy0 : 0 ≤ y := by omega
    have hy1 : y ≤ 51 := by omega
    go_upto_region 10 with fail
    obtain ⟨j, hj⟩ : ∃ j : Nat, y = j := ⟨y.toNat, by omega⟩
    subst hj
    have hj51 : j ≤ 51 := by omega
    have hjs : 1074 - E = 51 - j := by omega
    have e1 := sh_half hj51
    have e2 := sh_mask hj51
    have hw1 : double.word neg R + 2 ^ (51 - j) < 18446744073709551616 := by
      rw [word_eq]
      have hn : neg.toNat ≤ 1 := by cases neg <;> simp
      have : 2 ^ (51 - j) ≤ 2 ^ 51 := Nat.pow_le_pow_right (by decide) (by omega)
      omega
    have hwr : IntKind.u64.wrap ((double.word neg R : Nat) + ((2 ^ (51 - j) : Nat) : Int)) = ((double.word neg R + 2 ^ (51 - j) : Nat) : Int) := by
      generalize (2 : Nat) ^ (51 - j) = G at *
      rw [IntKind.wrap_u64]; omega
    have han := andNot_low (double.word neg R + 2 ^ (51 - j)) (52 - j) (by omega) (by omega)
    have hcut : Hid ((double.word neg R + 2 ^ (51 - j)) / 2 ^ (52 - j) * 2 ^ (52 - j) = rndW neg R) := Lib.hid (by
      rw [hres.out, hEE', hjs, show 52 - j = 51 - j + 1 by omega]; exact word_cut neg (by omega))
    rw [Int.toNat_natCast, e1, hwr]
    generalize double.word neg R = P at *
    generalize (2 : Nat) ^ (51 - j) = G at *
    generalize (P + G) / 2 ^ (52 - j) * 2 ^ (52 - j) = O at *
    clear e1 hwr hE hw1 hjs hEE' hl1 hl2 hres hEE
    generalize P + G = X at *
    generalize (2 : Nat) ^ (52 - j) - 1 = M at *
    go_wp2_with fail
    go_ret
    rw [← hcut.out]
    exact ⟨by simp, rfl⟩
end Go.Proofs.YtfmghfghhipmhaaDoor
