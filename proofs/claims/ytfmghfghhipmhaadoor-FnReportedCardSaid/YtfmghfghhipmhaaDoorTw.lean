import Derived.Test.YtfmghfghhipmhaaDoorTv
namespace Go.Fx
open Ieee
set_option linter.unusedVariables false
set_option linter.unusedSimpArgs false
set_option exponentiation.threshold 2000
/-! a double times a thousand, rounded -/
theorem word_of {x : Nat} (hx : x < 2 ^ 64) : ∃ neg R, x = double.word neg R ∧ R < 9223372036854775808 := by
  have p : (2 : Nat) ^ 64 = 18446744073709551616 := by decide
  by_cases h : x < 9223372036854775808
  · exact ⟨false, x, by rw [word_eq]; simp, h⟩
  · exact ⟨true, x - 9223372036854775808, by rw [word_eq]; simp; omega, by omega⟩
theorem dbl_small (neg : Bool) {R : Nat} (h2 : R < 2047 * 2 ^ 52) (h1 : 2 ^ 52 ≤ R) : IsV double (double.word neg R) (sg neg * ((2 ^ 52 + R % 2 ^ 52 : Nat) : Int) * tp (R / 2 ^ 52 - 1075)) (1075 - R / 2 ^ 52) := by
  refine ⟨neg, _, _, dbl_read neg h1 h2, by rw [dbl_least]; omega, ?_⟩
  rw [dbl_least]
  have e1 : (-1074 + ((R / 2 ^ 52 - 1 : Nat) : Int) - -1074).toNat = R / 2 ^ 52 - 1 := by omega
  have e2 : (-(-1074 : Int)).toNat = 1074 := rfl
  have hq : 1 ≤ R / 2 ^ 52 := (Nat.one_le_div_iff (by decide)).2 h1
  rw [e1, e2]
  have e3 : R / 2 ^ 52 - 1 + (1075 - R / 2 ^ 52) = R / 2 ^ 52 - 1075 + 1074 := by omega
  show sg neg * ((2 ^ 52 + R % 2 ^ 52 : Nat) : Int) * tp _ * tp _ = sg neg * ((2 ^ 52 + R % 2 ^ 52 : Nat) : Int) * tp _ * tp _
  rw [Int.mul_assoc (sg neg * _), Int.mul_assoc (sg neg * _), ← tp_add, ← tp_add, e3]
theorem dbl_tiny (neg : Bool) {R : Nat} (h1 : R < 2 ^ 52) : IsV double (double.word neg R) (sg neg * (R : Int)) 1074 := by
  refine ⟨neg, _, _, dbl_read0 neg h1, by rw [dbl_least]; omega, ?_⟩
  rw [dbl_least]
  show sg neg * (R : Int) * tp _ * tp _ = sg neg * (R : Int) * tp _
  rw [show (-1074 - -1074 : Int).toNat = 0 from rfl, show tp 0 = 1 from rfl, Int.mul_one]; rfl
theorem natAbs_cross {m n : Int} {e g : Nat} (h : m * tp g = n * tp e) : m.natAbs * 2 ^ g = n.natAbs * 2 ^ e := by
  have := congrArg Int.natAbs h
  rwa [Int.natAbs_mul, Int.natAbs_mul, Int.natAbs_natCast, Int.natAbs_natCast] at this
/-- a small number's word -/
theorem rung_small {neg : Bool} {R : Nat} {M : Int} {e : Nat} (hR : R < 9223372036854775808) (h : IsV double (double.word neg R) M e) (hM : M.natAbs ≤ 1024000 * 2 ^ e) : R < 1075 * 2 ^ 52 := by
  rcases Nat.lt_or_ge R (1075 * 2 ^ 52) with h1 | h1
  · exact h1
  · exfalso
    have hfin : R < 2047 * 2 ^ 52 := by
      obtain ⟨s, mag, pl, hr, -, -⟩ := h
      rw [read_word double neg (by rw [dbl_sign]; omega), dbl_bin, dbl_inf, if_neg (by omega)] at hr
      by_cases h2 : R < 2047 * 2 ^ 52
      · exact h2
      · rw [if_neg h2] at hr; split at hr <;> cases hr
    have h2 := natAbs_cross (isV_same (dbl_small neg hfin (by omega)) h)
    have hq : 1075 ≤ R / 2 ^ 52 := (Nat.le_div_iff_mul_le (by decide)).2 h1
    rw [Int.natAbs_mul, sg_natAbs, Int.natAbs_natCast, Int.natAbs_natCast, show 1075 - R / 2 ^ 52 = 0 by omega, Nat.pow_zero, Nat.mul_one] at h2
    have h3 : 2 ^ 52 * 2 ^ e ≤ (2 ^ 52 + R % 2 ^ 52) * 2 ^ (R / 2 ^ 52 - 1075) * 2 ^ e := Nat.mul_le_mul_right _ (Nat.le_trans (Nat.le_add_right _ _) (Nat.le_mul_of_pos_right _ (Nat.two_pow_pos _)))
    rw [h2] at h3
    have p52 : (2 : Nat) ^ 52 = 4503599627370496 := by decide
    rw [p52] at h3
    have := Nat.two_pow_pos e
    omega
theorem rnd_sg (neg : Bool) {F : Nat} (hF : 0 < F) (e : Nat) : rndI (sg neg * (F : Int)) e = sg neg * (((2 * F + 2 ^ e) / 2 ^ (e + 1) : Nat) : Int) := by
  unfold rndI
  rw [sg_natAbs, Int.natAbs_natCast]
  cases neg
  · rw [show sg false = 1 from rfl, Int.one_mul, Int.one_mul, if_neg (by omega)]
  · rw [show sg true = -1 from rfl, if_pos (by omega)]; omega
theorem rndW_V {neg : Bool} {R : Nat} {M : Int} {e : Nat} (hR : R < 1075 * 2 ^ 52) (h : IsV double (double.word neg R) M e) : IsV double (rndW neg R) (rndI M e) 0 := by
  have p52 : (2 : Nat) ^ 52 = 4503599627370496 := by decide
  have p53 : (2 : Nat) ^ 53 = 9007199254740992 := by decide
  have z0 : IsV double (double.word neg 0) 0 0 := by
    have := dbl_tiny neg (R := 0) (by decide)
    rw [show sg neg * ((0 : Nat) : Int) = 0 * tp 1074 by simp] at this
    exact IsV.coarser (k := 1074) (e := 0) (by simpa using this)
  unfold rndW
  by_cases hc1 : R < 1022 * 2 ^ 52
  · rw [if_pos hc1]
    have hz : rndI M e = 0 := by
      rcases Nat.lt_or_ge R (2 ^ 52) with h1 | h1
      · have h2 := isV_same (dbl_tiny neg h1) h
        rw [← rnd_cross h2]
        unfold rndI
        rw [sg_natAbs, Int.natAbs_natCast]
        have : (2 * R + 2 ^ 1074) / 2 ^ (1074 + 1) = 0 := Nat.div_eq_of_lt (by
          have h3 : 2 ^ 53 ≤ 2 ^ 1074 := Nat.pow_le_pow_right (by decide) (by decide)
          rw [Nat.pow_succ]; omega)
        rw [this]; simp
      · have h2 := isV_same (dbl_small neg (by omega) h1) h
        rw [← rnd_cross h2]
        have hq : R / 2 ^ 52 ≤ 1021 := by omega
        rw [show R / 2 ^ 52 - 1075 = 0 by omega, show tp 0 = 1 from rfl, Int.mul_one, rnd_sg neg (by omega)]
        have : (2 * (2 ^ 52 + R % 2 ^ 52) + 2 ^ (1075 - R / 2 ^ 52)) / 2 ^ (1075 - R / 2 ^ 52 + 1) = 0 := Nat.div_eq_of_lt (by
          have h3 : 2 ^ 54 ≤ 2 ^ (1075 - R / 2 ^ 52) := Nat.pow_le_pow_right (by decide) (by omega)
          have p54 : (2 : Nat) ^ 54 = 18014398509481984 := by decide
          rw [Nat.pow_succ 2 (1075 - R / 2 ^ 52)]; omega)
        rw [this]; simp
    rw [hz]; exact z0
  rw [if_neg hc1]
  by_cases hc2 : R < 1023 * 2 ^ 52
  · rw [if_pos hc2]
    have hq : R / 2 ^ 52 = 1022 := by omega
    have h2 := isV_same (dbl_small neg (by omega) (by omega)) h
    rw [hq] at h2
    rw [← rnd_cross h2, show 1022 - 1075 = 0 from rfl, show tp 0 = 1 from rfl, Int.mul_one, rnd_sg neg (by omega), show 1075 - 1022 = 53 from rfl]
    have : (2 * (2 ^ 52 + R % 2 ^ 52) + 2 ^ 53) / 2 ^ (53 + 1) = 1 := by
      have p54 : (2 : Nat) ^ (53 + 1) = 18014398509481984 := by decide
      rw [p54]; omega
    rw [this]
    have h9 := dbl_small neg (R := 1023 * 2 ^ 52) (by decide) (by decide)
    rw [show 1023 * 2 ^ 52 % 2 ^ 52 = 0 by decide, show 1023 * 2 ^ 52 / 2 ^ 52 = 1023 by decide, show 1023 - 1075 = 0 from rfl, show tp 0 = 1 from rfl, Int.mul_one, Nat.add_zero, show 1075 - 1023 = 52 from rfl] at h9
    have e9 : sg neg * ((2 ^ 52 : Nat) : Int) = sg neg * ((1 : Nat) : Int) * tp 52 := by rw [show ((1 : Nat) : Int) = 1 from rfl, Int.mul_one]
    rw [e9] at h9
    exact IsV.coarser (k := 52) (e := 0) (by simpa using h9)
  · rw [if_neg hc2]
    have h2 := isV_same (dbl_small neg (by omega) (by omega)) h
    have hq : R / 2 ^ 52 < 1075 := by omega
    obtain ⟨s, hs⟩ : ∃ s, s + 1 = 1075 - R / 2 ^ 52 := ⟨1074 - R / 2 ^ 52, by omega⟩
    have h9 := round_V neg (R := R) (s := s) (by omega) hR hs
    rw [← rnd_cross h2, show R / 2 ^ 52 - 1075 = 0 by omega, show tp 0 = 1 from rfl, Int.mul_one, rnd_sg neg (by omega), ← hs, show 1074 - R / 2 ^ 52 = s by omega]
    have e1 : (2 * (2 ^ 52 + R % 2 ^ 52) + 2 ^ (s + 1)) / 2 ^ (s + 1 + 1) = (2 ^ 52 + R % 2 ^ 52 + 2 ^ s) / 2 ^ (s + 1) := by
      have e2 : 2 ^ (s + 1 + 1) = 2 * 2 ^ (s + 1) := by rw [Nat.pow_succ]; omega
      have e3 : 2 ^ (s + 1) = 2 * 2 ^ s := by rw [Nat.pow_succ]; omega
      rw [e2, ← Nat.div_div_eq_div_mul]
      congr 1
      omega
    rw [e1]; exact h9
/-- a number that can be told in thousandths -/
structure Thou (X : Nat) (m : Int) (e : Nat) : Prop where
  v : IsV double X m e
  he : e ≤ 149
  hm : m.natAbs < 16777216
  hb : m.natAbs ≤ 1024 * 2 ^ e
theorem v_1000 : IsV double 4652007308841189376 1000 0 := isV_chk (by decide +kernel)
theorem abs_1000 (m : Int) : (m * 1000).natAbs = 1000 * m.natAbs := by rw [Int.natAbs_mul, Nat.mul_comm]; rfl
theorem Thou.mul {X : Nat} {m : Int} {e : Nat} (h : Thou X m e) : ∃ neg R, floatBits .mul .f64 X 4652007308841189376 = some (double.word neg R) ∧ R < 1075 * 2 ^ 52 ∧ IsV double (double.word neg R) (m * 1000) e := by
  have h1 := h.he
  have h2 := h.hm
  have h3 := h.hb
  have ha := abs_1000 m
  obtain ⟨r, hr, hv⟩ := isV_mul good_double h.v v_1000 (by rw [dbl_least]; omega) (by
    rw [ha]
    have : (2 : Nat) ^ (double.fractionBits + 1) = 9007199254740992 := by decide
    rw [this]; omega)
  rw [Nat.add_zero] at hv
  have hlt := double.mul_lt hr
  obtain ⟨neg, R, rfl, hR⟩ := word_of (show r < 2 ^ 64 from hlt)
  exact ⟨neg, R, hr, rung_small hR hv (by rw [ha]; omega), hv⟩
theorem Thou.rnd {m : Int} {e : Nat} (h2 : m.natAbs ≤ 1024 * 2 ^ e) : (rndI (m * 1000) e).natAbs ≤ 1024000 := by
  have := (rnd_bound (m := m) (e := e) (c := 10) (by have p : (2 : Nat) ^ 10 = 1024 := by decide
                                                     rw [p]; exact h2)).1
  rw [Int.mul_comm]; exact this
theorem toInt_small {x : Nat} {n : Int} {e : Nat} (h : IsV double x n e) (hn : n.natAbs ≤ 9000000000000000000) : floatToIntVal .f64 x .i64 = some (cutI n e) := by
  unfold floatToIntVal
  have h1 : (FloatKind.f64.decode x).toInt .zero = some (cutI n e) := toInt_V (k := .f64) h
  rw [h1]
  have hc : (cutI n e).natAbs ≤ n.natAbs := by
    unfold cutI
    have := Nat.div_le_self n.natAbs (2 ^ e)
    generalize n.natAbs / 2 ^ e = q at *
    split <;> omega
  have hmin : IntKind.i64.min = -9223372036854775808 := by decide
  have hmax : IntKind.i64.max = 9223372036854775807 := by decide
  simp only
  rw [if_pos (by rw [hmin, hmax]; omega)]
end Go.Fx
namespace Go.Proofs.YtfmghfghhipmhaaDoor
open Go.RowKit Go.Fx Go.Sort Ieee
set_option linter.unusedVariables false
set_option linter.unusedSimpArgs false
theorem bits_abs {neg : Bool} {R : Nat} (hR : R < 9223372036854775808) : bits .andNot .u64 ((double.word neg R : Nat) : Int) 9223372036854775808 = (R : Int) := by
  have hn : neg.toNat ≤ 1 := by cases neg <;> simp
  have e : bits .andNot .u64 ((double.word neg R : Nat) : Int) 9223372036854775808 = bits .and .u64 ((double.word neg R : Nat) : Int) ((9223372036854775807 : Nat) : Int) := by
    unfold bits
    simp only
    rw [show ~~~ (BitVec.ofInt IntKind.u64.bits 9223372036854775808) = BitVec.ofInt IntKind.u64.bits ((9223372036854775807 : Nat) : Int) by decide]
  rw [e, word_eq, bits_and_u64_nat _ _ (by omega) (by omega), show (9223372036854775807 : Nat) = 2 ^ 63 - 1 by decide, Nat.and_two_pow_sub_one_eq_mod]
  have p : (2 : Nat) ^ 63 = 9223372036854775808 := by decide
  rw [p]; omega
set_option maxRecDepth 100000 in
theorem abs_any (neg : Bool) (R : Nat) (hR : R < 9223372036854775808) (w : World) :
    Calls Tryd.prog 72 #[.float .f64 (double.word neg R)] w fun e w' => e = .returned (.float .f64 R) ∧ w' = w := by
  have h1 := fun b W => f64bits_run b W
  have h2 := fun b W => f64from_run b W
  have h3 := bits_abs (neg := neg) hR
  generalize double.word neg R = P at *
  go_enter Tryd.func72, Tryd.ntmps72
  go_wp2_with fail
  go_ret
  exact ⟨rfl, rfl⟩
theorem isnan_any (X : Nat) (h : feq .f64 X X = true) (w : World) : Calls Tryd.prog 94 #[.float .f64 X] w fun e w' => e = .returned (.bool false) ∧ w' = w := by
  go_enter Tryd.func94, Tryd.ntmps94
  go_wp2_with fail
  go_ret
  exact ⟨rfl, rfl⟩
theorem abs_of {X : Nat} (hX : X < 2 ^ 64) (w : World) : ∃ Y, Hid (∃ neg, X = double.word neg Y) ∧ Calls Tryd.prog 72 #[.float .f64 X] w fun e w' => e = .returned (.float .f64 Y) ∧ w' = w := by
  obtain ⟨neg, R, rfl, hR⟩ := word_of hX
  exact ⟨R, Lib.hid ⟨neg, rfl⟩, abs_any neg R hR w⟩
end Go.Proofs.YtfmghfghhipmhaaDoor
