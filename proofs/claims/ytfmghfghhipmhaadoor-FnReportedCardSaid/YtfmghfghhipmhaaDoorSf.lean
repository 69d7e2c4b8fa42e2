import Derived.Test.YtfmghfghhipmhaaDoorSe
import Derived.Test.YtfmghfghhipmhaaDoorSd
namespace Go.Fx
open Ieee
set_option linter.unusedVariables false
set_option linter.unusedSimpArgs false
set_option exponentiation.threshold 2000
/-! what rounding may cost -/
theorem cut_even {neg : Bool} {n drop : Nat} (hd : drop ≤ n.log2 + 2) : 2 * (Toward.even.cut neg n drop * 2 ^ drop) ≤ 2 * n + 2 ^ drop ∧ 2 * n ≤ 2 * (Toward.even.cut neg n drop * 2 ^ drop) + 2 ^ drop ∧ n / 2 ^ drop ≤ Toward.even.cut neg n drop ∧ Toward.even.cut neg n drop ≤ n / 2 ^ drop + 1 := by
  unfold Toward.cut
  simp only [Nat.shiftLeft_eq, Nat.one_mul, Nat.min_eq_left hd]
  have h1 := Nat.div_add_mod n (2 ^ drop)
  have h2 := Nat.mod_lt n (Nat.two_pow_pos drop)
  generalize hG : 2 ^ drop = G at *
  generalize n / G = q at *
  generalize n % G = r at *
  have hc : G * q = q * G := Nat.mul_comm _ _
  by_cases hm : (decide (G < 2 * r) || G == 2 * r && q % 2 == 1) = true
  · rw [hm]
    have h3 : G ≤ 2 * r := by
      rcases Bool.or_eq_true_iff.1 hm with h | h
      · have := of_decide_eq_true h; omega
      · have := (Bool.and_eq_true_iff.1 h).1; have := eq_of_beq this; omega
    have e : (q + true.toNat) * G = q * G + G := by simp [Nat.add_mul]
    rw [e]
    refine ⟨by omega, by omega, by simp, by simp⟩
  · have hm' := Bool.eq_false_iff.2 hm
    rw [hm']
    have h3 : 2 * r ≤ G := by
      have h4 := (Bool.or_eq_false_iff.1 hm').1
      have := of_decide_eq_false h4; omega
    have e : (q + false.toNat) * G = q * G := by simp
    rw [e]
    refine ⟨by omega, by omega, by simp, by simp⟩
theorem nearest_err (f : Format) (neg : Bool) {mag : Nat} {place : Int} (h0 : mag ≠ 0) (hlog : f.fractionBits ≤ mag.log2) (hlo : f.leastPlace ≤ place + mag.log2 - f.fractionBits)
    (hhi : place + mag.log2 + 4 < f.leastPlace + f.fractionBits + 2 ^ f.exponentBits) :
    ∃ m p, f.read (f.nearest neg mag place) = .number neg m p ∧ f.leastPlace ≤ p ∧ f.binade ≤ m ∧ m < 2 * f.binade ∧ place + mag.log2 - f.fractionBits ≤ p ∧ p ≤ place + mag.log2 - f.fractionBits + 1 ∧
      2 * (m * 2 ^ (p - place).toNat) ≤ 2 * mag + 2 ^ (mag.log2 - f.fractionBits) ∧ 2 * mag ≤ 2 * (m * 2 ^ (p - place).toNat) + 2 ^ (mag.log2 - f.fractionBits) := by
  have hbin : 0 < f.binade := Nat.two_pow_pos _
  have hir := f.infRung_lt
  have hpe : ((2 ^ f.exponentBits : Nat) : Int) = 2 ^ f.exponentBits := by simp
  unfold Format.nearest
  rw [if_neg h0]
  simp only []
  generalize hlast : max (place + (mag.log2 : Int) - f.fractionBits) f.leastPlace = last
  have hl : last = place + mag.log2 - f.fractionBits := by omega
  have e1 : (place - last).toNat = 0 := by omega
  have e2 : (last - place).toNat = mag.log2 - f.fractionBits := by omega
  rw [e1, e2, Nat.shiftLeft_zero]
  obtain ⟨c1, c2, c3, c4⟩ := cut_even (neg := neg) (n := mag) (drop := mag.log2 - f.fractionBits) (by omega)
  generalize hkept : Toward.even.cut neg mag (mag.log2 - f.fractionBits) = kept at *
  have k1 : f.binade ≤ kept := by
    refine Nat.le_trans ?_ c3
    rw [Nat.le_div_iff_mul_le (Nat.two_pow_pos _)]
    unfold Format.binade
    rw [← Nat.pow_add, show f.fractionBits + (mag.log2 - f.fractionBits) = mag.log2 by omega]
    exact pow_log2_le h0
  have k2 : kept ≤ 2 * f.binade := by
    have : mag / 2 ^ (mag.log2 - f.fractionBits) < 2 * f.binade := by
      rw [Nat.div_lt_iff_lt_mul (Nat.two_pow_pos _)]
      unfold Format.binade
      rw [← Nat.pow_succ', ← Nat.pow_add, show f.fractionBits + 1 + (mag.log2 - f.fractionBits) = mag.log2 + 1 by omega]
      exact lt_pow_log2 mag
    omega
  generalize hq : (last - f.leastPlace).toNat = q
  have hqq : (q : Int) = last - f.leastPlace := by omega
  have hq2 : q + 3 < 2 ^ f.exponentBits := by omega
  have hrung : q * f.binade + kept < f.infRung := by
    unfold Format.infRung
    have h3 : (q + 3) * f.binade ≤ (2 ^ f.exponentBits - 1) * f.binade := Nat.mul_le_mul_right _ (by omega)
    have h4 : (q + 3) * f.binade = q * f.binade + 3 * f.binade := Nat.add_mul ..
    omega
  rw [Nat.min_eq_left (Nat.le_of_lt hrung), read_word f neg (Nat.lt_trans hrung hir)]
  have hnb : ¬ q * f.binade + kept < f.binade := by omega
  rw [if_neg hnb, if_pos hrung]
  by_cases hk : kept < 2 * f.binade
  · have e5 : q * f.binade + kept = (kept - f.binade) + f.binade * (q + 1) := by rw [Nat.mul_add, Nat.mul_one, Nat.mul_comm f.binade q]; omega
    rw [e5, Nat.add_mul_mod_self_left, Nat.add_mul_div_left _ _ hbin, Nat.mod_eq_of_lt (by omega), Nat.div_eq_of_lt (by omega)]
    have e6 : f.binade + (kept - f.binade) = kept := by omega
    rw [e6]
    have e7 : (f.leastPlace + ((0 + (q + 1) - 1 : Nat) : Int) - place).toNat = mag.log2 - f.fractionBits := by omega
    refine ⟨_, _, rfl, by omega, k1, hk, by omega, by omega, ?_, ?_⟩ <;> rw [e7]
    · exact c1
    · exact c2
  · have hk3 : kept = 2 * f.binade := by omega
    have e5 : q * f.binade + kept = f.binade * (q + 2) := by rw [hk3, Nat.mul_add, Nat.mul_comm f.binade q, Nat.mul_comm f.binade 2]
    rw [e5, Nat.mul_mod_right, Nat.mul_div_cancel_left _ hbin, Nat.add_zero]
    have e7 : (f.leastPlace + ((q + 2 - 1 : Nat) : Int) - place).toNat = mag.log2 - f.fractionBits + 1 := by omega
    have e8 : f.binade * 2 ^ (mag.log2 - f.fractionBits + 1) = kept * 2 ^ (mag.log2 - f.fractionBits) := by rw [hk3, Nat.pow_succ]; rw [Nat.mul_comm 2 f.binade, Nat.mul_assoc, Nat.mul_comm 2]
    refine ⟨_, _, rfl, by omega, Nat.le_refl _, by omega, by omega, by omega, ?_, ?_⟩ <;> rw [e7, e8]
    · exact c1
    · exact c2
theorem quot_err {s : Bool} {m : Nat} {i : Int} (hm0 : m ≠ 0) (hm : m.log2 ≤ 52) : ∃ mag : Nat, (Datum.number s m i).quotient 54 (.number false (1000 * 2 ^ 43) (-43)) = some (.number s mag (i + m.log2 - 64)) ∧ 2 ^ 54 ≤ mag ∧ mag < 2 ^ 56 ∧
    mag * (1000 * 2 ^ 43) ≤ m * 2 ^ (107 - m.log2) + 1000 * 2 ^ 43 ∧ m * 2 ^ (107 - m.log2) ≤ mag * (1000 * 2 ^ 43) + 1000 * 2 ^ 43 := by
  unfold Datum.quotient
  simp only [if_neg (show ¬ (1000 * 2 ^ 43 = 0) by decide), log_1000, Bool.xor_false]
  have hp : i - -43 - ((54 + 52 - m.log2 : Nat) : Int) - 1 = i + m.log2 - 64 := by omega
  rw [hp]
  refine ⟨_, rfl, ?_⟩
  have hlo := pow_log2_le hm0
  have hhi := lt_pow_log2 m
  rw [Nat.shiftLeft_eq]
  have e0 : 107 - m.log2 = (54 + 52 - m.log2) + 1 := by omega
  have d1 : 2 ^ 106 ≤ m * 2 ^ (54 + 52 - m.log2) := by
    have e : 2 ^ 106 = 2 ^ m.log2 * 2 ^ (54 + 52 - m.log2) := by rw [← Nat.pow_add]; congr 1; omega
    rw [e]; exact Nat.mul_le_mul_right _ hlo
  have d2 : m * 2 ^ (54 + 52 - m.log2) < 2 ^ 107 := by
    have e : 2 ^ 107 = 2 ^ (m.log2 + 1) * 2 ^ (54 + 52 - m.log2) := by rw [← Nat.pow_add]; congr 1; omega
    rw [e]; exact Nat.mul_lt_mul_of_pos_right hhi (Nat.two_pow_pos _)
  have e00 : m * 2 ^ (107 - m.log2) = m * 2 ^ (54 + 52 - m.log2) * 2 := by rw [e0, Nat.pow_succ, Nat.mul_assoc]
  rw [e00]
  clear e00 e0
  generalize m * 2 ^ (54 + 52 - m.log2) = D at *
  have h1 := Nat.div_add_mod D (1000 * 2 ^ 43)
  have h2 := Nat.mod_lt D (show 0 < 1000 * 2 ^ 43 by decide)
  generalize D / (1000 * 2 ^ 43) = Q at *
  generalize D % (1000 * 2 ^ 43) = r at *
  have hb : (r != 0).toNat = 0 ∧ r = 0 ∨ (r != 0).toNat = 1 ∧ r ≠ 0 := by
    by_cases h : r = 0
    · left; subst h; exact ⟨rfl, rfl⟩
    · right; exact ⟨by simp [h], h⟩
  generalize (r != 0).toNat = b at *
  have p43 : (2 : Nat) ^ 43 = 8796093022208 := by decide
  have p54 : (2 : Nat) ^ 54 = 18014398509481984 := by decide
  have p56 : (2 : Nat) ^ 56 = 72057594037927936 := by decide
  have p106 : (2 : Nat) ^ 106 = 81129638414606681695789005144064 := by decide
  have p107 : (2 : Nat) ^ 107 = 162259276829213363391578010288128 := by decide
  rw [p43] at *
  rw [p106] at d1
  rw [p107] at d2
  rw [p54, p56]
  refine ⟨?_, ?_, ?_, ?_⟩ <;> omega
/-- a thousandth part of a whole number, as a single: how near it is -/
theorem thou_near {n : Int} (h0 : n ≠ 0) (hn : n.natAbs ≤ 1024000) : ∃ (m e : Nat), single.read (thou n) = .number (decide (n < 0)) m (-(e : Int)) ∧ e ≤ 149 ∧ 2 ^ 23 ≤ m ∧ m < 2 ^ 24 ∧
    (1000 * m) * 2 ^ 23 < (n.natAbs * 2 ^ e) * 2 ^ 23 + n.natAbs * 2 ^ e ∧ (n.natAbs * 2 ^ e) * 2 ^ 23 < (1000 * m) * 2 ^ 23 + n.natAbs * 2 ^ e := by
  obtain ⟨s, m, i, hr, hi, hv⟩ := isV_int (k := .f64) (n := n) (by show n.natAbs ≤ 2 ^ 53; omega)
  have hL : FloatKind.f64.format.leastPlace = -1074 := by decide
  rw [hL] at hi hv
  have hva := congrArg Int.natAbs hv
  rw [Int.natAbs_mul, Int.natAbs_mul, sg_natAbs, Int.natAbs_mul, Int.natAbs_natCast, Int.natAbs_natCast, Int.natAbs_natCast, Int.natAbs_natCast, Nat.pow_zero, Nat.mul_one, show (-(-1074 : Int)).toNat = 1074 from rfl] at hva
  have hna : n.natAbs ≠ 0 := by omega
  have hm0 : m ≠ 0 := by
    intro h; subst h
    rw [Nat.zero_mul] at hva
    exact absurd hva.symm (Nat.mul_ne_zero hna (by have := Nat.two_pow_pos 1074; omega))
  have hs : s = decide (n < 0) := by
    have p1 := Nat.two_pow_pos (i - -1074).toNat
    have hmp : 0 < m * 2 ^ (i - -1074).toNat := Nat.mul_pos (by omega) p1
    have hv2 : sg s * ((m * 2 ^ (i - -1074).toNat : Nat) : Int) = n * ((2 ^ 1074 : Nat) : Int) := by
      have h9 := hv
      rw [Nat.pow_zero, show ((1 : Nat) : Int) = 1 from rfl, Int.mul_one, Int.mul_assoc, ← Int.natCast_mul] at h9
      exact h9
    clear hv
    generalize m * 2 ^ (i - -1074).toNat = X at *
    have p2 := Nat.two_pow_pos 1074
    generalize (2 : Nat) ^ 1074 = Y at *
    cases s
    · have : ¬ n < 0 := fun h => by
        have h9 : n * (Y : Int) < 0 := Int.mul_neg_of_neg_of_pos h (by omega)
        rw [show sg false = 1 from rfl, Int.one_mul] at hv2
        omega
      simp [this]
    · have : n < 0 := by
        rcases Int.lt_or_le n 0 with h | h
        · exact h
        · have h9 : 0 ≤ n * (Y : Int) := Int.mul_nonneg h (by omega)
          rw [show sg true = -1 from rfl, Int.neg_mul, Int.one_mul] at hv2
          omega
      simp [this]
  have hml : m.log2 ≤ 52 := by
    have := read_mag FloatKind.f64.format hr
    have := log2_lt_of hm0 (k := 53) this
    omega
  have hil1 : i + m.log2 < 20 := by
    have h2 := log_from (c := 20) hva (by omega) hm0
    omega
  have hil0 : 0 ≤ i + m.log2 := by
    rcases Int.lt_or_le (i + m.log2) 0 with h | h
    · have h1 : m * 2 ^ (i - -1074).toNat < 2 ^ (m.log2 + 1) * 2 ^ (i - -1074).toNat := Nat.mul_lt_mul_of_pos_right (lt_pow_log2 m) (Nat.two_pow_pos _)
      rw [← Nat.pow_add, hva] at h1
      have h2 : 2 ^ (m.log2 + 1 + (i - -1074).toNat) ≤ 2 ^ 1074 := Nat.pow_le_pow_right (by omega) (by omega)
      have h3 : 1 * 2 ^ 1074 ≤ n.natAbs * 2 ^ 1074 := Nat.mul_le_mul_right _ (by omega)
      omega
    · exact h
  obtain ⟨mag, hq, g1, g2, g3, g4⟩ := quot_err (s := s) (i := i) hm0 hml
  have hmag0 : mag ≠ 0 := by have : 0 < 2 ^ 54 := by decide
                             omega
  have hml2 : mag.log2 < 56 := log2_lt_of hmag0 g2
  have hml1 : 54 ≤ mag.log2 := by
    rcases Nat.lt_or_ge mag.log2 54 with h | h
    · have := Nat.lt_of_lt_of_le (lt_pow_log2 mag) (Nat.pow_le_pow_right (by omega) (show mag.log2 + 1 ≤ 54 by omega)); omega
    · exact h
  have hfop : fop .quo .f64 (floatOfInt .f64 n) 4652007308841189376 = double.nearest s mag (i + m.log2 - 64) := by
    unfold fop floatBits
    simp only
    unfold Format.div
    rw [hr, read_1000, show FloatKind.f64.format.fractionBits + 2 = 54 from rfl, hq]; rfl
  generalize hP : i + m.log2 - 64 = P at *
  have f1 : double.fractionBits = 52 := rfl
  have f2 : double.leastPlace = -1074 := by decide
  have f3 : double.exponentBits = 11 := rfl
  have f4 : double.binade = 2 ^ 52 := rfl
  obtain ⟨m1, p1, hr1, hp1, b1, b2, q1, q2, a1, a2⟩ := nearest_err double s (mag := mag) (place := P) hmag0 (by rw [f1]; omega) (by rw [f1, f2]; omega) (by rw [f1, f2, f3]; omega)
  rw [f1] at q1 q2 a1 a2
  rw [f4] at b1 b2
  have hm10 : m1 ≠ 0 := by have : 0 < 2 ^ 52 := by decide
                           omega
  have hm1l : m1.log2 = 52 := by
    have h1 := log2_lt_of (k := 53) hm10 (by rw [show (2 : Nat) ^ 53 = 2 * 2 ^ 52 by decide]; exact b2)
    rcases Nat.lt_or_ge m1.log2 52 with h | h
    · have := Nat.lt_of_lt_of_le (lt_pow_log2 m1) (Nat.pow_le_pow_right (by omega) (show m1.log2 + 1 ≤ 52 by omega)); omega
    · omega
  have g5 : single.fractionBits = 23 := rfl
  have g6 : single.leastPlace = -149 := by decide
  have g7 : single.exponentBits = 8 := rfl
  have g8 : single.binade = 2 ^ 23 := rfl
  obtain ⟨m2, p2, hr2, hp2, c1, c2, u1, u2, v1, v2⟩ := nearest_err single s (mag := m1) (place := p1) hm10 (by rw [g5]; omega) (by rw [g5, g6]; omega) (by rw [g5, g6, g7]; omega)
  rw [g5, hm1l] at u1 u2 v1 v2
  rw [g8] at c1 c2
  rw [g6] at hp2
  have hth : thou n = single.nearest s m1 p1 := by
    unfold thou fconv
    rw [hfop]
    unfold floatToFloatBits
    rw [if_neg (by decide)]
    have hd : FloatKind.f64.decode (double.nearest s mag P) = .number s m1 p1 := hr1
    rw [hd]
    dsimp only
    have hd2 : FloatKind.f32.decode (FloatKind.f32.encode (.number s m1 p1)) = .number s m2 p2 := hr2
    rw [hd2]
    rfl
  obtain ⟨e, he⟩ : ∃ e : Nat, p2 = -(e : Int) := ⟨(-p2).toNat, by omega⟩
  refine ⟨m2, e, by rw [hth, hr2, hs, he], by omega, c1, by omega, ?_⟩
  -- one scale
  have hPp : P ≤ p1 := by omega
  have hpp : p1 ≤ p2 := by omega
  have eX : m * 2 ^ (107 - m.log2) = n.natAbs * 2 ^ e * 2 ^ (43 + p2 - P).toNat := by
    have e1 : (2 : Nat) ^ 1074 ≠ 0 := by have := Nat.two_pow_pos 1074; omega
    refine Nat.eq_of_mul_eq_mul_right (Nat.pos_of_ne_zero e1) ?_
    have h5 : n.natAbs * 2 ^ e * 2 ^ (43 + p2 - P).toNat * 2 ^ 1074 = n.natAbs * 2 ^ 1074 * 2 ^ (43 - P).toNat := by
      have : (43 - P).toNat = e + (43 + p2 - P).toNat := by omega
      rw [this, Nat.pow_add]; 
      simp only [Nat.mul_assoc, Nat.mul_comm, Nat.mul_left_comm]
    rw [h5, ← hva, Nat.mul_assoc, Nat.mul_assoc, ← Nat.pow_add, ← Nat.pow_add]
    congr 2; omega
  have eW : m2 * 2 ^ (p2 - p1).toNat * 2 ^ (p1 - P).toNat * (1000 * 2 ^ 43) = 1000 * m2 * 2 ^ (43 + p2 - P).toNat := by
    have : (43 + p2 - P).toNat = (p2 - p1).toNat + (p1 - P).toNat + 43 := by omega
    rw [this, Nat.pow_add, Nat.pow_add]
    simp only [Nat.mul_assoc, Nat.mul_comm, Nat.mul_left_comm]
  -- the first rounding
  have w1 : 2 ^ (mag.log2 - 52) * 2 ^ 52 ≤ mag := by rw [← Nat.pow_add, show mag.log2 - 52 + 52 = mag.log2 by omega]; exact pow_log2_le hmag0
  generalize hG1 : 2 ^ (mag.log2 - 52) = G1 at *
  generalize hA : m1 * 2 ^ (p1 - P).toNat = A at *
  -- the second one
  have v1' := Nat.mul_le_mul_right (2 ^ (p1 - P).toNat) v1
  have v2' := Nat.mul_le_mul_right (2 ^ (p1 - P).toNat) v2
  rw [Nat.add_mul, Nat.mul_assoc, Nat.mul_assoc 2 m1, hA] at v1'
  rw [Nat.add_mul, Nat.mul_assoc, Nat.mul_assoc 2 (m2 * _), hA] at v2'
  have w2 : 2 ^ (52 - 23) * 2 ^ (p1 - P).toNat * 2 ^ 23 ≤ A := by
    rw [← hA, Nat.mul_right_comm, ← Nat.pow_add]
    exact Nat.mul_le_mul_right _ b1
  generalize 2 ^ (52 - 23) * 2 ^ (p1 - P).toNat = G2 at *
  rw [eX] at g3 g4
  generalize hB : m2 * 2 ^ (p2 - p1).toNat * 2 ^ (p1 - P).toNat = B at *
  generalize hT : 2 ^ (43 + p2 - P).toNat = T at *
  have hTp : 0 < T := by rw [← hT]; exact Nat.two_pow_pos _
  generalize hX : n.natAbs * 2 ^ e = X at *
  have p23 : (2 : Nat) ^ 23 = 8388608 := by decide
  have p43 : (2 : Nat) ^ 43 = 8796093022208 := by decide
  have p52 : (2 : Nat) ^ 52 = 4503599627370496 := by decide
  have p54 : (2 : Nat) ^ 54 = 18014398509481984 := by decide
  rw [p52] at w1
  rw [p23] at w2
  rw [p54] at g1
  rw [p43] at eW g3 g4
  rw [p23]
  have hXT : ∀ a b : Nat, a * T < b * T → a < b := fun a b h => Nat.lt_of_mul_lt_mul_right h
  constructor
  · apply hXT
    rw [Nat.add_mul, Nat.mul_right_comm, ← eW, Nat.mul_right_comm X]
    generalize X * T = XT at *
    omega
  · apply hXT
    rw [Nat.add_mul, Nat.mul_right_comm X, Nat.mul_right_comm _ _ T, ← eW]
    generalize X * T = XT at *
    omega
end Go.Fx
