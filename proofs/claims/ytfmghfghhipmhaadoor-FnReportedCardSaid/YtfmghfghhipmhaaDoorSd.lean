import Derived.Test.YtfmghfghhipmhaaDoorSc
namespace Go.Fx
open Ieee
set_option linter.unusedVariables false
set_option linter.unusedSimpArgs false
/-! a float cut to a whole number, and rounded -/
theorem cut_zero (neg : Bool) (n drop : Nat) : Toward.zero.cut neg n drop = n / 2 ^ drop := by
  unfold Toward.cut
  simp only [Nat.shiftLeft_eq, Nat.one_mul, Bool.toNat_false, Nat.add_zero]
  by_cases h : drop ≤ n.log2 + 2
  · rw [Nat.min_eq_left h]
  · rw [Nat.min_eq_right (by omega)]
    have h1 : n < 2 ^ (n.log2 + 2) := Nat.lt_trans (lt_pow_log2 n) (Nat.pow_lt_pow_right (by decide) (by omega))
    have h2 : n < 2 ^ drop := Nat.lt_of_lt_of_le h1 (Nat.pow_le_pow_right (by decide) (by omega))
    rw [Nat.div_eq_of_lt h1, Nat.div_eq_of_lt h2]
theorem div_cross {a b x y : Nat} (hx : 0 < x) (hy : 0 < y) (h : a * x = b * y) : a / y = b / x := by
  have e1 : a / y = a * x / (y * x) := (Nat.mul_div_mul_right _ _ hx).symm
  have e2 : b / x = b * y / (x * y) := (Nat.mul_div_mul_right _ _ hy).symm
  rw [e1, e2, h, Nat.mul_comm y]
theorem sg_of {s : Bool} {a : Nat} {m : Int} {c : Nat} (hc : 0 < c) (h : sg s * (a : Int) = m * (c : Int)) (b : Nat) (hb : m = 0 → b = 0) : sg s * (b : Int) = if m < 0 then -(b : Int) else (b : Int) := by
  have hci : (0 : Int) < (c : Int) := by omega
  have ha : (0 : Int) ≤ (a : Int) := by omega
  rcases Int.lt_trichotomy m 0 with hm | hm | hm
  · rw [if_pos hm]
    cases s
    · have h1 : m * (c : Int) < 0 := Int.mul_neg_of_neg_of_pos hm hci
      rw [← h] at h1; simp [sg] at h1; omega
    · simp [sg]
  · rw [hb hm]; simp
  · rw [if_neg (by omega)]
    cases s
    · simp [sg]
    · have h1 : 0 < m * (c : Int) := Int.mul_pos hm hci
      rw [← h] at h1; simp [sg] at h1; omega
/-- m / 2 ^ e, cut towards 0 -/
def cutI (m : Int) (e : Nat) : Int := if m < 0 then -((m.natAbs / 2 ^ e : Nat) : Int) else ((m.natAbs / 2 ^ e : Nat) : Int)
/-- m / 2 ^ e, rounded; a half goes away from 0 -/
def rndI (m : Int) (e : Nat) : Int := if m < 0 then -(((2 * m.natAbs + 2 ^ e) / 2 ^ (e + 1) : Nat) : Int) else (((2 * m.natAbs + 2 ^ e) / 2 ^ (e + 1) : Nat) : Int)
theorem toInt_V {k : FloatKind} {x : Nat} {m : Int} {e : Nat} (h : IsV k.format x m e) : (k.format.read x).toInt .zero = some (cutI m e) := by
  obtain ⟨s, mag, pl, hr, hpl, hv⟩ := h
  have hneg := (good k).neg
  rw [hr]
  unfold Datum.toInt Datum.integral
  simp only [cut_zero, Nat.shiftLeft_eq, signed_eq, Nat.pow_zero]
  have hn : mag * 2 ^ ((pl - k.format.leastPlace).toNat + e) = m.natAbs * 2 ^ (-k.format.leastPlace).toNat := by
    have h := congrArg Int.natAbs hv
    rw [Int.natAbs_mul, Int.natAbs_mul, sg_natAbs, Int.natAbs_mul, Int.natAbs_natCast, Int.natAbs_natCast, Int.natAbs_natCast, Int.natAbs_natCast, Nat.mul_assoc, ← Nat.pow_add] at h
    exact h
  have hs : sg s * ((mag * 2 ^ ((pl - k.format.leastPlace).toNat + e) : Nat) : Int) = m * ((2 ^ (-k.format.leastPlace).toNat : Nat) : Int) := by
    rw [← hv, Nat.pow_add]
    simp [Int.mul_assoc]
  have hq : mag * 2 ^ pl.toNat / 2 ^ (-pl).toNat = m.natAbs / 2 ^ e := by
    generalize k.format.leastPlace = L at *
    rcases Int.lt_or_le pl 0 with hp | hp
    · rw [show pl.toNat = 0 by omega, Nat.pow_zero, Nat.mul_one]
      refine div_cross (Nat.two_pow_pos _) (Nat.two_pow_pos _) ?_
      have e1 : (-L).toNat = (-pl).toNat + (pl - L).toNat := by omega
      rw [Nat.add_comm, e1, Nat.pow_add, Nat.pow_add, ← Nat.mul_assoc, ← Nat.mul_assoc] at hn
      exact (Nat.eq_of_mul_eq_mul_right (Nat.two_pow_pos _) hn)
    · rw [show (-pl).toNat = 0 by omega, Nat.pow_zero, Nat.div_one]
      have e1 : (pl - L).toNat + e = pl.toNat + e + (-L).toNat := by omega
      rw [e1, Nat.pow_add, ← Nat.mul_assoc, Nat.pow_add, ← Nat.mul_assoc] at hn
      have := Nat.eq_of_mul_eq_mul_right (Nat.two_pow_pos _) hn
      rw [← this, Nat.mul_div_cancel _ (Nat.two_pow_pos _)]
  rw [hq]
  have := sg_of (Nat.two_pow_pos (-k.format.leastPlace).toNat) hs (m.natAbs / 2 ^ e) (fun h0 => by rw [h0]; simp)
  unfold cutI
  rw [← this]; simp
theorem rnd_cross {m n : Int} {e g : Nat} (h : m * tp g = n * tp e) : rndI m e = rndI n g := by
  have ha : m.natAbs * 2 ^ g = n.natAbs * 2 ^ e := by
    have := congrArg Int.natAbs h
    rwa [Int.natAbs_mul, Int.natAbs_mul, Int.natAbs_natCast, Int.natAbs_natCast] at this
  have hs : m < 0 ↔ n < 0 := by
    have p1 := tp_pos e
    have p2 := tp_pos g
    constructor
    · intro hm
      have h1 : m * tp g < 0 := Int.mul_neg_of_neg_of_pos hm p2
      rw [h] at h1
      rcases Int.lt_or_le n 0 with h2 | h2
      · exact h2
      · have := Int.mul_nonneg h2 (Int.le_of_lt p1); omega
    · intro hn
      have h1 : n * tp e < 0 := Int.mul_neg_of_neg_of_pos hn p1
      rw [← h] at h1
      rcases Int.lt_or_le m 0 with h2 | h2
      · exact h2
      · have := Int.mul_nonneg h2 (Int.le_of_lt p2); omega
  have hq : (2 * m.natAbs + 2 ^ e) / 2 ^ (e + 1) = (2 * n.natAbs + 2 ^ g) / 2 ^ (g + 1) := by
    refine div_cross (Nat.two_pow_pos _) (Nat.two_pow_pos _) ?_
    have e1 : 2 ^ (g + 1) = 2 * 2 ^ g := by rw [Nat.pow_succ]; omega
    have e2 : 2 ^ (e + 1) = 2 * 2 ^ e := by rw [Nat.pow_succ]; omega
    rw [e1, e2, Nat.add_mul, Nat.add_mul]
    have e3 : 2 * m.natAbs * (2 * 2 ^ g) = 2 * n.natAbs * (2 * 2 ^ e) := by
      rw [Nat.mul_assoc, Nat.mul_assoc, Nat.mul_left_comm m.natAbs, Nat.mul_left_comm n.natAbs, ha]
    have e4 : 2 ^ e * (2 * 2 ^ g) = 2 ^ g * (2 * 2 ^ e) := by
      rw [Nat.mul_left_comm, Nat.mul_left_comm (2 ^ g), Nat.mul_comm (2 ^ e)]
    rw [e3, e4]
  unfold rndI
  rw [hq]
  by_cases hm : m < 0
  · rw [if_pos hm, if_pos (hs.1 hm)]
  · rw [if_neg hm, if_neg (fun h => hm (hs.2 h))]
/-- two readings of one word -/
theorem isV_same {f : Format} {x : Nat} {m n : Int} {e g : Nat} (h : IsV f x m e) (h' : IsV f x n g) : m * tp g = n * tp e := by
  obtain ⟨s, mag, pl, hr, hpl, hv⟩ := h
  obtain ⟨s', mag', pl', hr', hpl', hv'⟩ := h'
  rw [hr] at hr'
  injection hr' with e1 e2 e3
  subst e1 e2 e3
  have hp := tp_ne (-f.leastPlace).toNat
  have e1 : m * tp g * tp (-f.leastPlace).toNat = n * tp e * tp (-f.leastPlace).toNat := by
    have a1 := congrArg (· * tp g) hv
    have a2 := congrArg (· * tp e) hv'
    rw [Int.mul_right_comm m, ← a1, Int.mul_right_comm n, ← a2, Int.mul_right_comm]
  exact Int.eq_of_mul_eq_mul_right hp e1
theorem cut_rnd {m : Int} {e : Nat} : rndI m (e + 1) = if ((2 ^ e : Nat) : Int) ≤ m - cutI m (e + 1) * tp (e + 1) then cutI m (e + 1) + 1 else if m - cutI m (e + 1) * tp (e + 1) ≤ -((2 ^ e : Nat) : Int) then cutI m (e + 1) - 1 else cutI m (e + 1) := by
  have hp := Nat.two_pow_pos e
  have e2 : (2 : Nat) ^ (e + 1 + 1) = 2 * 2 ^ (e + 1) := by rw [Nat.pow_succ]; omega
  have e1 : (2 : Nat) ^ (e + 1) = 2 * 2 ^ e := by rw [Nat.pow_succ]; omega
  unfold rndI cutI tp
  rw [e2, ← Nat.div_div_eq_div_mul, show (2 * m.natAbs + 2 ^ (e + 1)) / 2 = m.natAbs + 2 ^ e by omega]
  have hd := Nat.div_add_mod m.natAbs (2 ^ (e + 1))
  have hm := Nat.mod_lt m.natAbs (Nat.two_pow_pos (e + 1))
  generalize m.natAbs / 2 ^ (e + 1) = Q at *
  generalize m.natAbs % 2 ^ (e + 1) = r at *
  have hq : (m.natAbs + 2 ^ e) / 2 ^ (e + 1) = if 2 ^ e ≤ r then Q + 1 else Q := by
    rw [← hd, Nat.add_assoc, Nat.mul_add_div (Nat.two_pow_pos _)]
    by_cases h : 2 ^ e ≤ r
    · rw [if_pos h, show r + 2 ^ e = 2 ^ (e + 1) + (r - 2 ^ e) by omega, Nat.add_div_left _ (Nat.two_pow_pos _), Nat.div_eq_of_lt (by omega)]
    · rw [if_neg h, Nat.div_eq_of_lt (by omega), Nat.add_zero]
  rw [hq]
  have hd' : ((2 ^ (e + 1) : Nat) : Int) * (Q : Int) + (r : Int) = (m.natAbs : Int) := by rw [← Int.natCast_mul, ← Int.natCast_add, hd]
  generalize hP : (2 ^ (e + 1) : Nat) = P at *
  generalize (2 ^ e : Nat) = p at *
  by_cases h0 : m < 0
  · rw [if_pos h0, if_pos h0]
    have e9 : m - -(Q : Int) * (P : Int) = -(r : Int) := by
      rw [Int.neg_mul, Int.mul_comm (Q : Int)]; omega
    rw [e9]
    by_cases h : p ≤ r
    · rw [if_pos h, if_neg (by omega), if_pos (by omega)]; omega
    · rw [if_neg h, if_neg (by omega), if_neg (by omega)]
  · rw [if_neg h0, if_neg h0]
    have e9 : m - (Q : Int) * (P : Int) = (r : Int) := by
      rw [Int.mul_comm (Q : Int)]; omega
    rw [e9]
    by_cases h : p ≤ r
    · rw [if_pos h, if_pos (by omega)]; omega
    · rw [if_neg h, if_neg (by omega), if_neg (by omega)]
theorem rnd_zero (m : Int) : rndI m 0 = m := by
  unfold rndI
  rw [Nat.pow_zero, Nat.pow_succ, Nat.pow_zero, show (2 * m.natAbs + 1) / (1 * 2) = m.natAbs by omega]
  split <;> omega
theorem cut_whole (m : Int) : cutI m 0 = m := by
  unfold cutI
  rw [Nat.pow_zero, Nat.div_one]
  split <;> omega
end Go.Fx
