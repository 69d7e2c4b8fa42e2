import Derived.Test.YtfmghfghhipmhaaDoorK1
import Derived.Test.YtfmghfghhipmhaaDoorSb
namespace Go.Fx
open Ieee
set_option linter.unusedVariables false
set_option linter.unusedSimpArgs false
/-! thousandths -/
theorem read_1000 : FloatKind.f64.format.read 4652007308841189376 = .number false (1000 * 2 ^ 43) (-43) := by decide +kernel
theorem log_1000 : (1000 * 2 ^ 43).log2 = 52 := by decide +kernel
theorem log_from {m a b c n : Nat} (h : m * 2 ^ a = n * 2 ^ b) (hn : n < 2 ^ c) (h0 : m ≠ 0) : m.log2 + a < c + b := by
  rw [← log2_mul_pow h0]
  refine log2_lt_of (Nat.mul_ne_zero h0 (by have := Nat.two_pow_pos a; omega)) ?_
  rw [h, Nat.pow_add]
  exact Nat.mul_lt_mul_of_pos_right hn (Nat.two_pow_pos _)
theorem int_read {n : Int} (hn : n.natAbs ≤ 1000000000) : ∃ s m i, FloatKind.f64.format.read (floatOfInt .f64 n) = .number s m i ∧ (m ≠ 0 → i + m.log2 < 30) := by
  obtain ⟨s, m, i, hr, hi, hv⟩ := isV_int (k := .f64) (n := n) (by show n.natAbs ≤ 2 ^ 53; omega)
  refine ⟨s, m, i, hr, fun h0 => ?_⟩
  have hl : FloatKind.f64.format.leastPlace = -1074 := by decide
  rw [hl] at hi hv
  have h := congrArg Int.natAbs hv
  rw [Int.natAbs_mul, Int.natAbs_mul, sg_natAbs, Int.natAbs_mul, Int.natAbs_natCast, Int.natAbs_natCast, Int.natAbs_natCast, Int.natAbs_natCast, Nat.pow_zero, Nat.mul_one] at h
  have h2 := log_from (c := 30) h (by omega) h0
  omega
theorem quot_1000 {s : Bool} {m : Nat} {i : Int} (digits : Nat) (hm : m ≠ 0 → i + m.log2 < 30) : ∃ m' i', (Datum.number s m i).quotient digits (.number false (1000 * 2 ^ 43) (-43)) = some (.number s m' i') ∧ (m' ≠ 0 → i' + m'.log2 < 22) := by
  unfold Datum.quotient
  simp only [if_neg (show ¬ (1000 * 2 ^ 43 = 0) by decide), log_1000, Bool.xor_false]
  refine ⟨_, _, rfl, fun h0 => ?_⟩
  generalize hmo : digits + 52 - m.log2 = more at *
  by_cases hm0 : m = 0
  · subst hm0; simp at h0
  · have hm := hm hm0
    have hlt : m <<< more / (1000 * 2 ^ 43) < 2 ^ (m.log2 + 1 + more - 52) ∨ m.log2 + 1 + more < 52 := by
      by_cases h : m.log2 + 1 + more < 52
      · exact .inr h
      · left
        rw [Nat.div_lt_iff_lt_mul (by decide), Nat.shiftLeft_eq]
        have h1 : m * 2 ^ more < 2 ^ (m.log2 + 1 + more) := by rw [Nat.pow_add]; exact Nat.mul_lt_mul_of_pos_right (lt_pow_log2 m) (Nat.two_pow_pos _)
        refine Nat.lt_of_lt_of_le h1 ?_
        have e : 2 ^ (m.log2 + 1 + more) = 2 ^ (m.log2 + 1 + more - 52) * 2 ^ 52 := by rw [← Nat.pow_add]; congr 1; omega
        rw [e]
        exact Nat.mul_le_mul_left _ (by decide)
    have hmore : 52 ≤ m.log2 + 1 + more := by omega
    have hlt := hlt.resolve_right (by omega)
    have hb : ∀ b : Bool, b.toNat ≤ 1 := by intro b; cases b <;> simp
    have h4 := log2_lt_of (k := m.log2 + 1 + more - 52 + 1) h0 (by
      rw [show 2 ^ (m.log2 + 1 + more - 52 + 1) = 2 ^ (m.log2 + 1 + more - 52) * 2 from Nat.pow_succ ..]
      generalize (m <<< more % _ != 0) = bb
      have := hb bb
      generalize 2 ^ (m.log2 + 1 + more - 52) = P at *
      omega)
    omega
theorem thou_bits {n : Int} (hn : n.natAbs ≤ 1000000000) : ∃ q, floatBits .quo .f64 (floatOfInt .f64 n) 4652007308841189376 = some q ∧ floatToFloatBits .f64 q .f32 = some (thou n) := by
  obtain ⟨s, m, i, hr, hm⟩ := int_read hn
  have hq : ∃ m' i', floatBits .quo .f64 (floatOfInt .f64 n) 4652007308841189376 = some (FloatKind.f64.format.nearest s m' i') ∧ (m' ≠ 0 → i' + m'.log2 < 22) := by
    unfold floatBits
    simp only
    unfold Format.div
    rw [hr, read_1000]
    obtain ⟨m', i', h1, h2⟩ := quot_1000 (s := s) (FloatKind.f64.format.fractionBits + 2) hm
    rw [h1]
    exact ⟨m', i', rfl, h2⟩
  obtain ⟨m', i', h1, h2⟩ := hq
  obtain ⟨m2, p2, hr2, hp2, hb2⟩ := nearest_bd FloatKind.f64.format s m' i' 22 h2 (by decide) (by decide) (by decide)
  refine ⟨_, h1, ?_⟩
  have hfop : fop .quo .f64 (floatOfInt .f64 n) 4652007308841189376 = FloatKind.f64.format.nearest s m' i' := by unfold fop; rw [h1]; rfl
  have hsome : ∃ r, floatToFloatBits .f64 (FloatKind.f64.format.nearest s m' i') .f32 = some r := by
    unfold floatToFloatBits
    rw [if_neg (by decide)]
    have hd : FloatKind.f64.decode (FloatKind.f64.format.nearest s m' i') = .number s m2 p2 := hr2
    rw [hd]
    have hfin := nearest_finite FloatKind.f32.format s m2 p2 (fun h0 => by
      have := hb2 h0
      have e1 : FloatKind.f32.format.leastPlace = -149 := by decide
      have e2 : FloatKind.f32.format.fractionBits = 23 := by decide
      have e3 : FloatKind.f32.format.exponentBits = 8 := by decide
      rw [e1, e2, e3]; omega) (by decide)
    have he : (FloatKind.f32.decode (FloatKind.f32.encode (.number s m2 p2))).isInfinity = false := hfin
    simp only [he, Bool.false_eq_true, if_false]
    exact ⟨_, rfl⟩
  obtain ⟨r, hr3⟩ := hsome
  rw [hr3]
  unfold thou fconv
  rw [hfop, hr3]; rfl
theorem thou_not {n : Int} (hn : n.natAbs ≤ 1000000000) : isN .f32 (thou n) = false := by
  obtain ⟨q, h1, h2⟩ := thou_bits hn
  unfold isN
  unfold floatToFloatBits at h2
  rw [if_neg (by decide)] at h2
  split at h2
  · cases h2
  · injection h2 with h2; rw [← h2]; exact read_write_not _ rfl
  · split at h2
    · cases h2
    · injection h2 with h2; rw [← h2]; exact read_write_not _ rfl
end Go.Fx
