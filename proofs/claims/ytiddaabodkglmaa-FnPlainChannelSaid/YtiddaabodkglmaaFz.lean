import Derived.Test.YtiddaabodkglmaaFy
namespace Go.Fx
open Ieee

/-- a constant's value, reckoned -/
def chkV (f : Format) (b : Nat) (m : Int) (e : Nat) : Bool :=
  match f.read b with
  | .number s mag pl => decide (f.leastPlace ≤ pl ∧ sg s * (mag : Int) * tp (pl - f.leastPlace).toNat * tp e = m * tp (-f.leastPlace).toNat)
  | _ => false
theorem isV_chk {f : Format} {b : Nat} {m : Int} {e : Nat} (h : chkV f b m e = true) : IsV f b m e := by
  unfold chkV at h
  split at h
  · rename_i s mag pl hr
    have := of_decide_eq_true h
    exact ⟨s, mag, pl, hr, this.1, this.2⟩
  · cases h

/-- a whole number as a float -/
theorem isV_int {k : FloatKind} {n : Int} (hn : n.natAbs ≤ 2 ^ (k.format.fractionBits + 1)) : IsV k.format (floatOfInt k n) n 0 := by
  have hneg := (good k).neg
  unfold floatOfInt FloatKind.nearest FloatKind.encode Format.write
  simp only
  refine isV_write _ (good k) _ _ _ k.format.leastPlace _ _ (by omega) hn hneg (Int.le_refl _) ?_
  have h1 := sg_abs n false
  have h2 : sg (decide (n < 0)) * (n.natAbs : Int) = n := by
    by_cases h : n < 0
    · simp [h, sg]; omega
    · simp [h, sg]; omega
  rw [h2, Int.zero_sub]
  simp

/-- the quotient by a power of two -/
theorem fop_quo {k : FloatKind} {x y : Nat} {m : Int} {e : Nat} (s' : Bool) (a : Nat) (pl' : Int) (hx : IsV k.format x m e) (hy : k.format.read y = .number s' (2 ^ a) pl') (e' : Nat)
    (he : (e' : Int) = e + (pl' + a)) (hle : (e' : Int) ≤ -k.format.leastPlace) (hm : m.natAbs ≤ 2 ^ (k.format.fractionBits + 1)) : IsV k.format (fop .quo k x y) (sg s' * m) e' := by
  obtain ⟨s, mag, pl, hr, hi, hv⟩ := hx
  have hneg := (good k).neg
  have hmag := read_mag k.format hr
  have hpl' := read_place k.format hy
  have ha : 2 ^ a ≠ 0 := by have := Nat.two_pow_pos a; omega
  unfold fop floatBits Format.div Datum.quotient
  simp only [hr, hy]
  rw [if_neg ha]
  simp only [Option.map_some, Option.getD_some, Nat.log2_two_pow]
  generalize hmore : k.format.fractionBits + 2 + a - mag.log2 = more
  have hl : mag ≠ 0 → mag.log2 ≤ k.format.fractionBits := fun h0 => by have := log2_lt_of h0 hmag; omega
  have hl0 : mag.log2 ≤ k.format.fractionBits := by
    by_cases h0 : mag = 0
    · subst h0; simp
    · exact hl h0
  have hma : a ≤ more := by omega
  have hdvd : mag <<< more = mag * 2 ^ (more - a) * 2 ^ a := by
    rw [Nat.shiftLeft_eq, Nat.mul_assoc, ← Nat.pow_add]; congr 2; omega
  rw [hdvd, Nat.mul_div_cancel _ (Nat.two_pow_pos a), Nat.mul_mod_left]
  unfold Format.write
  simp only [bne_self_eq_false, Bool.toNat_false, Nat.add_zero]
  have hB : ∃ B : Int, B ≤ pl - pl' - more - 1 ∧ B ≤ k.format.leastPlace := ⟨min (pl - pl' - more - 1) k.format.leastPlace, by omega, by omega⟩
  obtain ⟨B, hB1, hB2⟩ := hB
  refine isV_write _ (good k) _ _ _ B _ _ hle (by rw [sg_natAbs]; exact hm) hB1 hB2 ?_
  change sg s * (mag : Int) * tp (pl - k.format.leastPlace).toNat * tp e = m * tp (-k.format.leastPlace).toNat at hv
  change sg (s ^^ s') * ((2 * (mag * 2 ^ (more - a)) : Nat) : Int) * tp (pl - pl' - more - 1 - B).toNat * tp e' = sg s' * m * tp (-B).toNat
  have e1 : ((2 * (mag * 2 ^ (more - a)) : Nat) : Int) = (mag : Int) * tp (more - a + 1) := by
    rw [show (2 * (mag * 2 ^ (more - a)) : Nat) = mag * 2 ^ (more - a + 1) by rw [Nat.pow_succ]; simp [Nat.mul_comm, Nat.mul_left_comm]]
    exact Int.natCast_mul _ _
  rw [e1, sg_xor]
  -- both sides, times what makes the powers of one kind
  refine Int.eq_of_mul_eq_mul_right (tp_ne (-k.format.leastPlace).toNat) ?_
  have e2 : tp (more - a + 1) * tp (pl - pl' - more - 1 - B).toNat * tp e' * tp (-k.format.leastPlace).toNat = tp (pl - k.format.leastPlace).toNat * tp e * tp (-B).toNat := by
    rw [← tp_add, ← tp_add, ← tp_add, ← tp_add, ← tp_add]; congr 1; omega
  have e3 : sg s * sg s' * ((mag : Int) * tp (more - a + 1)) * tp (pl - pl' - more - 1 - B).toNat * tp e' * tp (-k.format.leastPlace).toNat =
      sg s * sg s' * (mag : Int) * (tp (more - a + 1) * tp (pl - pl' - more - 1 - B).toNat * tp e' * tp (-k.format.leastPlace).toNat) := by
    simp only [Int.mul_assoc]
  rw [e3, e2]
  generalize tp (pl - k.format.leastPlace).toNat = p1 at *
  generalize tp (-k.format.leastPlace).toNat = p2 at *
  generalize tp (-B).toNat = p3 at *
  generalize tp e = p4 at *
  clear e1 e2 e3 hdvd
  grind

/-! from one width to the other -/
/-- 'float64(x)' | 'float32(x)' where the language says what it is; a NaN: the one NaN -/
def fconv (s d : FloatKind) (b : Nat) : Nat := (floatToFloatBits s b d).getD (qn d)

theorem isV_conv {s d : FloatKind} {b : Nat} {m : Int} {e : Nat} (h : IsV s.format b m e) (he : (e : Int) ≤ -d.format.leastPlace) (hm : m.natAbs ≤ 2 ^ (d.format.fractionBits + 1)) :
    ∃ r, floatToFloatBits s b d = some r ∧ IsV d.format r m e := by
  by_cases hsd : s = d
  · subst hsd
    exact ⟨b, by simp [floatToFloatBits], h⟩
  · obtain ⟨t, mag, pl, hr, hi, hv⟩ := h
    have hB : ∃ B : Int, B ≤ pl ∧ B ≤ d.format.leastPlace ∧ B ≤ s.format.leastPlace := ⟨min pl (min d.format.leastPlace s.format.leastPlace), by omega, by omega, by omega⟩
    obtain ⟨B, hB1, hB2, hB3⟩ := hB
    have hneg := (good s).neg
    have hw : IsV d.format (d.format.nearest t mag pl) m e := by
      refine isV_write _ (good d) _ _ _ B _ _ he hm hB1 hB2 ?_
      change sg t * (mag : Int) * tp (pl - s.format.leastPlace).toNat * tp e = m * tp (-s.format.leastPlace).toNat at hv
      change sg t * (mag : Int) * tp (pl - B).toNat * tp e = m * tp (-B).toNat
      have e1 : tp (pl - B).toNat = tp (pl - s.format.leastPlace).toNat * tp (s.format.leastPlace - B).toNat := by rw [← tp_add]; congr 1; omega
      have e2 : tp (-B).toNat = tp (-s.format.leastPlace).toNat * tp (s.format.leastPlace - B).toNat := by rw [← tp_add]; congr 1; omega
      rw [e1, e2, ← Int.mul_assoc m, ← hv]
      grind
    refine ⟨d.format.nearest t mag pl, ?_, hw⟩
    unfold floatToFloatBits FloatKind.decode
    rw [if_neg hsd, hr]
    simp only
    obtain ⟨t', mag', pl', hr', _, _⟩ := hw
    unfold FloatKind.encode Format.write
    simp only [hr']
    rfl

theorem isV_fconv {s d : FloatKind} {b : Nat} {m : Int} {e : Nat} (h : IsV s.format b m e) (he : (e : Int) ≤ -d.format.leastPlace) (hm : m.natAbs ≤ 2 ^ (d.format.fractionBits + 1)) : IsV d.format (fconv s d b) m e := by
  obtain ⟨r, hr, hv⟩ := isV_conv h he hm
  unfold fconv; rw [hr]; exact hv

end Go.Fx
