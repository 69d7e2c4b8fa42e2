import Derived.Laws.FloatBits
import Derived.Laws.FloatArith
import Derived.Deep.Draws
import Derived.WalkKit
import Derived.WalkLawsBesides
import Derived.Deep.QuietTactic
import Derived.BigQuiet
import Derived.Deep.RegionWith
import Derived.Deep.RegionHeld3
import Derived.Deep.DeepMust
import Derived.Deep.LoopGhost
import Derived.Deep.DeepFit
import Derived.Outline
import Derived.Lib.Hide
import Derived.Maps.AppendAt
import Derived.Deep.AppendLies
section
namespace Go.Fx
open Ieee

/-- the sign as a number -/
def sg (s : Bool) : Int := if s then -1 else 1

theorem signed_eq (s : Bool) (m u : Nat) : signed s m u = sg s * (m : Int) * ((2 ^ u : Nat) : Int) := by
  unfold signed sg
  rw [Nat.shiftLeft_eq]
  cases s <;> simp [Int.natCast_mul, Int.neg_mul]

theorem sg_sq (s : Bool) : sg s * sg s = 1 := by cases s <;> rfl
theorem sg_xor (s t : Bool) : sg (s ^^ t) = sg s * sg t := by cases s <;> cases t <;> rfl
theorem sg_not (s : Bool) : sg (!s) = - sg s := by cases s <;> rfl

theorem log2_lt_of {m k : Nat} (h0 : m ≠ 0) (h : m < 2 ^ k) : m.log2 < k := (Nat.log2_lt h0).2 h
theorem pow_log2_le {m : Nat} (h0 : m ≠ 0) : 2 ^ m.log2 ≤ m := Nat.log2_self_le h0
theorem lt_pow_log2 (m : Nat) : m < 2 ^ (m.log2 + 1) := Nat.lt_log2_self

theorem log2_mul_pow {m : Nat} (h0 : m ≠ 0) (k : Nat) : (m * 2 ^ k).log2 = m.log2 + k := by
  have hp : 0 < 2 ^ k := Nat.two_pow_pos k
  have h1 : m * 2 ^ k ≠ 0 := Nat.mul_ne_zero h0 (by omega)
  have ha : 2 ^ (m.log2 + k) ≤ m * 2 ^ k := by
    rw [Nat.pow_add]; exact Nat.mul_le_mul_right _ (pow_log2_le h0)
  have hb : m * 2 ^ k < 2 ^ (m.log2 + k + 1) := by
    have := lt_pow_log2 m
    have e : 2 ^ (m.log2 + k + 1) = 2 ^ (m.log2 + 1) * 2 ^ k := by rw [← Nat.pow_add]; congr 1; omega
    rw [e]; exact Nat.mul_lt_mul_of_pos_right this hp
  have h2 := (Nat.le_log2 h1).2 ha
  have h3 := (Nat.log2_lt h1).2 hb
  omega

/-- cutting what is whole -/
theorem cut_exact (way : Toward) (neg : Bool) (n drop : Nat) (hd : drop ≤ n.log2 + 2) (h : 2 ^ drop ∣ n) : way.cut neg n drop = n / 2 ^ drop := by
  have hm : min drop (n.log2 + 2) = drop := Nat.min_eq_left hd
  have hr : n % 2 ^ drop = 0 := Nat.mod_eq_zero_of_dvd h
  have hp : 0 < 2 ^ drop := Nat.two_pow_pos drop
  unfold Toward.cut
  simp only [hm, Nat.shiftLeft_eq, Nat.one_mul, hr]
  cases way <;> simp <;> omega

/-- the format has room for what a number of so many digits is -/
structure Good (f : Format) : Prop where
  frac : 1 ≤ f.fractionBits
  exp : 2 ≤ f.exponentBits
  neg : f.leastPlace ≤ 0
  room : (3 : Int) < f.leastPlace + 2 ^ f.exponentBits - 1

theorem good_single : Good single := ⟨by decide, by decide, by decide, by decide⟩
theorem good_double : Good double := ⟨by decide, by decide, by decide, by decide⟩

theorem word_read_lt (f : Format) (neg : Bool) {rung : Nat} (h : rung < f.signWeight) : f.word neg rung / f.signWeight % 2 == 1 ↔ neg = true := by
  have hp : 0 < f.signWeight := Nat.two_pow_pos _
  unfold Format.word
  cases neg
  · simp [Nat.div_eq_of_lt h]
  · simp [Nat.add_div_left _ hp, Nat.div_eq_of_lt h]

theorem word_read_mod (f : Format) (neg : Bool) {rung : Nat} (h : rung < f.signWeight) : f.word neg rung % f.signWeight = rung := by
  unfold Format.word
  cases neg
  · simp [Nat.mod_eq_of_lt h]
  · simp [Nat.mod_eq_of_lt h]

theorem read_word (f : Format) (neg : Bool) {rung : Nat} (h : rung < f.signWeight) :
    f.read (f.word neg rung) = if rung < f.binade then .number neg rung f.leastPlace
      else if rung < f.infRung then .number neg (f.binade + rung % f.binade) (f.leastPlace + (rung / f.binade - 1 : Nat))
      else if rung = f.infRung then .infinity neg else .nan neg (rung - f.infRung) := by
  have h1 := word_read_lt f neg h
  have hn : (f.word neg rung / f.signWeight % 2 == 1) = neg := by
    cases neg
    · cases hb : (f.word false rung / f.signWeight % 2 == 1)
      · rfl
      · rw [hb] at h1; simp at h1
    · simpa using h1
  unfold Format.read
  simp only [hn, word_read_mod f neg h]

/-- A number that the format has is written as it is. 'mag = m * 2 ^ k', m of at most fractionBits + 1 digits. -/
theorem read_nearest (f : Format) (hf : Good f) (neg : Bool) (m k : Nat) (place : Int) (hm : m < 2 ^ (f.fractionBits + 1)) (hlo : f.leastPlace ≤ place + k)
    (hhi : m ≠ 0 → place + k + m.log2 + 1 < f.leastPlace + f.fractionBits + 2 ^ f.exponentBits - 1) :
    ∃ m' p', f.read (f.nearest neg (m * 2 ^ k) place) = .number neg m' p' ∧ f.leastPlace ≤ p' ∧ m' * 2 ^ (p' - f.leastPlace).toNat = m * 2 ^ (place + k - f.leastPlace).toNat := by
  have hsw : 0 < f.signWeight := Nat.two_pow_pos _
  have hbin : 0 < f.binade := Nat.two_pow_pos _
  have hir := f.infRung_lt
  by_cases h0 : m = 0
  · subst h0
    refine ⟨0, f.leastPlace, ?_, Int.le_refl _, by simp⟩
    unfold Format.nearest
    simp only [Nat.zero_mul, if_true]
    rw [read_word f neg hsw, if_pos hbin]
  · have hmag : m * 2 ^ k ≠ 0 := Nat.mul_ne_zero h0 (by have := Nat.two_pow_pos k; omega)
    have hl := log2_mul_pow h0 k
    have hlm : m.log2 ≤ f.fractionBits := by have := log2_lt_of h0 hm; omega
    have hhi := hhi h0
    unfold Format.nearest
    rw [if_neg hmag]
    simp only [hl]
    generalize hlast : max (place + ((m.log2 + k : Nat) : Int) - f.fractionBits) f.leastPlace = last
    have hll : f.leastPlace ≤ last := by omega
    have hlp : last ≤ place + k := by omega
    -- what is kept
    have hkept : Toward.even.cut neg ((m * 2 ^ k) <<< (place - last).toNat) (last - place).toNat = m * 2 ^ (place + k - last).toNat := by
      by_cases hc : last ≤ place
      · have e1 : (last - place).toNat = 0 := by omega
        rw [e1, cut_exact _ _ _ _ (Nat.zero_le _) (by simp)]
        rw [Nat.shiftLeft_eq, Nat.pow_zero, Nat.div_one, Nat.mul_assoc, ← Nat.pow_add]
        congr 2
        omega
      · have e1 : (place - last).toNat = 0 := by omega
        have hdk : (last - place).toNat ≤ k := by omega
        rw [e1, Nat.shiftLeft_eq, Nat.pow_zero, Nat.mul_one]
        have hd : 2 ^ (last - place).toNat ∣ m * 2 ^ k := Nat.dvd_trans (Nat.pow_dvd_pow 2 hdk) (Nat.dvd_mul_left _ _)
        rw [cut_exact _ _ _ _ (by rw [hl]; omega) hd]
        have e2 : 2 ^ k = 2 ^ (place + k - last).toNat * 2 ^ (last - place).toNat := by rw [← Nat.pow_add]; congr 1; omega
        rw [e2, ← Nat.mul_assoc]
        exact Nat.mul_div_cancel _ (Nat.two_pow_pos _)
    rw [hkept]
    by_cases hn : f.leastPlace ≤ place + ((m.log2 + k : Nat) : Int) - f.fractionBits
    · -- a normal number
      have hlast' : last = place + ((m.log2 + k : Nat) : Int) - f.fractionBits := by omega
      have eq1 : (place + k - last).toNat = f.fractionBits - m.log2 := by omega
      rw [eq1]
      generalize hkk : m * 2 ^ (f.fractionBits - m.log2) = kept
      have hk1 : f.binade ≤ kept := by
        rw [← hkk]; unfold Format.binade
        have e : 2 ^ f.fractionBits = 2 ^ m.log2 * 2 ^ (f.fractionBits - m.log2) := by rw [← Nat.pow_add]; congr 1; omega
        rw [e]; exact Nat.mul_le_mul_right _ (pow_log2_le h0)
      have hk2 : kept < 2 * f.binade := by
        rw [← hkk]; unfold Format.binade
        have e : 2 * 2 ^ f.fractionBits = 2 ^ (m.log2 + 1) * 2 ^ (f.fractionBits - m.log2) := by rw [← Nat.pow_add, ← Nat.pow_succ']; congr 1; omega
        rw [e]; exact Nat.mul_lt_mul_of_pos_right (lt_pow_log2 m) (Nat.two_pow_pos _)
      generalize hq : (last - f.leastPlace).toNat = q
      have hqq : (q : Int) = last - f.leastPlace := by omega
      have hpe : ((2 ^ f.exponentBits : Nat) : Int) = 2 ^ f.exponentBits := by simp
      have hq2 : q + 2 < 2 ^ f.exponentBits := by omega
      have hrung : q * f.binade + kept < f.infRung := by
        unfold Format.infRung
        have h3 : (q + 2) * f.binade ≤ (2 ^ f.exponentBits - 1) * f.binade := Nat.mul_le_mul_right _ (by omega)
        have h4 : (q + 2) * f.binade = q * f.binade + 2 * f.binade := Nat.add_mul ..
        omega
      rw [Nat.min_eq_left (Nat.le_of_lt hrung), read_word f neg (Nat.lt_trans hrung hir)]
      have e5 : q * f.binade + kept = (kept - f.binade) + f.binade * (q + 1) := by rw [Nat.mul_add, Nat.mul_one, Nat.mul_comm f.binade q]; omega
      have hnb : ¬ q * f.binade + kept < f.binade := by omega
      rw [if_neg hnb, if_pos hrung, e5, Nat.add_mul_mod_self_left, Nat.add_mul_div_left _ _ hbin, Nat.mod_eq_of_lt (by omega), Nat.div_eq_of_lt (by omega)]
      refine ⟨_, _, rfl, by omega, ?_⟩
      have e6 : f.binade + (kept - f.binade) = kept := by omega
      have e7 : (f.leastPlace + ((0 + (q + 1) - 1 : Nat) : Int) - f.leastPlace).toNat = q := by omega
      rw [e6, e7, ← hkk, Nat.mul_assoc, ← Nat.pow_add]
      congr 2
      omega
    · -- a subnormal one
      have hlast' : last = f.leastPlace := by omega
      have hq : (last - f.leastPlace).toNat = 0 := by omega
      rw [hq, hlast', Nat.zero_mul, Nat.zero_add]
      have hk2 : m * 2 ^ (place + k - f.leastPlace).toNat < f.binade := by
        unfold Format.binade
        have h1 := lt_pow_log2 m
        have h2 : m * 2 ^ (place + k - f.leastPlace).toNat < 2 ^ (m.log2 + 1) * 2 ^ (place + k - f.leastPlace).toNat := Nat.mul_lt_mul_of_pos_right h1 (Nat.two_pow_pos _)
        rw [← Nat.pow_add] at h2
        exact Nat.lt_of_lt_of_le h2 (Nat.pow_le_pow_right (by omega) (by omega))
      have hb : f.binade ≤ f.infRung := by
        unfold Format.infRung
        have h3 : 2 ≤ 2 ^ f.exponentBits := by
          have := Nat.pow_le_pow_right (n := 2) (by omega) hf.exp
          omega
        exact Nat.le_mul_of_pos_left _ (by omega)
      rw [Nat.min_eq_left (by omega), read_word f neg (by omega), if_pos hk2]
      exact ⟨_, _, rfl, Int.le_refl _, by simp⟩

/-- '2 ^ k', as an integer -/
abbrev tp (k : Nat) : Int := ((2 ^ k : Nat) : Int)
theorem tp_add (a b : Nat) : tp (a + b) = tp a * tp b := by unfold tp; rw [Nat.pow_add, Int.natCast_mul]
theorem tp_pos (a : Nat) : 0 < tp a := by unfold tp; have := Nat.two_pow_pos a; omega
theorem tp_ne (a : Nat) : tp a ≠ 0 := by have := tp_pos a; omega

/-- The word 'b' stands for the number 'm / 2 ^ e'. -/
def IsV (f : Format) (b : Nat) (m : Int) (e : Nat) : Prop :=
  ∃ s mag pl, f.read b = .number s mag pl ∧ f.leastPlace ≤ pl ∧ sg s * (mag : Int) * ((2 ^ (pl - f.leastPlace).toNat : Nat) : Int) * ((2 ^ e : Nat) : Int) = m * ((2 ^ (-f.leastPlace).toNat : Nat) : Int)

theorem sg_natAbs (s : Bool) (x : Int) : (sg s * x).natAbs = x.natAbs := by cases s <;> simp [sg]

theorem isV_write (f : Format) (hf : Good f) (neg : Bool) (mag : Nat) (place B : Int) (m : Int) (e : Nat) (he : (e : Int) ≤ -f.leastPlace) (hm : m.natAbs ≤ 2 ^ (f.fractionBits + 1)) (hB : B ≤ place) (hB0 : B ≤ f.leastPlace)
    (hv : sg neg * (mag : Int) * ((2 ^ (place - B).toNat : Nat) : Int) * ((2 ^ e : Nat) : Int) = m * ((2 ^ (-B).toNat : Nat) : Int)) : IsV f (f.nearest neg mag place) m e := by
  have hneg := hf.neg
  -- the same of natural numbers
  have hn : mag * 2 ^ ((place - B).toNat + e) = m.natAbs * 2 ^ (-B).toNat := by
    have h := congrArg Int.natAbs hv
    rw [Int.natAbs_mul, Int.natAbs_mul, sg_natAbs, Int.natAbs_mul, Int.natAbs_natCast, Int.natAbs_natCast, Int.natAbs_natCast, Int.natAbs_natCast, Nat.mul_assoc, ← Nat.pow_add] at h
    exact h
  -- mag = m0 * 2 ^ k
  obtain ⟨m0, k, hmk, hm0, hpk, hhi⟩ : ∃ m0 k : Nat, mag = m0 * 2 ^ k ∧ m0 < 2 ^ (f.fractionBits + 1) ∧ f.leastPlace ≤ place + k ∧ (m0 ≠ 0 → place + k + m0.log2 ≤ f.fractionBits + 1) := by
    by_cases hpe : place + e ≤ 0
    · have e1 : (-B).toNat = (-(place + e)).toNat + ((place - B).toNat + e) := by omega
      rw [e1, Nat.pow_add (n := ((place - B).toNat + e)), ← Nat.mul_assoc] at hn
      have hmag : mag = m.natAbs * 2 ^ (-(place + e)).toNat := Nat.eq_of_mul_eq_mul_right (Nat.two_pow_pos _) hn
      by_cases hlt : m.natAbs < 2 ^ (f.fractionBits + 1)
      · refine ⟨m.natAbs, _, hmag, hlt, by omega, fun h0 => ?_⟩
        have := log2_lt_of h0 hlt
        omega
      · have heq : m.natAbs = 2 ^ (f.fractionBits + 1) := by omega
        refine ⟨2 ^ f.fractionBits, (-(place + e)).toNat + 1, ?_, Nat.pow_lt_pow_right (by omega) (by omega), by omega, fun _ => ?_⟩
        · rw [hmag, heq, Nat.pow_succ, Nat.pow_succ]; simp [Nat.mul_assoc, Nat.mul_comm, Nat.mul_left_comm]
        · rw [Nat.log2_two_pow]; omega
    · have e1 : (place - B).toNat + e = (place + e).toNat + (-B).toNat := by omega
      rw [e1, Nat.pow_add, ← Nat.mul_assoc] at hn
      have hmag : mag * 2 ^ (place + e).toNat = m.natAbs := Nat.eq_of_mul_eq_mul_right (Nat.two_pow_pos _) hn
      have h2 : mag * 2 ≤ m.natAbs := by
        rw [← hmag]; exact Nat.mul_le_mul_left _ (by have := Nat.pow_le_pow_right (n := 2) (by omega) (show 1 ≤ (place + e).toNat by omega); omega)
      refine ⟨mag, 0, by simp, ?_, by omega, fun h0 => ?_⟩
      · have := Nat.two_pow_pos (f.fractionBits + 1); omega
      · have h3 : (mag * 2 ^ (place + e).toNat).log2 ≤ f.fractionBits + 1 := by
          rw [hmag]
          have h4 : m.natAbs ≠ 0 := by have : 0 < mag := Nat.pos_of_ne_zero h0; omega
          have h5 : m.natAbs < 2 ^ (f.fractionBits + 2) := Nat.lt_of_le_of_lt hm (Nat.pow_lt_pow_right (by omega) (by omega))
          have := log2_lt_of h4 h5
          omega
        rw [log2_mul_pow h0] at h3
        omega
  subst hmk
  have hroom := hf.room
  obtain ⟨m', p', hr, hp', heq⟩ := read_nearest f hf neg m0 k place hm0 hpk (fun h0 => by have := hhi h0; omega)
  refine ⟨neg, m', p', hr, hp', ?_⟩
  have h1 : (m' : Int) * ((2 ^ (p' - f.leastPlace).toNat : Nat) : Int) = (m0 : Int) * ((2 ^ (place + k - f.leastPlace).toNat : Nat) : Int) := by
    rw [← Int.natCast_mul, ← Int.natCast_mul, heq]
  rw [Int.mul_assoc (sg neg), h1]
  -- the equation, times what is missing
  have h2 : ((2 ^ (f.leastPlace - B).toNat : Nat) : Int) ≠ 0 := by have := Nat.two_pow_pos (f.leastPlace - B).toNat; omega
  refine Int.eq_of_mul_eq_mul_right h2 ?_
  have e3 : tp (-B).toNat = tp (-f.leastPlace).toNat * tp (f.leastPlace - B).toNat := by rw [← tp_add]; congr 1; omega
  have e5 : tp k * tp (place - B).toNat = tp (place + k - f.leastPlace).toNat * tp (f.leastPlace - B).toNat := by rw [← tp_add, ← tp_add]; congr 1; omega
  change sg neg * ((m0 * 2 ^ k : Nat) : Int) * tp (place - B).toNat * tp e = m * tp (-B).toNat at hv
  change sg neg * ((m0 : Int) * tp (place + k - f.leastPlace).toNat) * tp e * tp (f.leastPlace - B).toNat = m * tp (-f.leastPlace).toNat * tp (f.leastPlace - B).toNat
  have e6 : ((m0 * 2 ^ k : Nat) : Int) = (m0 : Int) * tp k := Int.natCast_mul _ _
  rw [e3, ← Int.mul_assoc, e6] at hv
  rw [← hv]
  generalize tp k = a at *
  generalize tp (place - B).toNat = b at *
  generalize tp (place + k - f.leastPlace).toNat = c at *
  generalize tp (f.leastPlace - B).toNat = d at *
  generalize tp e = z at *
  generalize sg neg = y at *
  generalize (m0 : Int) = x at *
  clear hv h1 h2 e3 e6
  grind

theorem read_place (f : Format) {b : Nat} {s : Bool} {m : Nat} {p : Int} (h : f.read b = .number s m p) : f.leastPlace ≤ p := by
  unfold Format.read at h
  simp only at h
  split at h
  · cases h; exact Int.le_refl _
  · split at h
    · cases h; omega
    · split at h <;> cases h

theorem read_mag (f : Format) {b : Nat} {s : Bool} {m : Nat} {p : Int} (h : f.read b = .number s m p) : m < 2 ^ (f.fractionBits + 1) := by
  have hb : 0 < f.binade := Nat.two_pow_pos _
  have e : 2 ^ (f.fractionBits + 1) = 2 * f.binade := by unfold Format.binade; rw [Nat.pow_succ]; omega
  rw [e]
  unfold Format.read at h
  simp only at h
  split at h
  · cases h; omega
  · split at h
    · cases h; have := Nat.mod_lt (b % f.signWeight) hb; omega
    · split at h <;> cases h

theorem sg_abs (total : Int) (s : Bool) : sg (if total = 0 then s else decide (total < 0)) * (total.natAbs : Int) = total := by
  by_cases h : total = 0
  · subst h; simp
  · rw [if_neg h]
    by_cases h1 : total < 0
    · simp [h1, sg]; omega
    · simp [h1, sg]; omega

theorem isV_sum (f : Format) (hf : Good f) (s t : Bool) (a b : Nat) (i j : Int) (hi : f.leastPlace ≤ i) (hj : f.leastPlace ≤ j) {m n : Int} {e : Nat} (he : (e : Int) ≤ -f.leastPlace)
    (hx : sg s * (a : Int) * tp (i - f.leastPlace).toNat * tp e = m * tp (-f.leastPlace).toNat) (hy : sg t * (b : Int) * tp (j - f.leastPlace).toNat * tp e = n * tp (-f.leastPlace).toNat)
    (hm : (m + n).natAbs ≤ 2 ^ (f.fractionBits + 1)) : ∃ d, (Datum.number s a i).sum (Datum.number t b j) = some d ∧ IsV f (f.write d) (m + n) e := by
  refine ⟨_, rfl, ?_⟩
  simp only [signed_eq]
  unfold Format.write
  simp only
  refine isV_write f hf _ _ _ f.leastPlace _ e he hm (by omega) (Int.le_refl _) ?_
  rw [sg_abs]
  have e1 : tp (i - min i j).toNat * tp (min i j - f.leastPlace).toNat = tp (i - f.leastPlace).toNat := by rw [← tp_add]; congr 1; omega
  have e2 : tp (j - min i j).toNat * tp (min i j - f.leastPlace).toNat = tp (j - f.leastPlace).toNat := by rw [← tp_add]; congr 1; omega
  change (sg s * (a : Int) * tp (i - min i j).toNat + sg t * (b : Int) * tp (j - min i j).toNat) * tp (min i j - f.leastPlace).toNat * tp e = (m + n) * tp (-f.leastPlace).toNat
  rw [Int.add_mul m n, ← hx, ← hy, ← e1, ← e2]
  generalize tp (i - min i j).toNat = p1
  generalize tp (j - min i j).toNat = p2
  generalize tp (min i j - f.leastPlace).toNat = p3
  generalize tp e = p4
  grind

theorem isV_add {f : Format} (hf : Good f) {x y : Nat} {m n : Int} {e : Nat} (hx : IsV f x m e) (hy : IsV f y n e) (he : (e : Int) ≤ -f.leastPlace) (hm : (m + n).natAbs ≤ 2 ^ (f.fractionBits + 1)) :
    ∃ r, f.add x y = some r ∧ IsV f r (m + n) e := by
  obtain ⟨s, a, i, hr, hi, hv⟩ := hx
  obtain ⟨t, b, j, hr', hj, hv'⟩ := hy
  obtain ⟨d, hd, hv⟩ := isV_sum f hf s t a b i j hi hj he hv hv' hm
  exact ⟨f.write d, by unfold Format.add; rw [hr, hr', hd]; rfl, hv⟩

theorem isV_sub {f : Format} (hf : Good f) {x y : Nat} {m n : Int} {e : Nat} (hx : IsV f x m e) (hy : IsV f y n e) (he : (e : Int) ≤ -f.leastPlace) (hm : (m - n).natAbs ≤ 2 ^ (f.fractionBits + 1)) :
    ∃ r, f.sub x y = some r ∧ IsV f r (m - n) e := by
  obtain ⟨s, a, i, hr, hi, hv⟩ := hx
  obtain ⟨t, b, j, hr', hj, hv'⟩ := hy
  obtain ⟨d, hd, hv⟩ := isV_sum f hf s (!t) a b i j hi hj he (n := -n) hv (by rw [sg_not, Int.neg_mul, Int.neg_mul, Int.neg_mul, hv', Int.neg_mul]) (by rw [← Int.sub_eq_add_neg]; exact hm)
  exact ⟨f.write d, by unfold Format.sub; rw [hr, hr']; unfold Datum.opposite; rw [hd]; rfl, by rw [Int.sub_eq_add_neg]; exact hv⟩

theorem isV_mul {f : Format} (hf : Good f) {x y : Nat} {m n : Int} {e g : Nat} (hx : IsV f x m e) (hy : IsV f y n g) (he : ((e + g : Nat) : Int) ≤ -f.leastPlace) (hm : (m * n).natAbs ≤ 2 ^ (f.fractionBits + 1)) :
    ∃ r, f.mul x y = some r ∧ IsV f r (m * n) (e + g) := by
  obtain ⟨s, a, i, hr, hi, hv⟩ := hx
  obtain ⟨t, b, j, hr', hj, hv'⟩ := hy
  refine ⟨f.nearest (s ^^ t) (a * b) (i + j), by unfold Format.mul; rw [hr, hr']; rfl, ?_⟩
  have hneg := hf.neg
  refine isV_write f hf _ _ _ (f.leastPlace + f.leastPlace) _ _ he hm (by omega) (by omega) ?_
  have e1 : tp (i + j - (f.leastPlace + f.leastPlace)).toNat = tp (i - f.leastPlace).toNat * tp (j - f.leastPlace).toNat := by rw [← tp_add]; congr 1; omega
  have e2 : tp (-(f.leastPlace + f.leastPlace)).toNat = tp (-f.leastPlace).toNat * tp (-f.leastPlace).toNat := by rw [← tp_add]; congr 1; omega
  change sg (s ^^ t) * ((a * b : Nat) : Int) * tp (i + j - (f.leastPlace + f.leastPlace)).toNat * tp (e + g) = m * n * tp (-(f.leastPlace + f.leastPlace)).toNat
  rw [e1, e2, tp_add, sg_xor, Int.natCast_mul]
  have := congrArg (· * (n * tp (-f.leastPlace).toNat)) hv
  change sg s * (a : Int) * tp (i - f.leastPlace).toNat * tp e * (n * tp (-f.leastPlace).toNat) = m * tp (-f.leastPlace).toNat * (n * tp (-f.leastPlace).toNat) at this
  change sg t * (b : Int) * tp (j - f.leastPlace).toNat * tp g = n * tp (-f.leastPlace).toNat at hv'
  rw [← hv'] at this
  generalize tp (-f.leastPlace).toNat = q at *
  generalize tp (i - f.leastPlace).toNat = q1 at *
  generalize tp (j - f.leastPlace).toNat = q2 at *
  generalize tp e = q3 at *
  generalize tp g = q4 at *
  grind

/-- The scale may be made finer. -/
theorem IsV.finer {f : Format} {x : Nat} {m : Int} {e : Nat} (h : IsV f x m e) (k : Nat) : IsV f x (m * tp k) (e + k) := by
  obtain ⟨s, a, i, hr, hi, hv⟩ := h
  refine ⟨s, a, i, hr, hi, ?_⟩
  change sg s * (a : Int) * tp (i - f.leastPlace).toNat * tp (e + k) = m * tp k * tp (-f.leastPlace).toNat
  change sg s * (a : Int) * tp (i - f.leastPlace).toNat * tp e = m * tp (-f.leastPlace).toNat at hv
  rw [tp_add, ← Int.mul_assoc, hv]
  grind

theorem IsV.coarser {f : Format} {x : Nat} {m : Int} {e k : Nat} (h : IsV f x (m * tp k) (e + k)) : IsV f x m e := by
  obtain ⟨s, a, i, hr, hi, hv⟩ := h
  refine ⟨s, a, i, hr, hi, ?_⟩
  change sg s * (a : Int) * tp (i - f.leastPlace).toNat * tp (e + k) = m * tp k * tp (-f.leastPlace).toNat at hv
  change sg s * (a : Int) * tp (i - f.leastPlace).toNat * tp e = m * tp (-f.leastPlace).toNat
  refine Int.eq_of_mul_eq_mul_right (tp_ne k) ?_
  rw [tp_add] at hv
  grind

end Go.Fx
end
section
namespace Go.Fx
open Ieee

/-! NaNs as one -/

/-- the word of a NaN that stands for all -/
def qn : FloatKind → Nat
  | .f32 => 0x7fc00000
  | .f64 => 0x7ff8000000000000

def isN (k : FloatKind) (b : Nat) : Bool := (k.format.read b).isNaN

/-- the bits, all NaNs made one -/
def cn (k : FloatKind) (b : Nat) : Nat := if isN k b then qn k else b

theorem good (k : FloatKind) : Good k.format := by cases k; exact good_single; exact good_double

theorem isN_qn (k : FloatKind) : isN k (qn k) = true := by cases k <;> decide +kernel

theorem isN_cn (k : FloatKind) (b : Nat) : isN k (cn k b) = isN k b := by
  unfold cn
  split
  · rename_i h; rw [isN_qn, h]
  · rfl

theorem cn_cn (k : FloatKind) (b : Nat) : cn k (cn k b) = cn k b := by
  unfold cn
  by_cases h : isN k b = true
  · rw [if_pos h, if_pos (isN_qn k)]
  · rw [if_neg h, if_neg h]

theorem cn_of_not {k : FloatKind} {b : Nat} (h : isN k b = false) : cn k b = b := by simp [cn, h]
theorem cn_of_nan {k : FloatKind} {b : Nat} (h : isN k b = true) : cn k b = qn k := by simp [cn, h]

theorem binade_pos (f : Format) : 0 < f.binade := Nat.two_pow_pos _
theorem read_word_le (f : Format) (neg : Bool) {rung : Nat} (h : rung ≤ f.infRung) : (f.read (f.word neg rung)).isNaN = false := by
  have hir := f.infRung_lt
  rw [read_word f neg (by omega)]
  split
  · rfl
  · split
    · rfl
    · rw [if_pos (by omega)]; rfl

theorem read_write_not (f : Format) {d : Datum} (h : d.isNaN = false) : (f.read (f.write d)).isNaN = false := by
  cases d with
  | nan s m => cases h
  | infinity s => exact read_word_le f s (Nat.le_refl _)
  | number s m p =>
    unfold Format.write Format.nearest
    simp only
    split
    · exact read_word_le f s (Nat.zero_le _)
    · exact read_word_le f s (Nat.min_le_right ..)

theorem sum_not {d e r : Datum} (h : d.sum e = some r) : r.isNaN = false := by
  cases d <;> cases e <;> simp only [Datum.sum] at h <;> (try split at h) <;> cases h <;> rfl
theorem product_not {d e r : Datum} (h : d.product e = some r) : r.isNaN = false := by
  cases d <;> cases e <;> simp only [Datum.product] at h <;> (try split at h) <;> cases h <;> rfl
theorem quotient_not {n : Nat} {d e r : Datum} (h : d.quotient n e = some r) : r.isNaN = false := by
  cases d <;> cases e <;> simp only [Datum.quotient] at h <;> (try split at h) <;> (try split at h) <;> cases h <;> rfl

theorem floatBits_not {op : BinOp} {k : FloatKind} {x y r : Nat} (h : floatBits op k x y = some r) : isN k r = false := by
  unfold isN
  have key : ∀ o : Option Datum, (∀ d, o = some d → d.isNaN = false) → o.map k.format.write = some r → (k.format.read r).isNaN = false := by
    intro o ho hr
    cases o with
    | none => cases hr
    | some d => cases hr; exact read_write_not _ (ho d rfl)
  unfold floatBits at h
  split at h
  · exact key _ (fun d hd => sum_not hd) h
  · exact key _ (fun d hd => sum_not hd) h
  · exact key _ (fun d hd => product_not hd) h
  · exact key _ (fun d hd => quotient_not hd) h
  · cases h

/-- the operation, its NaNs made one -/
def fop (op : BinOp) (k : FloatKind) (x y : Nat) : Nat := (floatBits op k x y).getD (qn k)

theorem cn_fop (op : BinOp) (k : FloatKind) (x y : Nat) : cn k (fop op k x y) = fop op k x y := by
  unfold fop
  cases h : floatBits op k x y with
  | none => simp [cn_of_nan (isN_qn k)]
  | some r => simp [cn_of_not (floatBits_not h)]

/-- what operations see of a word -/
theorem read_cn (k : FloatKind) (b : Nat) : k.format.read (cn k b) = k.format.read b ∨ ((k.format.read (cn k b)).isNaN = true ∧ (k.format.read b).isNaN = true) := by
  by_cases h : isN k b = true
  · right
    rw [cn_of_nan h]
    exact ⟨isN_qn k, h⟩
  · left
    rw [cn_of_not (by simpa using h)]

theorem sum_nan_l {d e : Datum} (h : d.isNaN = true) : d.sum e = none := by cases d <;> first | rfl | cases h
theorem sum_nan_r {d e : Datum} (h : e.isNaN = true) : d.sum e = none := by cases e <;> first | (cases d <;> rfl) | cases h
theorem product_nan_l {d e : Datum} (h : d.isNaN = true) : d.product e = none := by cases d <;> first | rfl | cases h
theorem product_nan_r {d e : Datum} (h : e.isNaN = true) : d.product e = none := by cases e <;> first | (cases d <;> rfl) | cases h
theorem quotient_nan_l {n : Nat} {d e : Datum} (h : d.isNaN = true) : d.quotient n e = none := by cases d <;> first | rfl | cases h
theorem quotient_nan_r {n : Nat} {d e : Datum} (h : e.isNaN = true) : d.quotient n e = none := by cases e <;> first | (cases d <;> rfl) | cases h
theorem order_nan_l {d e : Datum} (h : d.isNaN = true) : d.order e = none := by cases d <;> first | rfl | cases h
theorem order_nan_r {d e : Datum} (h : e.isNaN = true) : d.order e = none := by cases e <;> first | (cases d <;> rfl) | cases h
theorem opposite_nan {d : Datum} : d.opposite.isNaN = d.isNaN := by cases d <;> rfl

theorem floatBits_cn_l (op : BinOp) (k : FloatKind) (x y : Nat) : floatBits op k (cn k x) y = floatBits op k x y := by
  rcases read_cn k x with h | ⟨h1, h2⟩
  · unfold floatBits Format.add Format.sub Format.mul Format.div
    simp only [h]
  · unfold floatBits Format.add Format.sub Format.mul Format.div
    simp only [sum_nan_l h1, sum_nan_l h2, product_nan_l h1, product_nan_l h2, quotient_nan_l h1, quotient_nan_l h2]
theorem floatBits_cn_r (op : BinOp) (k : FloatKind) (x y : Nat) : floatBits op k x (cn k y) = floatBits op k x y := by
  rcases read_cn k y with h | ⟨h1, h2⟩
  · unfold floatBits Format.add Format.sub Format.mul Format.div
    simp only [h]
  · have g1 := h1; have g2 := h2
    rw [← opposite_nan] at g1 g2
    unfold floatBits Format.add Format.sub Format.mul Format.div
    simp only [sum_nan_r h1, sum_nan_r h2, sum_nan_r g1, sum_nan_r g2, product_nan_r h1, product_nan_r h2, quotient_nan_r h1, quotient_nan_r h2]

theorem fop_cn_l (op : BinOp) (k : FloatKind) (x y : Nat) : fop op k (cn k x) y = fop op k x y := by unfold fop; rw [floatBits_cn_l]
theorem fop_cn_r (op : BinOp) (k : FloatKind) (x y : Nat) : fop op k x (cn k y) = fop op k x y := by unfold fop; rw [floatBits_cn_r]
theorem order_cn_l (k : FloatKind) (x y : Nat) : k.format.order (cn k x) y = k.format.order x y := by
  rcases read_cn k x with h | ⟨h1, h2⟩
  · unfold Format.order; rw [h]
  · unfold Format.order; rw [order_nan_l h1, order_nan_l h2]
theorem order_cn_r (k : FloatKind) (x y : Nat) : k.format.order x (cn k y) = k.format.order x y := by
  rcases read_cn k y with h | ⟨h1, h2⟩
  · unfold Format.order; rw [h]
  · unfold Format.order; rw [order_nan_r h1, order_nan_r h2]

/-! the sign turned -/
theorem xor_pow (b n : Nat) : (b ^^^ 2 ^ n) % 2 ^ n = b % 2 ^ n ∧ (b ^^^ 2 ^ n) / 2 ^ n % 2 = (b / 2 ^ n + 1) % 2 := by
  constructor
  · rw [Nat.xor_mod_two_pow]; simp
  · rw [← Nat.shiftRight_eq_div_pow, ← Nat.shiftRight_eq_div_pow, Nat.shiftRight_xor_distrib]
    have : 2 ^ n >>> n = 1 := by rw [Nat.shiftRight_eq_div_pow]; exact Nat.div_self (Nat.two_pow_pos n)
    rw [this]
    have h1 := Nat.xor_mod_two_pow (a := b >>> n) (b := 1) (n := 1)
    simp only [Nat.pow_one] at h1
    rw [h1]
    rcases Nat.mod_two_eq_zero_or_one (b >>> n) with h | h <;> rw [h] <;> simp <;> omega

theorem read_neg (k : FloatKind) (b : Nat) : k.format.read (Op.negFloat k b) = (k.format.read b).opposite := by
  obtain ⟨h1, h2⟩ := xor_pow b (k.format.exponentBits + k.format.fractionBits)
  have hs : (Op.negFloat k b / k.format.signWeight % 2 == 1) = !(b / k.format.signWeight % 2 == 1) := by
    unfold Op.negFloat Format.signWeight
    rw [h2]
    rcases Nat.mod_two_eq_zero_or_one (b / 2 ^ (k.format.exponentBits + k.format.fractionBits)) with h | h
    · rw [h]; rw [show (b / 2 ^ (k.format.exponentBits + k.format.fractionBits) + 1) % 2 = 1 by omega]; rfl
    · rw [h]; rw [show (b / 2 ^ (k.format.exponentBits + k.format.fractionBits) + 1) % 2 = 0 by omega]; rfl
  have hm : Op.negFloat k b % k.format.signWeight = b % k.format.signWeight := h1
  unfold Format.read
  simp only [hs, hm]
  split
  · rfl
  · split
    · rfl
    · split <;> rfl

theorem isN_neg (k : FloatKind) (b : Nat) : isN k (Op.negFloat k b) = isN k b := by unfold isN; rw [read_neg, opposite_nan]

/-- '-x', its NaNs made one -/
def fneg (k : FloatKind) (b : Nat) : Nat := cn k (Op.negFloat k b)
theorem cn_neg (k : FloatKind) (b : Nat) : cn k (Op.negFloat k b) = fneg k (cn k b) := by
  unfold fneg
  by_cases h : isN k b = true
  · rw [cn_of_nan (by rw [isN_neg]; exact h), cn_of_nan h, cn_of_nan (by rw [isN_neg]; exact isN_qn k)]
  · rw [cn_of_not (k := k) (b := b) (by simpa using h)]
theorem cn_fneg (k : FloatKind) (b : Nat) : cn k (fneg k b) = fneg k b := cn_cn _ _

theorem isV_neg {k : FloatKind} {b : Nat} {m : Int} {e : Nat} (h : IsV k.format b m e) : IsV k.format (Op.negFloat k b) (-m) e := by
  obtain ⟨s, a, i, hr, hi, hv⟩ := h
  refine ⟨!s, a, i, by rw [read_neg, hr]; rfl, hi, ?_⟩
  rw [sg_not, Int.neg_mul, Int.neg_mul, Int.neg_mul, hv, Int.neg_mul]
theorem isV_not {k : FloatKind} {b : Nat} {m : Int} {e : Nat} (h : IsV k.format b m e) : isN k b = false := by
  obtain ⟨s, a, i, hr, _⟩ := h
  unfold isN; rw [hr]; rfl
theorem isV_cn {k : FloatKind} {b : Nat} {m : Int} {e : Nat} : IsV k.format (cn k b) m e ↔ IsV k.format b m e := by
  constructor
  · intro h
    have := isV_not h
    rw [isN_cn] at this
    rwa [cn_of_not this] at h
  · intro h; rwa [cn_of_not (isV_not h)]
theorem isV_fneg {k : FloatKind} {b : Nat} {m : Int} {e : Nat} (h : IsV k.format b m e) : IsV k.format (fneg k b) (-m) e := isV_cn.2 (isV_neg h)

theorem fop_add {k : FloatKind} {x y : Nat} {m n : Int} {e : Nat} (hx : IsV k.format x m e) (hy : IsV k.format y n e) (he : (e : Int) ≤ -k.format.leastPlace) (hm : (m + n).natAbs ≤ 2 ^ (k.format.fractionBits + 1)) : IsV k.format (fop .add k x y) (m + n) e := by
  obtain ⟨r, h, hv⟩ := isV_add (good k) hx hy he hm
  unfold fop floatBits; simp only [h]; exact hv
theorem fop_sub {k : FloatKind} {x y : Nat} {m n : Int} {e : Nat} (hx : IsV k.format x m e) (hy : IsV k.format y n e) (he : (e : Int) ≤ -k.format.leastPlace) (hm : (m - n).natAbs ≤ 2 ^ (k.format.fractionBits + 1)) : IsV k.format (fop .sub k x y) (m - n) e := by
  obtain ⟨r, h, hv⟩ := isV_sub (good k) hx hy he hm
  unfold fop floatBits; simp only [h]; exact hv
theorem fop_mul {k : FloatKind} {x y : Nat} {m n : Int} {e g : Nat} (hx : IsV k.format x m e) (hy : IsV k.format y n g) (he : ((e + g : Nat) : Int) ≤ -k.format.leastPlace) (hm : (m * n).natAbs ≤ 2 ^ (k.format.fractionBits + 1)) : IsV k.format (fop .mul k x y) (m * n) (e + g) := by
  obtain ⟨r, h, hv⟩ := isV_mul (good k) hx hy he hm
  unfold fop floatBits; simp only [h]; exact hv

/-! the order -/
theorem compare_scale {a b c : Int} (hc : 0 < c) : compare (a * c) (b * c) = compare a b := by
  simp only [compare, compareOfLessAndEq]
  by_cases h : a < b
  · rw [if_pos h, if_pos (Int.mul_lt_mul_of_pos_right h hc)]
  · have h' : ¬ a * c < b * c := fun x => h (Int.lt_of_mul_lt_mul_right x (Int.le_of_lt hc))
    rw [if_neg h, if_neg h']
    by_cases he : a = b
    · subst he; simp
    · have : a * c ≠ b * c := fun x => he (Int.eq_of_mul_eq_mul_right (by omega) x)
      rw [if_neg he, if_neg this]

theorem isV_order {f : Format} {x y : Nat} {m n : Int} {e : Nat} (hx : IsV f x m e) (hy : IsV f y n e) : f.order x y = some (compare m n) := by
  obtain ⟨s, a, i, hr, hi, hv⟩ := hx
  obtain ⟨t, b, j, hr', hj, hv'⟩ := hy
  unfold Format.order
  rw [hr, hr']
  unfold Datum.order
  simp only [signed_eq]
  congr 1
  change compare (sg s * (a : Int) * tp (i - min i j).toNat) (sg t * (b : Int) * tp (j - min i j).toNat) = compare m n
  change sg s * (a : Int) * tp (i - f.leastPlace).toNat * tp e = m * tp (-f.leastPlace).toNat at hv
  change sg t * (b : Int) * tp (j - f.leastPlace).toNat * tp e = n * tp (-f.leastPlace).toNat at hv'
  have e1 : tp (i - f.leastPlace).toNat = tp (i - min i j).toNat * tp (min i j - f.leastPlace).toNat := by rw [← tp_add]; congr 1; omega
  have e2 : tp (j - f.leastPlace).toNat = tp (j - min i j).toNat * tp (min i j - f.leastPlace).toNat := by rw [← tp_add]; congr 1; omega
  have hp : 0 < tp (min i j - f.leastPlace).toNat * tp e := Int.mul_pos (tp_pos _) (tp_pos _)
  rw [← compare_scale hp, ← compare_scale (a := m) (b := n) (tp_pos (-f.leastPlace).toNat), ← hv, ← hv', e1, e2]
  congr 1 <;> grind

theorem isV_eq {f : Format} {x y : Nat} {m n : Int} {e : Nat} (hx : IsV f x m e) (hy : IsV f y n e) : (f.order x y == some .eq) = decide (m = n) := by
  rw [isV_order hx hy]
  simp only [compare, compareOfLessAndEq]
  by_cases h : m < n
  · rw [if_pos h]; have : m ≠ n := by omega
    simp [this]
  · rw [if_neg h]
    by_cases he : m = n
    · subst he; simp
    · rw [if_neg he]; simp [he]
theorem isV_lt {f : Format} {x y : Nat} {m n : Int} {e : Nat} (hx : IsV f x m e) (hy : IsV f y n e) : (f.order x y == some .lt) = decide (m < n) := by
  rw [isV_order hx hy]
  simp only [compare, compareOfLessAndEq]
  by_cases h : m < n
  · rw [if_pos h]; simp [h]
  · rw [if_neg h]
    by_cases he : m = n
    · subst he; simp
    · rw [if_neg he]; simp [h]
theorem isV_gt {f : Format} {x y : Nat} {m n : Int} {e : Nat} (hx : IsV f x m e) (hy : IsV f y n e) : (f.order x y == some .gt) = decide (n < m) := by
  rw [isV_order hx hy]
  simp only [compare, compareOfLessAndEq]
  by_cases h : m < n
  · rw [if_pos h]; have : ¬ n < m := by omega
    simp [this]
  · rw [if_neg h]
    by_cases he : m = n
    · subst he; simp
    · have : n < m := by omega
      rw [if_neg he]; simp [this]

end Go.Fx
end
section
namespace Go.Fx
open Ieee

/-- a constant's value, reckoned -/
def chkV (f : Format) (b : Nat) (m : Int) (e : Nat) : Bool :=
  match f.read b with
  | .number s mag pl => decide (f.leastPlace ≤ pl ∧ sg s * (mag : Int) * tp (pl - f.leastPlace).toNat * tp e = m * tp (-f.leastPlace).toNat)
  | _ => false
theorem isV_chk {f : Format} {b : Nat} {m : Int} {e : Nat} (h : chkV f b m e = true) : IsV f b m e := by
  unfold chkV at h
  split at h
  · rename_i s mag pl hr
    have := of_decide_eq_true h
    exact ⟨s, mag, pl, hr, this.1, this.2⟩
  · cases h

/-- a whole number as a float -/
theorem isV_int {k : FloatKind} {n : Int} (hn : n.natAbs ≤ 2 ^ (k.format.fractionBits + 1)) : IsV k.format (floatOfInt k n) n 0 := by
  have hneg := (good k).neg
  unfold floatOfInt FloatKind.nearest FloatKind.encode Format.write
  simp only
  refine isV_write _ (good k) _ _ _ k.format.leastPlace _ _ (by omega) hn hneg (Int.le_refl _) ?_
  have h1 := sg_abs n false
  have h2 : sg (decide (n < 0)) * (n.natAbs : Int) = n := by
    by_cases h : n < 0
    · simp [h, sg]; omega
    · simp [h, sg]; omega
  rw [h2, Int.zero_sub]
  simp

/-- the quotient by a power of two -/
theorem fop_quo {k : FloatKind} {x y : Nat} {m : Int} {e : Nat} (s' : Bool) (a : Nat) (pl' : Int) (hx : IsV k.format x m e) (hy : k.format.read y = .number s' (2 ^ a) pl') (e' : Nat)
    (he : (e' : Int) = e + (pl' + a)) (hle : (e' : Int) ≤ -k.format.leastPlace) (hm : m.natAbs ≤ 2 ^ (k.format.fractionBits + 1)) : IsV k.format (fop .quo k x y) (sg s' * m) e' := by
  obtain ⟨s, mag, pl, hr, hi, hv⟩ := hx
  have hneg := (good k).neg
  have hmag := read_mag k.format hr
  have hpl' := read_place k.format hy
  have ha : 2 ^ a ≠ 0 := by have := Nat.two_pow_pos a; omega
  unfold fop floatBits Format.div Datum.quotient
  simp only [hr, hy]
  rw [if_neg ha]
  simp only [Option.map_some, Option.getD_some, Nat.log2_two_pow]
  generalize hmore : k.format.fractionBits + 2 + a - mag.log2 = more
  have hl : mag ≠ 0 → mag.log2 ≤ k.format.fractionBits := fun h0 => by have := log2_lt_of h0 hmag; omega
  have hl0 : mag.log2 ≤ k.format.fractionBits := by
    by_cases h0 : mag = 0
    · subst h0; simp
    · exact hl h0
  have hma : a ≤ more := by omega
  have hdvd : mag <<< more = mag * 2 ^ (more - a) * 2 ^ a := by
    rw [Nat.shiftLeft_eq, Nat.mul_assoc, ← Nat.pow_add]; congr 2; omega
  rw [hdvd, Nat.mul_div_cancel _ (Nat.two_pow_pos a), Nat.mul_mod_left]
  unfold Format.write
  simp only [bne_self_eq_false, Bool.toNat_false, Nat.add_zero]
  have hB : ∃ B : Int, B ≤ pl - pl' - more - 1 ∧ B ≤ k.format.leastPlace := ⟨min (pl - pl' - more - 1) k.format.leastPlace, by omega, by omega⟩
  obtain ⟨B, hB1, hB2⟩ := hB
  refine isV_write _ (good k) _ _ _ B _ _ hle (by rw [sg_natAbs]; exact hm) hB1 hB2 ?_
  change sg s * (mag : Int) * tp (pl - k.format.leastPlace).toNat * tp e = m * tp (-k.format.leastPlace).toNat at hv
  change sg (s ^^ s') * ((2 * (mag * 2 ^ (more - a)) : Nat) : Int) * tp (pl - pl' - more - 1 - B).toNat * tp e' = sg s' * m * tp (-B).toNat
  have e1 : ((2 * (mag * 2 ^ (more - a)) : Nat) : Int) = (mag : Int) * tp (more - a + 1) := by
    rw [show (2 * (mag * 2 ^ (more - a)) : Nat) = mag * 2 ^ (more - a + 1) by rw [Nat.pow_succ]; simp [Nat.mul_comm, Nat.mul_left_comm]]
    exact Int.natCast_mul _ _
  rw [e1, sg_xor]
  -- both sides, times what makes the powers of one kind
  refine Int.eq_of_mul_eq_mul_right (tp_ne (-k.format.leastPlace).toNat) ?_
  have e2 : tp (more - a + 1) * tp (pl - pl' - more - 1 - B).toNat * tp e' * tp (-k.format.leastPlace).toNat = tp (pl - k.format.leastPlace).toNat * tp e * tp (-B).toNat := by
    rw [← tp_add, ← tp_add, ← tp_add, ← tp_add, ← tp_add]; congr 1; omega
  have e3 : sg s * sg s' * ((mag : Int) * tp (more - a + 1)) * tp (pl - pl' - more - 1 - B).toNat * tp e' * tp (-k.format.leastPlace).toNat =
      sg s * sg s' * (mag : Int) * (tp (more - a + 1) * tp (pl - pl' - more - 1 - B).toNat * tp e' * tp (-k.format.leastPlace).toNat) := by
    simp only [Int.mul_assoc]
  rw [e3, e2]
  generalize tp (pl - k.format.leastPlace).toNat = p1 at *
  generalize tp (-k.format.leastPlace).toNat = p2 at *
  generalize tp (-B).toNat = p3 at *
  generalize tp e = p4 at *
  clear e1 e2 e3 hdvd
  grind

/-! from one width to the other -/
/-- 'float64(x)' | 'float32(x)' where the language says what it is; a NaN: the one NaN -/
def fconv (s d : FloatKind) (b : Nat) : Nat := (floatToFloatBits s b d).getD (qn d)

theorem isV_conv {s d : FloatKind} {b : Nat} {m : Int} {e : Nat} (h : IsV s.format b m e) (he : (e : Int) ≤ -d.format.leastPlace) (hm : m.natAbs ≤ 2 ^ (d.format.fractionBits + 1)) :
    ∃ r, floatToFloatBits s b d = some r ∧ IsV d.format r m e := by
  by_cases hsd : s = d
  · subst hsd
    exact ⟨b, by simp [floatToFloatBits], h⟩
  · obtain ⟨t, mag, pl, hr, hi, hv⟩ := h
    have hB : ∃ B : Int, B ≤ pl ∧ B ≤ d.format.leastPlace ∧ B ≤ s.format.leastPlace := ⟨min pl (min d.format.leastPlace s.format.leastPlace), by omega, by omega, by omega⟩
    obtain ⟨B, hB1, hB2, hB3⟩ := hB
    have hneg := (good s).neg
    have hw : IsV d.format (d.format.nearest t mag pl) m e := by
      refine isV_write _ (good d) _ _ _ B _ _ he hm hB1 hB2 ?_
      change sg t * (mag : Int) * tp (pl - s.format.leastPlace).toNat * tp e = m * tp (-s.format.leastPlace).toNat at hv
      change sg t * (mag : Int) * tp (pl - B).toNat * tp e = m * tp (-B).toNat
      have e1 : tp (pl - B).toNat = tp (pl - s.format.leastPlace).toNat * tp (s.format.leastPlace - B).toNat := by rw [← tp_add]; congr 1; omega
      have e2 : tp (-B).toNat = tp (-s.format.leastPlace).toNat * tp (s.format.leastPlace - B).toNat := by rw [← tp_add]; congr 1; omega
      rw [e1, e2, ← Int.mul_assoc m, ← hv]
      grind
    refine ⟨d.format.nearest t mag pl, ?_, hw⟩
    unfold floatToFloatBits FloatKind.decode
    rw [if_neg hsd, hr]
    simp only
    obtain ⟨t', mag', pl', hr', _, _⟩ := hw
    unfold FloatKind.encode Format.write
    simp only [hr']
    rfl

theorem isV_fconv {s d : FloatKind} {b : Nat} {m : Int} {e : Nat} (h : IsV s.format b m e) (he : (e : Int) ≤ -d.format.leastPlace) (hm : m.natAbs ≤ 2 ^ (d.format.fractionBits + 1)) : IsV d.format (fconv s d b) m e := by
  obtain ⟨r, hr, hv⟩ := isV_conv h he hm
  unfold fconv; rw [hr]; exact hv

end Go.Fx
end
section
namespace Go.Fx
open Ieee

/-! every word that is no NaN as a whole number: the order of words is the order of these -/

def big (f : Format) : Int := tp (f.fractionBits + 1 + 2 ^ f.exponentBits)

def dk (f : Format) : Datum → Option Int
  | .nan .. => none
  | .infinity s => some (sg s * big f)
  | .number s m p => some (sg s * (m : Int) * tp (p - f.leastPlace).toNat)

def fk (k : FloatKind) (b : Nat) : Option Int := dk k.format (k.format.read b)

theorem fk_none {k : FloatKind} {b : Nat} : fk k b = none ↔ isN k b = true := by
  unfold fk isN dk
  split <;> rename_i h <;> rw [h] <;> simp [Datum.isNaN]

theorem fk_cn (k : FloatKind) (b : Nat) : fk k (cn k b) = fk k b := by
  rcases read_cn k b with h | ⟨h1, h2⟩
  · unfold fk; rw [h]
  · have a : fk k (cn k b) = none := fk_none.2 h1
    have c : fk k b = none := fk_none.2 h2
    rw [a, c]

theorem dk_opposite (f : Format) (d : Datum) : dk f d.opposite = (dk f d).map (- ·) := by
  cases d <;> simp [dk, Datum.opposite, sg_not, Int.neg_mul]

theorem fk_neg (k : FloatKind) (b : Nat) : fk k (Op.negFloat k b) = (fk k b).map (- ·) := by
  unfold fk; rw [read_neg, dk_opposite]
theorem fk_fneg (k : FloatKind) (b : Nat) : fk k (fneg k b) = (fk k b).map (- ·) := by
  unfold fneg; rw [fk_cn, fk_neg]

theorem read_top (f : Format) {b : Nat} {s : Bool} {m : Nat} {p : Int} (h : f.read b = .number s m p) : (p - f.leastPlace).toNat ≤ 2 ^ f.exponentBits := by
  have hb : 0 < f.binade := Nat.two_pow_pos _
  unfold Format.read at h
  simp only at h
  split at h
  · cases h; simp
  · split at h
    · rename_i h2
      cases h
      unfold Format.infRung at h2
      have h3 : b % f.signWeight / f.binade < 2 ^ f.exponentBits - 1 := by
        rw [Nat.div_lt_iff_lt_mul hb]; exact h2
      generalize b % f.signWeight / f.binade = z at *
      generalize 2 ^ f.exponentBits = zz at *
      omega
    · split at h <;> cases h

theorem number_lt (f : Format) {b : Nat} {s : Bool} {m : Nat} {p : Int} (h : f.read b = .number s m p) : (m : Int) * tp (p - f.leastPlace).toNat < big f := by
  have h1 := read_mag f h
  have h2 := read_top f h
  have h3 : m * 2 ^ (p - f.leastPlace).toNat < 2 ^ (f.fractionBits + 1) * 2 ^ (2 ^ f.exponentBits) :=
    Nat.lt_of_lt_of_le (Nat.mul_lt_mul_of_pos_right h1 (Nat.two_pow_pos _)) (Nat.mul_le_mul_left _ (Nat.pow_le_pow_right (by omega) h2))
  rw [← Nat.pow_add] at h3
  unfold big tp
  rw [← Int.natCast_mul]
  exact Int.ofNat_lt.2 h3

theorem cmp_lt {a b : Int} (h : a < b) : compare a b = .lt := by simp [compare, compareOfLessAndEq, h]
theorem cmp_gt {a b : Int} (h : b < a) : compare a b = .gt := by
  have h1 : ¬ a < b := by omega
  have h2 : a ≠ b := by omega
  simp [compare, compareOfLessAndEq, h1, h2]
theorem cmp_eq {a b : Int} (h : a = b) : compare a b = .eq := by simp [compare, compareOfLessAndEq, h]

theorem order_fk (k : FloatKind) (x y : Nat) : k.format.order x y = (fk k x).bind fun a => (fk k y).map fun b => compare a b := by
  unfold fk Format.order
  have hbig : 0 < big k.format := tp_pos _
  have bd : ∀ (z : Nat) (s : Bool) (m : Nat) (p : Int), k.format.read z = .number s m p → -(big k.format) < sg s * (m : Int) * tp (p - k.format.leastPlace).toNat ∧ sg s * (m : Int) * tp (p - k.format.leastPlace).toNat < big k.format := by
    intro z s m p h
    have h1 := number_lt _ h
    have h2 : 0 ≤ (m : Int) * tp (p - k.format.leastPlace).toNat := Int.mul_nonneg (by omega) (Int.le_of_lt (tp_pos _))
    rw [Int.mul_assoc]
    cases s <;> simp only [sg, if_true, Bool.false_eq_true, if_false] <;> omega
  cases hx : k.format.read x with
  | nan s m => simp [dk, Datum.order]
  | infinity s =>
    cases hy : k.format.read y with
    | nan t n => simp [dk, Datum.order]
    | infinity t =>
      simp only [dk, Datum.order, Option.bind_some, Option.map_some]
      congr 1
      cases s <;> cases t <;> simp only [sg, if_true, Bool.false_eq_true, if_false]
      · rw [cmp_eq rfl]; rfl
      · rw [cmp_gt (by omega)]; rfl
      · rw [cmp_lt (by omega)]; rfl
      · rw [cmp_eq rfl]; rfl
    | number t n q =>
      have := bd y t n q hy
      generalize hv : sg t * (n : Int) * tp (q - k.format.leastPlace).toNat = v at this
      simp only [dk, Datum.order, Option.bind_some, Option.map_some]
      rw [hv]
      congr 1
      cases s <;> simp only [sg, if_true, Bool.false_eq_true, if_false]
      · rw [cmp_gt (by omega)]
      · rw [cmp_lt (by omega)]
  | number s m p =>
    have hxb := bd x s m p hx
    cases hy : k.format.read y with
    | nan t n => simp [dk, Datum.order]
    | infinity t =>
      generalize hv : sg s * (m : Int) * tp (p - k.format.leastPlace).toNat = v at hxb
      simp only [dk, Datum.order, Option.bind_some, Option.map_some]
      rw [hv]
      congr 1
      cases t <;> simp only [sg, if_true, Bool.false_eq_true, if_false]
      · rw [cmp_lt (by omega)]
      · rw [cmp_gt (by omega)]
    | number t n q =>
      simp only [dk, Datum.order, Option.bind_some, Option.map_some, signed_eq]
      congr 1
      have hp := read_place _ hx
      have hq := read_place _ hy
      have e1 : tp (p - k.format.leastPlace).toNat = tp (p - min p q).toNat * tp (min p q - k.format.leastPlace).toNat := by rw [← tp_add]; congr 1; omega
      have e2 : tp (q - k.format.leastPlace).toNat = tp (q - min p q).toNat * tp (min p q - k.format.leastPlace).toNat := by rw [← tp_add]; congr 1; omega
      rw [e1, e2, ← Int.mul_assoc, ← Int.mul_assoc, compare_scale (tp_pos _)]

/-! the six comparisons as Bools -/
def feq (k : FloatKind) (x y : Nat) : Bool := k.format.order x y == some .eq
def flt (k : FloatKind) (x y : Nat) : Bool := k.format.order x y == some .lt
def fle (k : FloatKind) (x y : Nat) : Bool := k.format.order x y == some .lt || k.format.order x y == some .eq
def fgt (k : FloatKind) (x y : Nat) : Bool := k.format.order x y == some .gt
def fge (k : FloatKind) (x y : Nat) : Bool := k.format.order x y == some .gt || k.format.order x y == some .eq

theorem feq_fk {k : FloatKind} {x y : Nat} {a b : Int} (hx : fk k x = some a) (hy : fk k y = some b) : feq k x y = decide (a = b) := by
  unfold feq; rw [order_fk, hx, hy]
  simp only [Option.bind_some, Option.map_some]
  rcases Int.lt_trichotomy a b with h | h | h
  · rw [cmp_lt h]; have : a ≠ b := by omega
    simp [this]
  · rw [cmp_eq h]; simp [h]
  · rw [cmp_gt h]; have : a ≠ b := by omega
    simp [this]
theorem flt_fk {k : FloatKind} {x y : Nat} {a b : Int} (hx : fk k x = some a) (hy : fk k y = some b) : flt k x y = decide (a < b) := by
  unfold flt; rw [order_fk, hx, hy]
  simp only [Option.bind_some, Option.map_some]
  rcases Int.lt_trichotomy a b with h | h | h
  · rw [cmp_lt h]; simp [h]
  · rw [cmp_eq h]; simp [h]
  · rw [cmp_gt h]; have : ¬ a < b := by omega
    simp [this]
theorem fgt_fk {k : FloatKind} {x y : Nat} {a b : Int} (hx : fk k x = some a) (hy : fk k y = some b) : fgt k x y = decide (b < a) := by
  unfold fgt; rw [order_fk, hx, hy]
  simp only [Option.bind_some, Option.map_some]
  rcases Int.lt_trichotomy a b with h | h | h
  · rw [cmp_lt h]; have : ¬ b < a := by omega
    simp [this]
  · rw [cmp_eq h]; simp [h]
  · rw [cmp_gt h]; simp [h]
theorem fle_fk {k : FloatKind} {x y : Nat} {a b : Int} (hx : fk k x = some a) (hy : fk k y = some b) : fle k x y = decide (a ≤ b) := by
  have h1 := flt_fk hx hy
  have h2 := feq_fk hx hy
  unfold flt at h1; unfold feq at h2; unfold fle
  rw [h1, h2, ← Bool.decide_or]
  congr 1
  rw [eq_iff_iff]; omega
theorem fge_fk {k : FloatKind} {x y : Nat} {a b : Int} (hx : fk k x = some a) (hy : fk k y = some b) : fge k x y = decide (b ≤ a) := by
  have h1 := fgt_fk hx hy
  have h2 := feq_fk hx hy
  unfold fgt at h1; unfold feq at h2; unfold fge
  rw [h1, h2, ← Bool.decide_or]
  congr 1
  rw [eq_iff_iff]; omega
theorem order_nan {k : FloatKind} {x y : Nat} (h : fk k x = none ∨ fk k y = none) : k.format.order x y = none := by
  rw [order_fk]
  rcases h with h | h
  · rw [h]; rfl
  · rw [h]; cases fk k x <;> rfl
theorem cmp_nan {k : FloatKind} {x y : Nat} (h : fk k x = none ∨ fk k y = none) : feq k x y = false ∧ flt k x y = false ∧ fle k x y = false ∧ fgt k x y = false ∧ fge k x y = false := by
  have := order_nan h
  simp [feq, flt, fle, fgt, fge, this]

theorem feq_cn_l (k : FloatKind) (x y : Nat) : feq k (cn k x) y = feq k x y := by unfold feq; rw [order_cn_l]
theorem feq_cn_r (k : FloatKind) (x y : Nat) : feq k x (cn k y) = feq k x y := by unfold feq; rw [order_cn_r]
theorem flt_cn_l (k : FloatKind) (x y : Nat) : flt k (cn k x) y = flt k x y := by unfold flt; rw [order_cn_l]
theorem flt_cn_r (k : FloatKind) (x y : Nat) : flt k x (cn k y) = flt k x y := by unfold flt; rw [order_cn_r]
theorem fle_cn_l (k : FloatKind) (x y : Nat) : fle k (cn k x) y = fle k x y := by unfold fle; rw [order_cn_l]
theorem fle_cn_r (k : FloatKind) (x y : Nat) : fle k x (cn k y) = fle k x y := by unfold fle; rw [order_cn_r]
theorem fgt_cn_l (k : FloatKind) (x y : Nat) : fgt k (cn k x) y = fgt k x y := by unfold fgt; rw [order_cn_l]
theorem fgt_cn_r (k : FloatKind) (x y : Nat) : fgt k x (cn k y) = fgt k x y := by unfold fgt; rw [order_cn_r]
theorem fge_cn_l (k : FloatKind) (x y : Nat) : fge k (cn k x) y = fge k x y := by unfold fge; rw [order_cn_l]
theorem fge_cn_r (k : FloatKind) (x y : Nat) : fge k x (cn k y) = fge k x y := by unfold fge; rw [order_cn_r]

/-! the amount of a number against a bound -/
/-- 'amount' as the program reckons it -/
def amt (x : Nat) : Nat := if flt .f32 x 0 then fneg .f32 x else cn .f32 x

theorem fk_zero : fk .f32 0 = some 0 := by decide +kernel

theorem amt_le (x c : Nat) (C : Int) (hc : fk .f32 c = some C) (h0 : 0 ≤ C) : fle .f32 (amt x) c = (fge .f32 x (Op.negFloat .f32 c) && fle .f32 x c) := by
  have hn : fk .f32 (Op.negFloat .f32 c) = some (-C) := by rw [fk_neg, hc]; rfl
  unfold amt
  cases hx : fk .f32 x with
  | none =>
    have h1 := cmp_nan (k := .f32) (x := x) (y := 0) (.inl hx)
    have h2 := cmp_nan (k := .f32) (x := x) (y := c) (.inl hx)
    have h3 := cmp_nan (k := .f32) (x := x) (y := Op.negFloat .f32 c) (.inl hx)
    simp [h1, h2, h3, fle_cn_l]
  | some a =>
    rw [flt_fk hx fk_zero]
    by_cases h : a < 0
    · have e1 : fk .f32 (fneg .f32 x) = some (-a) := by rw [fk_fneg, hx]; rfl
      simp only [h, decide_true, if_true]
      rw [fle_fk e1 hc, fge_fk hx hn, fle_fk hx hc, ← Bool.decide_and]
      congr 1; rw [eq_iff_iff]; omega
    · simp only [h, decide_false, Bool.false_eq_true, if_false, fle_cn_l]
      rw [fge_fk hx hn, fle_fk hx hc, ← Bool.decide_and]
      congr 1; rw [eq_iff_iff]; omega

end Go.Fx
end
section
namespace Go.Fx
open Ieee

/-! floats in the walk: what an operation gives as a function of the world's tape -/

def nanQ (w : World) (q : Question) : Nat := q.cut (w.tape w.drawn q)

/-- the bits that '+', '-', '*', '/' give -/
def fbits (w : World) (op : BinOp) (k : FloatKind) (x y : Nat) : Nat := (floatBits op k x y).getD (nanQ w (.nanBits k x y))
def fcnt (op : BinOp) (k : FloatKind) (x y : Nat) : Nat := if (floatBits op k x y).isSome then 0 else 1

theorem isN_f32 (s r : Nat) (_hs : s < 2) (hr : r < 2 ^ 23 - 1) : isN .f32 (s * 2 ^ 31 + 0x7f800000 + 1 + r) = true := by
  unfold isN Format.read
  have e1 : (FloatKind.f32.format).signWeight = 2147483648 := by decide
  have e2 : (FloatKind.f32.format).binade = 8388608 := by decide
  have e3 : (FloatKind.f32.format).infRung = 2139095040 := by decide
  simp only [e1, e2, e3]
  rw [if_neg (by omega), if_neg (by omega), if_neg (by omega)]
  rfl
theorem isN_f64 (s r : Nat) (_hs : s < 2) (hr : r < 2 ^ 52 - 1) : isN .f64 (s * 2 ^ 63 + 0x7ff0000000000000 + 1 + r) = true := by
  unfold isN Format.read
  have e1 : (FloatKind.f64.format).signWeight = 9223372036854775808 := by decide
  have e2 : (FloatKind.f64.format).binade = 4503599627370496 := by decide
  have e3 : (FloatKind.f64.format).infRung = 9218868437227405312 := by decide
  simp only [e1, e2, e3]
  rw [if_neg (by omega), if_neg (by omega), if_neg (by omega)]
  rfl

theorem isN_nanBits (w : World) (k : FloatKind) (x y : Nat) : isN k (nanQ w (.nanBits k x y)) = true := by
  unfold nanQ
  cases k
  · simp only [Question.cut]; exact isN_f32 _ _ (Nat.mod_lt _ (by omega)) (Nat.mod_lt _ (by omega))
  · simp only [Question.cut]; exact isN_f64 _ _ (Nat.mod_lt _ (by omega)) (Nat.mod_lt _ (by omega))
theorem isN_nanConv (w : World) (k : FloatKind) (x : Nat) : isN k (nanQ w (.nanConv k x)) = true := by
  unfold nanQ
  cases k
  · simp only [Question.cut]; exact isN_f32 _ _ (Nat.mod_lt _ (by omega)) (Nat.mod_lt _ (by omega))
  · simp only [Question.cut]; exact isN_f64 _ _ (Nat.mod_lt _ (by omega)) (Nat.mod_lt _ (by omega))

@[simp] theorem cn_fbits (w : World) (op : BinOp) (k : FloatKind) (x y : Nat) : cn k (fbits w op k x y) = fop op k (cn k x) (cn k y) := by
  rw [fop_cn_l, fop_cn_r]
  unfold fbits fop
  cases h : floatBits op k x y with
  | none => simp [cn_of_nan (isN_nanBits w k x y)]
  | some r => simp [cn_of_not (floatBits_not h)]

/-- where the answer is a number it is just that -/
theorem fbits_of {w : World} {op : BinOp} {k : FloatKind} {x y : Nat} (h : isN k (fop op k x y) = false) : fbits w op k x y = fop op k x y := by
  unfold fbits fop at *
  cases hf : floatBits op k x y with
  | none => rw [hf] at h; simp [isN_qn] at h
  | some r => rfl

section
variable {P : Program} (w : World)

theorem run_fop (op : BinOp) (hop : op = .add ∨ op = .sub ∨ op = .mul ∨ op = .quo) (t : TypeId) (k : FloatKind) (x y : Nat) :
    (binOp op t (.float k x) (.float k y)).run P w = .ok (.float k (fbits w op k x y)) (w.drewN (fcnt op k x y)) := by
  unfold fbits fcnt
  cases h : floatBits op k x y with
  | some r => simpa [World.drewN_zero] using run_float_arith (P := P) w op t k x y r h
  | none =>
    unfold floatBits at h
    rcases hop with rfl | rfl | rfl | rfl <;> simp only at h <;> simp [binOp, Op.floatArith, h, choose, Sem.run, Question.forced, nanQ, World.drewN]
@[go_sem] theorem run_fneg (k : FloatKind) (b : Nat) : (Op.unary .neg (.float k b)).run P w = .ok (.float k (Op.negFloat k b)) w := rfl

/-- the bits that a conversion between widths gives -/
def cvbits (w : World) (s d : FloatKind) (b : Nat) : Nat := (floatToFloatBits s b d).getD (if isN s b then nanQ w (.nanConv d b) else nanQ w (.floatToFloat b))
def cvcnt (s d : FloatKind) (b : Nat) : Nat := if (floatToFloatBits s b d).isSome then 0 else 1

theorem run_cv (s d : FloatKind) (b : Nat) : (Conv.floatToFloat s b d).run P w = .ok (.float d (cvbits w s d b)) (w.drewN (cvcnt s d b)) := by
  unfold cvbits cvcnt
  cases h : floatToFloatBits s b d with
  | some r => simpa [World.drewN_zero] using run_floatToFloat (P := P) w h
  | none =>
    unfold floatToFloatBits at h
    split at h
    · cases h
    · rename_i hsd
      unfold Conv.floatToFloat
      rw [if_neg hsd]
      unfold FloatKind.decode at h ⊢
      split at h
      · rename_i n m hr
        rw [hr]
        have hn : isN s b = true := by unfold isN; rw [hr]; rfl
        cases d <;> simp [hn, choose, Sem.run, Question.forced, nanQ, World.drewN]
      · cases h
      · rename_i n m p hr
        rw [hr]
        have hn : isN s b = false := by unfold isN; rw [hr]; rfl
        split at h
        · rename_i hi
          simp only [hi, if_true]
          simp [hn, choose, Sem.run, Question.forced, nanQ, World.drewN]
        · cases h
theorem run_convert_ff (src dst : TypeId) (s d : FloatKind) (b : Nat) (hs : (P.underlying src).isSome = true) (hd : P.underlying dst = some (.float d)) :
    (convert src dst (.float s b)).run P w = .ok (.float d (cvbits w s d b)) (w.drewN (cvcnt s d b)) := by
  obtain ⟨u, hs'⟩ := Option.isSome_iff_exists.1 hs
  have h := run_cv (P := P) w s d b
  cases u <;> simp [convert, run_underlying hs', run_underlying hd, h]
end

/-- a single, widened -/
theorem wide_cases (b : Nat) : (isN .f32 b = true ∧ floatToFloatBits .f32 b .f64 = none) ∨ (∃ r, floatToFloatBits .f32 b .f64 = some r ∧ isN .f64 r = false ∧ isN .f32 b = false) := by
  unfold floatToFloatBits FloatKind.decode FloatKind.encode
  rw [if_neg (by decide)]
  cases hr : FloatKind.f32.format.read b with
  | nan s m => left; exact ⟨by unfold isN; rw [hr]; rfl, rfl⟩
  | infinity s => right; exact ⟨_, rfl, by unfold isN; exact read_write_not _ rfl, by unfold isN; rw [hr]; rfl⟩
  | number s m p =>
    right
    have hm := read_mag _ hr
    have hp := read_place _ hr
    have ht := read_top _ hr
    have e1 : FloatKind.f32.format.leastPlace = -149 := by decide
    have e2 : FloatKind.f32.format.fractionBits = 23 := by decide
    have e3 : FloatKind.f32.format.exponentBits = 8 := by decide
    have e4 : FloatKind.f64.format.leastPlace = -1074 := by decide
    have e5 : FloatKind.f64.format.fractionBits = 52 := by decide
    have e6 : FloatKind.f64.format.exponentBits = 11 := by decide
    rw [e1] at hp ht; rw [e2] at hm; rw [e3] at ht
    obtain ⟨m', p', hrd, _, _⟩ := read_nearest FloatKind.f64.format good_double s m 0 p (by rw [e5]; omega) (by rw [e4]; omega) (fun h0 => by
      have := log2_lt_of h0 hm
      rw [e4, e5, e6]; omega)
    have hw : FloatKind.f64.format.write (.number s m p) = FloatKind.f64.format.nearest s (m * 2 ^ 0) p := by simp [Format.write]
    refine ⟨_, if_neg ?_, by unfold isN; exact read_write_not _ rfl, by unfold isN; rw [hr]; rfl⟩
    rw [hw, hrd]
    simp [Datum.isInfinity]

@[simp] theorem cn_widened (w : World) (b : Nat) : cn .f64 (cvbits w .f32 .f64 b) = fconv .f32 .f64 (cn .f32 b) := by
  unfold cvbits fconv
  rcases wide_cases b with ⟨h1, h2⟩ | ⟨r, h1, h2, h3⟩
  · rw [h2, cn_of_nan h1]
    have : floatToFloatBits .f32 (qn .f32) .f64 = none := by
      rcases wide_cases (qn .f32) with ⟨_, h⟩ | ⟨_, _, _, h⟩
      · exact h
      · rw [isN_qn] at h; cases h
    simp [this, h1, cn_of_nan (isN_nanConv w .f64 b)]
  · rw [h1, cn_of_not h3, h1]
    simp [cn_of_not h2]

/-! comparisons, folded: so the walk writes them -/
@[go_sem high] theorem cmp_eql (t : TypeId) (k : FloatKind) (a b : Nat) : binOp .eql t (.float k a) (.float k b) = pure (.bool (feq k a b)) := binOp_float_cmp_eql t k a b
@[go_sem high] theorem cmp_neq (t : TypeId) (k : FloatKind) (a b : Nat) : binOp .neq t (.float k a) (.float k b) = pure (.bool (!feq k a b)) := by rw [binOp_float_cmp_neq]; rfl
@[go_sem high] theorem cmp_lss (t : TypeId) (k : FloatKind) (a b : Nat) : binOp .lss t (.float k a) (.float k b) = pure (.bool (flt k a b)) := binOp_float_cmp_lss t k a b
@[go_sem high] theorem cmp_leq (t : TypeId) (k : FloatKind) (a b : Nat) : binOp .leq t (.float k a) (.float k b) = pure (.bool (fle k a b)) := binOp_float_cmp_leq t k a b
@[go_sem high] theorem cmp_gtr (t : TypeId) (k : FloatKind) (a b : Nat) : binOp .gtr t (.float k a) (.float k b) = pure (.bool (fgt k a b)) := binOp_float_cmp_gtr t k a b
@[go_sem high] theorem cmp_geq (t : TypeId) (k : FloatKind) (a b : Nat) : binOp .geq t (.float k a) (.float k b) = pure (.bool (fge k a b)) := binOp_float_cmp_geq t k a b
@[go_sem high] theorem run_eql_cx {P : Program} (w : World) (t : TypeId) (k : FloatKind) (a b c d : Nat) : (binOp .eql t (.complex k a b) (.complex k c d)).run P w = .ok (.bool (feq k a c && feq k b d)) w := run_eql_complex w t k a b c d
@[go_sem high] theorem run_neq_cx {P : Program} (w : World) (t : TypeId) (k : FloatKind) (a b c d : Nat) : (binOp .neq t (.complex k a b) (.complex k c d)).run P w = .ok (.bool (!(feq k a c && feq k b d))) w := run_neq_complex w t k a b c d
theorem feq_def (k : FloatKind) (x y : Nat) : (k.format.order x y == some .eq) = feq k x y := rfl
theorem flt_def (k : FloatKind) (x y : Nat) : (k.format.order x y == some .lt) = flt k x y := rfl
theorem fgt_def (k : FloatKind) (x y : Nat) : (k.format.order x y == some .gt) = fgt k x y := rfl
theorem fle_def (k : FloatKind) (x y : Nat) : (k.format.order x y == some .lt || k.format.order x y == some .eq) = fle k x y := rfl
theorem fge_def (k : FloatKind) (x y : Nat) : (k.format.order x y == some .gt || k.format.order x y == some .eq) = fge k x y := rfl

/-! the walk's own laws: a float's operation leaves new bits of which the value is known, NaNs made one -/
/-- a float's '+', '-', '*', '/' -/
def fshape (o : Oper) (a : Act) : Option (BinOp × FloatKind × Nat × Nat) :=
  match o.guard, o.op with
  | none, .binOp op _ x y _ =>
    match op, a.eval x, a.eval y with
    | .add, .float .f32 m, .float .f32 n => some (.add, .f32, m, n)
    | .sub, .float .f32 m, .float .f32 n => some (.sub, .f32, m, n)
    | .mul, .float .f32 m, .float .f32 n => some (.mul, .f32, m, n)
    | .quo, .float .f32 m, .float .f32 n => some (.quo, .f32, m, n)
    | .add, .float .f64 m, .float .f64 n => some (.add, .f64, m, n)
    | .sub, .float .f64 m, .float .f64 n => some (.sub, .f64, m, n)
    | .mul, .float .f64 m, .float .f64 n => some (.mul, .f64, m, n)
    | .quo, .float .f64 m, .float .f64 n => some (.quo, .f64, m, n)
    | _, _, _ => none
  | _, _ => none

theorem fshape_spec {o : Oper} {a : Act} {op : BinOp} {k : FloatKind} {m n : Nat} (h : fshape o a = some (op, k, m, n)) :
    o.guard = none ∧ (op = .add ∨ op = .sub ∨ op = .mul ∨ op = .quo) ∧ ∃ t x y t', o.op = .binOp op t x y t' ∧ a.eval x = .float k m ∧ a.eval y = .float k n := by
  unfold fshape at h
  split at h
  · rename_i hg ho
    split at h <;> first | (cases h; done) | (cases h; exact ⟨hg, by simp, _, _, _, _, ho, by assumption, by assumption⟩)
  · cases h

@[go_sem] theorem run_store_float (P : Program) (w : World) (a : Addr) (m : Mode) (k : FloatKind) (b : Nat) : (store a (.float k b) m).run P w = stored P w a (.float k b) m := run_store P w a _ m rfl
@[go_sem] theorem run_store_complex (P : Program) (w : World) (a : Addr) (m : Mode) (k : FloatKind) (x y : Nat) : (store a (.complex k x y) m).run P w = stored P w a (.complex k x y) m := run_store P w a _ m rfl
open Go.RowKit in
theorem below_drewN {B : Nat} {a w : World} (h : Below B a w) (n : Nat) : Below B a (w.drewN n) := ⟨h.os, h.tape, h.output, h.size, h.block⟩

section
variable {P : Program} {o : Oper} {a : Act} {w : World} {K : Act → World → Prop} {Q : Exit → Act → World → Prop}
theorem upon_add {t : TypeId} {k : FloatKind} {x y : Nat} (h : ∀ b n, cn k b = fop .add k (cn k x) (cn k y) → Oper.upon P o a K Q (.ok (.value (.float k b)) (w.drewN n))) :
    Oper.upon P o a K Q ((Sem.run P (binOp .add t (.float k x) (.float k y)) w).andThen fun v w' => .ok (.value v) w') := by
  rw [run_fop w .add (by simp) t k x y]; exact h _ _ (cn_fbits w _ k x y)
theorem upon_sub {t : TypeId} {k : FloatKind} {x y : Nat} (h : ∀ b n, cn k b = fop .sub k (cn k x) (cn k y) → Oper.upon P o a K Q (.ok (.value (.float k b)) (w.drewN n))) :
    Oper.upon P o a K Q ((Sem.run P (binOp .sub t (.float k x) (.float k y)) w).andThen fun v w' => .ok (.value v) w') := by
  rw [run_fop w .sub (by simp) t k x y]; exact h _ _ (cn_fbits w _ k x y)
theorem upon_mul {t : TypeId} {k : FloatKind} {x y : Nat} (h : ∀ b n, cn k b = fop .mul k (cn k x) (cn k y) → Oper.upon P o a K Q (.ok (.value (.float k b)) (w.drewN n))) :
    Oper.upon P o a K Q ((Sem.run P (binOp .mul t (.float k x) (.float k y)) w).andThen fun v w' => .ok (.value v) w') := by
  rw [run_fop w .mul (by simp) t k x y]; exact h _ _ (cn_fbits w _ k x y)
theorem upon_quo {t : TypeId} {k : FloatKind} {x y : Nat} (h : ∀ b n, cn k b = fop .quo k (cn k x) (cn k y) → Oper.upon P o a K Q (.ok (.value (.float k b)) (w.drewN n))) :
    Oper.upon P o a K Q ((Sem.run P (binOp .quo t (.float k x) (.float k y)) w).andThen fun v w' => .ok (.value v) w') := by
  rw [run_fop w .quo (by simp) t k x y]; exact h _ _ (cn_fbits w _ k x y)
/-- 'float64(x)' of a single -/
theorem upon_wide {src dst : TypeId} {x : Nat} (h1 : P.underlying src = some (.float .f32)) (h2 : P.underlying dst = some (.float .f64))
    (h : ∀ b n, cn .f64 b = fconv .f32 .f64 (cn .f32 x) → Oper.upon P o a K Q (.ok (.value (.float .f64 b)) (w.drewN n))) :
    Oper.upon P o a K Q ((Sem.run P (convert src dst (.float .f32 x)) w).andThen fun v w' => .ok (.value v) w') := by
  rw [run_convert_ff w src dst .f32 .f64 x (by rw [h1]; rfl) h2]; exact h _ _ (cn_widened w x)
/-- 'float32(x)' of a float64: known where the language says what it is -/
theorem upon_narrow {src dst : TypeId} {x : Nat} (h1 : P.underlying src = some (.float .f64)) (h2 : P.underlying dst = some (.float .f32))
    (h : ∀ b n, (∀ r, floatToFloatBits .f64 x .f32 = some r → b = r) → Oper.upon P o a K Q (.ok (.value (.float .f32 b)) (w.drewN n))) :
    Oper.upon P o a K Q ((Sem.run P (convert src dst (.float .f64 x)) w).andThen fun v w' => .ok (.value v) w') := by
  rw [run_convert_ff w src dst .f64 .f32 x (by rw [h1]; rfl) h2]; exact h _ _ (fun r hr => by unfold cvbits; rw [hr]; rfl)
/-- 'complex128(c)' of a complex64 -/
theorem upon_wideC {src dst : TypeId} {x y : Nat} (h1 : P.underlying src = some (.complex .f32)) (h2 : P.underlying dst = some (.complex .f64))
    (h : ∀ b c n, cn .f64 b = fconv .f32 .f64 (cn .f32 x) → cn .f64 c = fconv .f32 .f64 (cn .f32 y) → Oper.upon P o a K Q (.ok (.value (.complex .f64 b c)) (w.drewN n))) :
    Oper.upon P o a K Q ((Sem.run P (convert src dst (.complex .f32 x y)) w).andThen fun v w' => .ok (.value v) w') := by
  have e1 := run_cv (P := P) w .f32 .f64 x
  have e2 := run_cv (P := P) (w.drewN (cvcnt .f32 .f64 x)) .f32 .f64 y
  have hr : (convert src dst (.complex .f32 x y)).run P w = .ok (.complex .f64 (cvbits w .f32 .f64 x) (cvbits (w.drewN (cvcnt .f32 .f64 x)) .f32 .f64 y)) (w.drewN (cvcnt .f32 .f64 x + cvcnt .f32 .f64 y)) := by
    simp [convert, run_underlying h1, run_underlying h2, Conv.complexToComplex, e1, e2]
  rw [hr]; exact h _ _ _ (cn_widened w x) (cn_widened _ y)
end

end Go.Fx
end
section
namespace Go.Fx
open Ieee

/-! what the program reckons, on bits of which all NaNs are one -/

/-- a cell: brightness, and the parts of the colour -/
structure Cel where
  y : Nat
  re : Nat
  im : Nat
  deriving DecidableEq

def Cel.cn (c : Cel) : Cel := ⟨Fx.cn .f32 c.y, Fx.cn .f32 c.re, Fx.cn .f32 c.im⟩
@[simp] theorem Cel.cn_y (c : Cel) : c.cn.y = Fx.cn .f32 c.y := rfl
@[simp] theorem Cel.cn_re (c : Cel) : c.cn.re = Fx.cn .f32 c.re := rfl
@[simp] theorem Cel.cn_im (c : Cel) : c.cn.im = Fx.cn .f32 c.im := rfl

abbrev add32 (x y : Nat) : Nat := fop .add .f32 x y
abbrev sub32 (x y : Nat) : Nat := fop .sub .f32 x y
abbrev mul32 (x y : Nat) : Nat := fop .mul .f32 x y
abbrev quo32 (x y : Nat) : Nat := fop .quo .f32 x y
abbrev neg32 (x : Nat) : Nat := fneg .f32 x

/-- between '-c' and 'c' -/
def within32 (x c : Nat) : Bool := fge .f32 x (Op.negFloat .f32 c) && fle .f32 x c
@[simp] theorem within32_cn (x c : Nat) : within32 (Fx.cn .f32 x) c = within32 x c := by unfold within32; rw [fge_cn_l, fle_cn_l]

def c256 : Nat := 1132462080
def c1024 : Nat := 1149239296
def c16 : Nat := 1098907648
def c64 : Nat := 1115684864

theorem amt_256 (x : Nat) : fle .f32 (amt x) 1132462080 = within32 x 1132462080 := amt_le x 1132462080 (256 * 2 ^ 149) (by decide +kernel) (by decide)
theorem amt_1024 (x : Nat) : fle .f32 (amt x) 1149239296 = within32 x 1149239296 := amt_le x 1149239296 (1024 * 2 ^ 149) (by decide +kernel) (by decide)
theorem amt_16 (x : Nat) : fle .f32 (amt x) 1098907648 = within32 x 1098907648 := amt_le x 1098907648 (16 * 2 ^ 149) (by decide +kernel) (by decide)
theorem amt_64 (x : Nat) : fle .f32 (amt x) 1115684864 = within32 x 1115684864 := amt_le x 1115684864 (64 * 2 ^ 149) (by decide +kernel) (by decide)

def cellOk (c : Cel) : Bool := within32 c.y 1132462080 && within32 c.re 1132462080 && within32 c.im 1132462080
def rowOk (row : List Cel) : Bool := decide (1 ≤ row.length) && decide (row.length ≤ 64) && row.all cellOk

def conjC (c : Cel) : Cel := ⟨c.y, c.re, neg32 c.im⟩
def half32 (x y : Nat) : Nat := quo32 (add32 x y) 1073741824
/-- what sample n of a cell bears of the colour -/
def carried (re im : Nat) (n : Int) : Nat :=
  if n.emod 4 = 0 then re else if n.emod 4 = 1 then neg32 im else if n.emod 4 = 2 then neg32 re else im
def timesRe (a b x y : Nat) : Nat := sub32 (mul32 a x) (mul32 b y)
def timesIm (a b x y : Nat) : Nat := add32 (mul32 a y) (mul32 b x)
def power (a b : Nat) : Nat := add32 (mul32 a a) (mul32 b b)

def enc1 (odd : Bool) (c : Cel) : List Nat :=
  let im := if odd then neg32 c.im else c.im
  [add32 c.y c.re, add32 c.y (neg32 im), add32 c.y (neg32 c.re), add32 c.y im]
def encode (row : List Cel) (odd : Bool) : List Nat := row.flatMap (enc1 odd)
def dec1 (odd : Bool) (s t u v : Nat) : Cel :=
  let im := quo32 (sub32 v t) 1073741824
  ⟨quo32 (add32 (add32 (add32 s t) u) v) 1082130432, quo32 (sub32 s u) 1073741824, if odd then neg32 im else im⟩
def decode (odd : Bool) : List Nat → List Cel
  | s :: t :: u :: v :: l => dec1 odd s t u v :: decode odd l
  | _ => []

/-- the same, of the raw bits: what 'Carried' hands back -/
def carriedB (re im : Nat) (n : Int) : Nat := if n = 0 then re else if n = 1 then Op.negFloat .f32 im else if n = 2 then Op.negFloat .f32 re else im

/-- a channel -/
structure Chn where
  a : Nat
  off : Nat
  re : Nat
  im : Nat
  deriving DecidableEq
def Chn.cn (c : Chn) : Chn := ⟨Fx.cn .f32 c.a, Fx.cn .f32 c.off, Fx.cn .f32 c.re, Fx.cn .f32 c.im⟩
def chnOk (c : Chn) : Bool := fgt .f32 c.a 0 && fle .f32 c.a 1098907648 && within32 c.off 1115684864 && within32 c.re 1098907648 && within32 c.im 1098907648

def setOk (cells rows : Int) (slice least sat : Nat) (log : Nat) : Bool :=
  decide (1 ≤ cells) && decide (cells ≤ 64) && decide (4 ≤ rows) && decide (rows ≤ 64) && decide (rows % 4 = 0) && within32 slice 1149239296 && fge .f32 least 0 && fle .f32 least 1098907648 && fge .f32 sat 0 && fle .f32 sat 1098907648 && decide (log ≤ 100)

def fine (rs : List Nat) : Bool := rs.all fun x => within32 x 1149239296
def samplesOk (rs : List Nat) : Bool := decide (4 ≤ rs.length) && decide (rs.length ≤ 4096) && decide (rs.length % 4 = 0) && fine rs
def lineOk (rs : List Nat) : Bool := decide (28 ≤ rs.length) && decide (rs.length ≤ 280) && decide (rs.length % 4 = 0) && fine rs
theorem fine_cns (rs : List Nat) : fine (rs.map (Fx.cn .f32)) = fine rs := by unfold fine; rw [List.all_map]; congr 1; funext x; simp
theorem all_take_step {α : Type} (p : α → Bool) {l : List α} {k : Nat} (h : k < l.length) (ha : (l.take k).all p = true) (hp : p l[k] = true) : (l.take (k + 1)).all p = true := by
  rw [List.take_succ_eq_append_getElem h, List.all_append, ha]; simp [hp]
theorem all_not {α : Type} (p : α → Bool) {l : List α} {k : Nat} (h : k < l.length) (hp : p l[k] = false) : l.all p = false := by
  rw [List.all_eq_false]; exact ⟨l[k], List.getElem_mem h, by simp [hp]⟩

end Go.Fx
end
section
namespace Go.Fx
open Go.RowKit
set_option linter.unusedVariables false
set_option linter.unusedSimpArgs false

/-! slices that are read, slices that the call owns -/

abbrev fl (x : Nat) : Value := .float .f32 x
abbrev it (n : Int) : Value := .int .i64 n

/-- the value '.slice A n c' reads as these cells; it lies among the blocks of 'w' -/
def Rd (w : World) (A : Option Addr) (cs : List Value) : Prop :=
  cs = [] ∨ ∃ b off, A = some ⟨b, off, none⟩ ∧ b < w.heap.size ∧ ∀ j u, cs[j]? = some u → w.cell? ⟨b, off + j, none⟩ = some u

/-- what a call leaves: nothing that was there has turned -/
abbrev Ext (w w' : World) : Prop := Below w.heap.size w w'

theorem Ext.refl (w : World) : Ext w w := Below.refl _ _
theorem Ext.trans {a b c : World} (h : Ext a b) (k : Ext b c) : Ext a c := Below.trans h (k.mono h.size)
theorem Ext.drewN (w : World) (n : Nat) : Ext w (w.drewN n) := below_drewN (Below.refl _ _) n

theorem Ext.step {a b c d : World} (h : Ext a b) (hd : ∃ n, c = b.drewN n) (k : Ext c d) : Ext a d := by
  obtain ⟨n, rfl⟩ := hd
  exact Ext.trans (Ext.trans h (Ext.drewN b n)) k
section
variable {w w' : World} {A : Option Addr} {cs : List Value}
theorem Rd.nil (w : World) (A : Option Addr) : Rd w A [] := .inl rfl
theorem Rd.ext (h : Rd w A cs) (e : Ext w w') : Rd w' A cs := by
  rcases h with h | ⟨b, off, hA, hb, hc⟩
  · exact .inl h
  · refine .inr ⟨b, off, hA, Nat.lt_of_lt_of_le hb e.size, fun j u hu => ?_⟩
    rw [e.cell (p := ⟨b, off + j, none⟩) hb]
    exact hc j u hu
theorem Rd.drewN (h : Rd w A cs) (n : Nat) : Rd (w.drewN n) A cs := h.ext (Ext.drewN w n)
/-- only block g, and what is new, has turned -/
theorem Rd.grown {row : Option Nat} (h : Rd w A cs) (e : w.grownBy w' row) (hne : ∀ ad, A = some ad → cs ≠ [] → some ad.block ≠ row) : Rd w' A cs := by
  rcases h with h | ⟨b, off, hA, hb, hc⟩
  · exact .inl h
  · by_cases hcs : cs = []
    · exact .inl hcs
    · refine .inr ⟨b, off, hA, Nat.lt_of_lt_of_le hb e.size, fun j u hu => ?_⟩
      rw [World.cell?_of_block (w := w) (a := ⟨b, off + j, none⟩) (e.block b hb (hne _ hA hcs))]
      exact hc j u hu
end

/-! rows of the call's own -/
section
variable {w w' : World} {base : Nat} {E : TypeId} {size n : Nat} {v : Value} {xs : List Value}
theorem own_form (h : w.ownsRow base E size v n xs) : (v = .slice none 0 0 ∧ n = 0 ∧ xs = []) ∨ ∃ g c, v = .slice (some ⟨g, 0, none⟩) n c ∧ base ≤ g ∧ g < w.heap.size ∧ n ≤ c ∧ c ≤ maxLen := by
  obtain ⟨hl, h⟩ := h
  rcases h with ⟨rfl, rfl⟩ | ⟨g, cap, cur, rfl, hb, hg, hn, hc, _⟩
  · exact .inl ⟨rfl, rfl, List.eq_nil_of_length_eq_zero (by simpa using hl)⟩
  · exact .inr ⟨g, cap, rfl, hb, (Array.getElem?_eq_some_iff.1 hg).1, hn, hc⟩
theorem own_slice (h : w.ownsRow base E size v n xs) : ∃ A c, v = .slice A n c ∧ Rd w A xs ∧ (A = none → n = 0) := by
  rcases own_form h with ⟨rfl, rfl, rfl⟩ | ⟨g, c, rfl, _, hg, _, _⟩
  · exact ⟨none, 0, rfl, .inl rfl, fun _ => rfl⟩
  · refine ⟨_, c, rfl, .inr ⟨g, 0, rfl, hg, fun j u hu => ?_⟩, fun h => by cases h⟩
    have := h.cells (g := g) rfl j u hu
    unfold Addr.add at this
    by_cases hj : j = 0
    · subst hj; simpa using this
    · simpa [hj] using this
theorem own_cell {g c : Nat} (h : w.ownsRow base E size (.slice (some ⟨g, 0, none⟩) n c) n xs) {j : Nat} {u : Value} (hu : xs[j]? = some u) : w.cell? ⟨g, j, none⟩ = some u := by
  have := h.cells (g := g) rfl j u hu
  unfold Addr.add at this
  by_cases hj : j = 0
  · subst hj; simpa using this
  · simpa [hj] using this
theorem own_frozen {g c : Nat} (h : w.ownsRow base E size (.slice (some ⟨g, 0, none⟩) n c) n xs) (j : Nat) : w.frozen? ⟨g, j, none⟩ = false := by
  rcases h.2 with ⟨h, _⟩ | ⟨g', cap, cur, hv, _, hg, _⟩
  · cases h
  · cases hv
    simp [World.frozen?, hg]
theorem own_set {g c : Nat} (h : w.ownsRow base E size (.slice (some ⟨g, 0, none⟩) n c) n xs) {j : Nat} (u : Value) :
    (w.setCell ⟨g, j, none⟩ u).ownsRow base E size (.slice (some ⟨g, 0, none⟩) n c) n (xs.set j u) := by
  obtain ⟨hl, h⟩ := h
  refine ⟨by simpa using hl, ?_⟩
  rcases h with ⟨h, _⟩ | ⟨g', cap, cur, hv, hb, hg, hn, hc, hs, ht⟩
  · cases h
  · cases hv
    refine .inr ⟨g, c, cur.setIfInBounds j u, rfl, hb, ?_, hn, hc, by simpa using hs, ?_⟩
    · simp [World.setCell, Array.getElem?_modify, hg]
    · rw [Array.toList_setIfInBounds, List.take_set, ht]
theorem own_draw (h : w.ownsRow base E size v n xs) (k : Nat) : (w.drewN k).ownsRow base E size v n xs := h
theorem own_ext (h : w.ownsRow base E size v n xs) (e : Ext w w') : w'.ownsRow base E size v n xs := by
  refine ⟨h.1, ?_⟩
  rcases h.2 with hn | ⟨g, cap, cur, rfl, hb, hgg, rest⟩
  · exact .inl hn
  · exact .inr ⟨g, cap, cur, rfl, hb, (e.block g (Array.getElem?_eq_some_iff.1 hgg).1).trans hgg, rest⟩
theorem own_base {base' : Nat} (h : w.ownsRow base E size v n xs) (hb : base' ≤ base) : w.ownsRow base' E size v n xs := by
  refine ⟨h.1, ?_⟩
  rcases h.2 with hn | ⟨g, cap, cur, hv, hb', rest⟩
  · exact .inl hn
  · exact .inr ⟨g, cap, cur, hv, by omega, rest⟩
theorem grown_ext {row : Option Nat} (h : w.grownBy w' row) (hr : ∀ k, row = some k → w.heap.size ≤ k) : Ext w w' :=
  ⟨h.os, h.tape, h.output, h.size, fun k hk => h.block k hk (fun e => by have := hr k e.symm; omega)⟩
theorem grown_none (h : w.grownBy w' none) : Ext w w' := grown_ext h (fun k hk => by cases hk)
end

theorem grown_refl (w : World) (row : Option Nat) : w.grownBy w row := ⟨rfl, rfl, rfl, Nat.le_refl _, fun _ _ _ => rfl⟩
theorem grown_drewN {w w' : World} {row : Option Nat} (h : w.grownBy w' row) (n : Nat) : w.grownBy (w'.drewN n) row := ⟨h.os, h.tape, h.output, h.size, h.block⟩
theorem grown_set {w w' : World} {row : Option Nat} (h : w.grownBy w' row) {p : Addr} (hp : some p.block = row ∨ w.heap.size ≤ p.block) (u : Value) : w.grownBy (w'.setCell p u) row :=
  ⟨h.os, h.tape, h.output, by simpa [World.setCell] using h.size, fun k hk hne => by
    rw [Below.heap_setCell w' p u k (fun e => by
      subst e
      rcases hp with hp | hp
      · exact hne hp
      · omega)]
    exact h.block k hk hne⟩
theorem grown_ext' {w w1 w2 : World} {row : Option Nat} (h : w.grownBy w1 row) (e : Ext w1 w2) : w.grownBy w2 row :=
  ⟨e.os.trans h.os, e.tape.trans h.tape, e.output.trans h.output, Nat.le_trans h.size e.size, fun k hk hne => (e.block k (Nat.lt_of_lt_of_le hk h.size)).trans (h.block k hk hne)⟩
theorem ext_grown {w w1 w2 : World} {row : Option Nat} (e : Ext w w1) (h : w1.grownBy w2 row) : w.grownBy w2 row :=
  ⟨h.os.trans e.os, h.tape.trans e.tape, h.output.trans e.output, Nat.le_trans e.size h.size, fun k hk hne => (h.block k (Nat.lt_of_lt_of_le hk e.size) hne).trans (e.block k hk)⟩
theorem grown_trans {w w1 w2 : World} {row : Option Nat} (e : w.grownBy w1 row) (h : w1.grownBy w2 row) : w.grownBy w2 row :=
  ⟨h.os.trans e.os, h.tape.trans e.tape, h.output.trans e.output, Nat.le_trans e.size h.size, fun k hk hne => (h.block k (Nat.lt_of_lt_of_le hk e.size) hne).trans (e.block k hk hne)⟩
/-- an owned row where there is an element -/
theorem own_at {w : World} {base : Nat} {E : TypeId} {size n c : Nat} {A : Option Addr} {xs : List Value} (h : w.ownsRow base E size (.slice A n c) n xs) (hn : 0 < n) : ∃ g, A = some ⟨g, 0, none⟩ ∧ base ≤ g ∧ g < w.heap.size := by
  rcases own_form h with ⟨h1, h2, _⟩ | ⟨g, c', hv, hb, hg, _, _⟩
  · omega
  · cases hv; exact ⟨g, rfl, hb, hg⟩

/-! the elements' cells -/
@[simp] theorem getElem?_fl (rs : List Nat) (j : Nat) : (rs.map fl)[j]? = (rs[j]?).map fl := by simp
theorem rf_at {w : World} {A : Option Addr} {rs : List Nat} (h : Rd w A (rs.map fl)) {i : Nat} (hi : i < rs.length) :
    ∃ b off, A = some ⟨b, off, none⟩ ∧ b < w.heap.size ∧ w.cell? ⟨b, off + i, none⟩ = some (.float .f32 rs[i]) := by
  rcases h with h | ⟨b, off, hA, hb, hc⟩
  · have : rs = [] := by simpa using h
    subst this; simp at hi
  · exact ⟨b, off, hA, hb, hc i _ (by simp [hi])⟩
theorem ri_at {w : World} {A : Option Addr} {rs : List Int} (h : Rd w A (rs.map it)) {i : Nat} (hi : i < rs.length) :
    ∃ b off, A = some ⟨b, off, none⟩ ∧ b < w.heap.size ∧ w.cell? ⟨b, off + i, none⟩ = some (.int .i64 rs[i]) := by
  rcases h with h | ⟨b, off, hA, hb, hc⟩
  · have : rs = [] := by simpa using h
    subst this; simp at hi
  · exact ⟨b, off, hA, hb, hc i _ (by simp [hi])⟩

def cells2 {α : Type} (f g : α → Value) (xs : List α) : List Value := xs.flatMap fun x => [f x, g x]
theorem cells2_len {α : Type} (f g : α → Value) (xs : List α) : (cells2 f g xs).length = xs.length * 2 := by
  unfold cells2
  induction xs with
  | nil => rfl
  | cons x l ih => rw [List.flatMap_cons, List.length_append, ih]; simp; omega
theorem cells2_at {α : Type} (f g : α → Value) (xs : List α) {i : Nat} (hi : i < xs.length) : (cells2 f g xs)[i * 2]? = some (f xs[i]) ∧ (cells2 f g xs)[i * 2 + 1]? = some (g xs[i]) := by
  unfold cells2
  induction xs generalizing i with
  | nil => simp at hi
  | cons x l ih =>
    cases i with
    | zero => simp [List.flatMap_cons]
    | succ i =>
      have := ih (i := i) (by simpa using hi)
      rw [List.flatMap_cons]
      have e1 : (i + 1) * 2 = i * 2 + 2 := by omega
      rw [e1]
      simpa using this
abbrev c1 (c : Cel) : Value := .float .f32 c.y
abbrev c2 (c : Cel) : Value := .complex .f32 c.re c.im
abbrev ccells (cs : List Cel) : List Value := cells2 c1 c2 cs
theorem rc_at {w : World} {A : Option Addr} {cs : List Cel} (h : Rd w A (ccells cs)) {i : Nat} (hi : i < cs.length) :
    ∃ b off, A = some ⟨b, off, none⟩ ∧ b < w.heap.size ∧ w.cell? ⟨b, off + i * 2, none⟩ = some (.float .f32 cs[i].y) ∧ w.cell? ⟨b, off + i * 2 + 1, none⟩ = some (.complex .f32 cs[i].re cs[i].im) := by
  rcases h with h | ⟨b, off, hA, hb, hc⟩
  · have h2 : (ccells cs).length = cs.length * 2 := cells2_len _ _ _
    rw [h] at h2; simp at h2; omega
  · obtain ⟨h1, h2⟩ := cells2_at c1 c2 cs hi
    exact ⟨b, off, hA, hb, hc _ _ h1, by have := hc _ _ h2; rwa [← Nat.add_assoc] at this⟩

/-- the canonical numbers of raw ones -/
abbrev cns (rs : List Nat) : List Nat := rs.map (cn .f32)
abbrev ccn (cs : List Cel) : List Cel := cs.map Cel.cn

/-- the first k of these cells are those -/
def Upto (k : Nat) (xs ys : List Value) : Prop := xs.length = ys.length ∧ ∀ j, j < k → xs[j]? = ys[j]?
theorem Upto.zero {xs ys : List Value} (h : xs.length = ys.length) : Upto 0 xs ys := ⟨h, fun j hj => by omega⟩
theorem Upto.step {k : Nat} {xs ys : List Value} (h : Upto k xs ys) {u : Value} (hu : ys[k]? = some u) : Upto (k + 1) (xs.set k u) ys := by
  refine ⟨by simpa using h.1, fun j hj => ?_⟩
  by_cases hjk : j = k
  · subst hjk
    have := (List.getElem?_eq_some_iff.1 hu).1
    rw [List.getElem?_set_self (by rw [h.1]; exact this), hu]
  · rw [List.getElem?_set_ne (by omega)]
    exact h.2 j (by omega)
theorem Upto.step2 {k : Nat} {xs ys : List Value} (h : Upto (2 * k) xs ys) {u v : Value} (hu : ys[2 * k]? = some u) (hv : ys[2 * k + 1]? = some v) : Upto (2 * (k + 1)) ((xs.set (2 * k) u).set (2 * k + 1) v) ys :=
  (h.step hu).step hv
theorem Upto.all {xs ys : List Value} (h : Upto ys.length xs ys) : xs = ys := by
  apply List.ext_getElem? 
  intro j
  by_cases hj : j < ys.length
  · exact h.2 j hj
  · rw [List.getElem?_eq_none (by have := h.1; omega), List.getElem?_eq_none (by omega)]

end Go.Fx
end
section
namespace Go.Fx
open Go.RowKit
set_option linter.unusedVariables false
set_option linter.unusedSimpArgs false

/-! append onto a row of the call's own: the source nil, empty or not -/
section
variable {P : Program} {w : World}

theorem run_app_nil (base : Nat) (t ty e : TypeId) (i : TypeInfo) (size : Nat) (ht : P.underlying t = some (.slice e)) (hi : P.info? e = some i)
    (v : Value) (n : Nat) (xs : List Value) (hown : w.ownsRow base e size v n xs) (c : Nat) : (Builtin.append_ #[t, t] ty #[v, .slice none 0 c]).run P w = .ok v w := by
  rcases hown.2 with ⟨rfl, rfl⟩ | ⟨g, cap, cur, rfl, _, _, hnc, _⟩
  · simp [Builtin.append_, run_underlying ht, sizeOf, typeInfo, hi, Builtin.lenOf, Builtin.firstCells]
  · simp [Builtin.append_, run_underlying ht, sizeOf, typeInfo, hi, Builtin.lenOf, Builtin.firstCells, hnc, storeCells]

theorem run_app (base : Nat) (t ty e : TypeId) (i : TypeInfo) (z : Value) (size bytes : Nat) (ht : P.underlying t = some (.slice e)) (hi : P.info? e = some i) (hz : i.zero = some z)
    (hsize : i.size = size) (hby : i.bytes = bytes) (hzs : z.cells.size = size) (hsz : 0 < size)
    (v : Value) (n : Nat) (xs : List Value) (hown : w.ownsRow base e size v n xs)
    (A : Option Addr) (m c : Nat) (news : List Value) (hr : Rd w A news) (hl : news.length = m * size) (hA : A = none → m = 0) (h1 : ∀ u ∈ news, u.oneCell' = true)
    (h63 : n + m ≤ maxLen) (hbytes : (n + m) * bytes ≤ 140737488355328) (hbase : base ≤ w.heap.size) :
    ∃ v' w', (Builtin.append_ #[t, t] ty #[v, .slice A m c]).run P w = .ok v' w' ∧ w'.ownsRow base e size v' (n + m) (xs ++ news) ∧ w.grownBy w' v.ownBlock ∧
      (v'.ownBlock = v.ownBlock ∨ v'.ownBlock = some w.heap.size) := by
  rcases A with _ | ad
  · have hm := hA rfl
    subst hm
    have hn : news = [] := List.eq_nil_of_length_eq_zero (by simpa using hl)
    subst hn
    exact ⟨v, w, run_app_nil base t ty e i size ht hi v n xs hown c, by simpa using hown, grown_refl w _, .inl rfl⟩
  · have hcells : ∀ j u, news[j]? = some u → w.cell? (ad.add j) = some u := by
      intro j u hu
      rcases hr with h | ⟨b, off, hAd, hb, hc⟩
      · subst h; simp at hu
      · cases hAd
        have := hc j u hu
        unfold Addr.add
        by_cases hj : j = 0
        · subst hj; simpa using this
        · simpa [hj] using this
    obtain ⟨v', w', hrun, h2, h3, _, h5⟩ := run_append_own_at (P := P) w base t ty e i z size bytes ht hi hz hsize hby hzs hsz v n xs hown ad m c news hl hcells h1 h63 hbytes hbase
    exact ⟨v', w', hrun, h2, h3, h5⟩

theorem wpList_app {ops : Array Oper} {rest : List Oper} {o : Oper} {a : Act} {Q : Exit → Act → World → Prop} (hgd : o.guard = none) (s x : Operand) (t : TypeId)
    (ho : o.op = .call { callee := .builtin .append, args := #[s, x], argTypes := #[t, t] })
    (base : Nat) (e : TypeId) (z : Value) (size bytes : Nat) (ht : P.underlying t = some (.slice e)) (hinfo : (P.info? e).map (fun i => (i.zero, i.size, i.bytes)) = some (some z, size, bytes)) (hzs : z.cells.size = size) (hsz : 0 < size)
    (v : Value) (n : Nat) (xs : List Value) (hs : a.eval s = v) (hown : w.ownsRow base e size v n xs)
    (A : Option Addr) (m c : Nat) (news : List Value) (hx : a.eval x = .slice A m c) (hr : Rd w A news) (hl : news.length = m * size) (hA : A = none → m = 0) (h1 : ∀ u ∈ news, u.oneCell' = true)
    (h63 : n + m ≤ maxLen) (hbytes : (n + m) * bytes ≤ 140737488355328) (hbase : base ≤ w.heap.size)
    (h : ∀ v' w', w'.ownsRow base e size v' (n + m) (xs ++ news) → w.grownBy w' v.ownBlock → (v'.ownBlock = v.ownBlock ∨ v'.ownBlock = some w.heap.size) → wpList P ops Q rest (a.put o.dst v') w') : wpList P ops Q (o :: rest) a w := by
  refine wpList_plain hgd fun K hK => ?_
  obtain ⟨i, hi, hz, hsize, hby⟩ := info_parts hinfo
  obtain ⟨v', w', hrun, h2, h3, h4⟩ := run_app (P := P) base t o.type e i z size bytes ht hi hz hsize hby hzs hsz v n xs hown A m c news hr hl hA h1 h63 hbytes hbase
  unfold Oper.wp execOp
  simp only [ho, resolve, invoke, builtin, Sem.run_bind, Sem.run_pure, Result.andThen_ok, List.map_toArray, List.map_cons, List.map_nil, hs, hx, hrun]
  exact hK _ _ (h v' w' h2 h3 h4)
/-- the same as one step of a region that draws -/
theorem step_app {ops : Array Oper} {o : Oper} {a : Act} {K : Act → World → Prop} {Q : Exit → Act → World → Prop} {E : Prop} (hgd : o.guard = none) (s x : Operand) (t : TypeId)
    (ho : o.op = .call { callee := .builtin .append, args := #[s, x], argTypes := #[t, t] })
    (base : Nat) (e : TypeId) (z : Value) (size bytes : Nat) (ht : P.underlying t = some (.slice e)) (hinfo : (P.info? e).map (fun i => (i.zero, i.size, i.bytes)) = some (some z, size, bytes)) (hzs : z.cells.size = size) (hsz : 0 < size)
    (v : Value) (n : Nat) (xs : List Value) (hs : a.eval s = v) (hown : w.ownsRow base e size v n xs)
    (A : Option Addr) (m c : Nat) (news : List Value) (hx : a.eval x = .slice A m c) (hr : Rd w A news) (hl : news.length = m * size) (hA : A = none → m = 0) (h1 : ∀ u ∈ news, u.oneCell' = true)
    (h63 : n + m ≤ maxLen) (hbytes : (n + m) * bytes ≤ 140737488355328) (hbase : base ≤ w.heap.size)
    (h : ∀ v' w', w'.ownsRow base e size v' (n + m) (xs ++ news) → w.grownBy w' v.ownBlock → (v'.ownBlock = v.ownBlock ∨ v'.ownBlock = some w.heap.size) → K (a.put o.dst v') w') :
    if Region.wanted o (yielded ops a.tmps) = true then Oper.wp P o a w K Q else E := by
  have hw : Region.wanted o (yielded ops a.tmps) = true := by simp [Region.wanted, hgd]
  rw [if_pos hw]
  obtain ⟨i, hi, hz, hsize, hby⟩ := info_parts hinfo
  obtain ⟨v', w', hrun, h2, h3, h4⟩ := run_app (P := P) base t o.type e i z size bytes ht hi hz hsize hby hzs hsz v n xs hown A m c news hr hl hA h1 h63 hbytes hbase
  unfold Oper.wp execOp
  simp only [ho, resolve, invoke, builtin, Sem.run_bind, Sem.run_pure, Result.andThen_ok, List.map_toArray, List.map_cons, List.map_nil, hs, hx, hrun]
  exact h v' w' h2 h3 h4

/-- a block that was just laid reads as what it was laid with -/
theorem rd_new (w : World) (cs : Array Value) (E : TypeId) (m : Nat × Nat) : Rd (w.alloc (.cells cs E m)) (some ⟨w.heap.size, 0, none⟩) cs.toList :=
  .inr ⟨_, 0, rfl, by simp, fun j u hu => by
    rw [Nat.zero_add, cell_of_row _ _ _ _ _ _ (heap_alloc_new w _)]
    simpa using hu⟩
/-- 'S{}': an empty row of the call's own -/
theorem own_new (w : World) (base : Nat) (E : TypeId) (size : Nat) (hb : base ≤ w.heap.size) : (w.alloc (.cells #[] E)).ownsRow base E size (.slice (some ⟨w.heap.size, 0, none⟩) 0 0) 0 [] :=
  World.ownsRow_made w #[] 0 hb (Nat.zero_le _) (by simp)
theorem ext_grow {w0 : World} {w w' : World} {base : Nat} {E : TypeId} {size n : Nat} {v : Value} {xs : List Value} (h : Ext w0 w) (ho : w.ownsRow base E size v n xs) (hb : w0.heap.size ≤ base) (hg : w.grownBy w' v.ownBlock) : Ext w0 w' :=
  ⟨hg.os.trans h.os, hg.tape.trans h.tape, hg.output.trans h.output, Nat.le_trans h.size hg.size, fun k hk => by
    rw [hg.block k (Nat.lt_of_lt_of_le hk h.size) (fun e => by have := (ho.lt k e.symm).1; omega)]
    exact h.block k hk⟩
end
theorem oneCell_fl {rs : List Nat} : ∀ u ∈ rs.map fl, u.oneCell' = true := by
  intro u hu; obtain ⟨x, _, rfl⟩ := List.mem_map.1 hu; rfl
theorem oneCell_cells2 {α : Type} {f g : α → Value} {xs : List α} (hf : ∀ x, (f x).oneCell' = true) (hg : ∀ x, (g x).oneCell' = true) : ∀ u ∈ cells2 f g xs, u.oneCell' = true := by
  intro u hu
  unfold cells2 at hu
  obtain ⟨x, _, hx⟩ := List.mem_flatMap.1 hu
  simp only [List.mem_cons, List.not_mem_nil, or_false] at hx
  rcases hx with rfl | rfl
  · exact hf x
  · exact hg x
theorem cells2_app {α : Type} (f g : α → Value) (xs ys : List α) : cells2 f g xs ++ cells2 f g ys = cells2 f g (xs ++ ys) := by unfold cells2; rw [List.flatMap_append]

end Go.Fx
end
section
namespace Go.Fx
open Go.RowKit
set_option linter.unusedVariables false
set_option linter.unusedSimpArgs false

/-- behind k rounds: the first k as they are to be, the others as they were -/
structure Mix (k : Nat) (ys ts os : List Value) : Prop where
  len : ys.length = os.length
  lent : ts.length = os.length
  new : ∀ j, j < k → ys[j]? = ts[j]?
  old : ∀ j, k ≤ j → ys[j]? = os[j]?
theorem Mix.start {ts os : List Value} (k : Nat) (hl : ts.length = os.length) (h : ∀ j, j < k → ts[j]? = os[j]?) : Mix k os ts os := ⟨rfl, hl, fun j hj => (h j hj).symm, fun _ _ => rfl⟩
theorem Mix.set {k : Nat} {ys ts os : List Value} (h : Mix k ys ts os) {u : Value} (hu : ts[k]? = some u) : Mix (k + 1) (ys.set k u) ts os := by
  have hk := (List.getElem?_eq_some_iff.1 hu).1
  refine ⟨by simpa using h.len, h.lent, fun j hj => ?_, fun j hj => ?_⟩
  · by_cases e : j = k
    · subst e; rw [List.getElem?_set_self (by have := h.len; have := h.lent; omega), hu]
    · rw [List.getElem?_set_ne (by omega)]; exact h.new j (by omega)
  · rw [List.getElem?_set_ne (by omega)]; exact h.old j (by omega)
theorem Mix.keep {k : Nat} {ys ts os : List Value} (h : Mix k ys ts os) (hu : ts[k]? = os[k]?) : Mix (k + 1) ys ts os := by
  refine ⟨h.len, h.lent, fun j hj => ?_, fun j hj => h.old j (by omega)⟩
  by_cases e : j = k
  · subst e; rw [h.old j (Nat.le_refl _), hu]
  · exact h.new j (by omega)
theorem Mix.done {k : Nat} {ys ts os : List Value} (h : Mix k ys ts os) (hr : ∀ j, k ≤ j → ts[j]? = os[j]?) : ys = ts := by
  apply List.ext_getElem?
  intro j
  by_cases e : j < k
  · exact h.new j e
  · rw [h.old j (by omega), hr j (by omega)]

def eraseF (at_ n : Int) (i : Nat) (x : Nat) : Nat := if at_ ≤ i ∧ i < at_ + n then 0 else x
def erase (rs : List Nat) (at_ n : Int) : List Nat := if 0 ≤ n ∧ n ≤ 280 then rs.mapIdx (eraseF at_ n) else rs
theorem erase_len (rs : List Nat) (at_ n : Int) : (erase rs at_ n).length = rs.length := by unfold erase; split <;> simp
theorem erase_at {rs : List Nat} {at_ n : Int} (h : 0 ≤ n ∧ n ≤ 280) {k : Nat} (hk : k < rs.length) : ((erase rs at_ n).map fl)[k]? = some (fl (if at_ ≤ k ∧ k < at_ + n then 0 else rs[k])) := by
  unfold erase; rw [if_pos h]; simp [hk, eraseF]
theorem erase_none {rs : List Nat} {at_ n : Int} (h : ¬ (0 ≤ n ∧ n ≤ 280)) : erase rs at_ n = rs := by unfold erase; rw [if_neg h]

/-- runs of low samples: (begin, length) -/
def lowsFrom (low : Nat → Bool) : (i n : Nat) → List Nat → List (Int × Int)
  | i, n, [] => if 5 ≤ n then [((i : Int) - n, (n : Int))] else []
  | i, n, x :: r => if low x then lowsFrom low (i + 1) (n + 1) r else (if 5 ≤ n then [((i : Int) - n, (n : Int))] else []) ++ lowsFrom low (i + 1) 0 r
def lows (rs : List Nat) (slice : Nat) : List (Int × Int) := if 20000 < rs.length then [] else lowsFrom (fun x => fle .f32 x slice) 0 0 rs

/-- where the walk over the samples stands -/
def LowsAt (low : Nat → Bool) (rs : List Nat) (k m : Nat) (acc all : List (Int × Int)) : Prop :=
  (k ≤ rs.length ∧ all = acc ++ lowsFrom low k m (rs.drop k)) ∨ (k = rs.length + 1 ∧ all = acc)
section
variable {low : Nat → Bool} {rs : List Nat} {k m : Nat} {acc all : List (Int × Int)}
theorem LowsAt.finish (h : LowsAt low rs k m acc all) (e : k = rs.length + 1) : all = acc := by
  rcases h with h | h
  · omega
  · exact h.2
theorem LowsAt.now (h : LowsAt low rs k m acc all) (e : k ≤ rs.length) : all = acc ++ lowsFrom low k m (rs.drop k) := by
  rcases h with h | h
  · exact h.2
  · omega
theorem LowsAt.step_in (h : LowsAt low rs k m acc all) (hlt : k < rs.length) (hl : low rs[k] = true) : LowsAt low rs (k + 1) (m + 1) acc all := by
  refine .inl ⟨hlt, ?_⟩
  rw [h.now (Nat.le_of_lt hlt), List.drop_eq_getElem_cons hlt, lowsFrom, if_pos hl]
theorem LowsAt.step_out (h : LowsAt low rs k m acc all) (hlt : k < rs.length) (hl : low rs[k] = false) (h5 : 5 ≤ m) : LowsAt low rs (k + 1) 0 (acc ++ [((k : Int) - m, (m : Int))]) all := by
  refine .inl ⟨hlt, ?_⟩
  rw [h.now (Nat.le_of_lt hlt), List.drop_eq_getElem_cons hlt, lowsFrom, if_neg (by simp [hl]), if_pos h5, List.append_assoc]
theorem LowsAt.step_low (h : LowsAt low rs k m acc all) (hlt : k < rs.length) (hl : low rs[k] = false) (h5 : ¬ 5 ≤ m) : LowsAt low rs (k + 1) 0 acc all := by
  refine .inl ⟨hlt, ?_⟩
  rw [h.now (Nat.le_of_lt hlt), List.drop_eq_getElem_cons hlt, lowsFrom, if_neg (by simp [hl]), if_neg h5, List.nil_append]
theorem LowsAt.end_out (h : LowsAt low rs rs.length m acc all) (h5 : 5 ≤ m) : LowsAt low rs (rs.length + 1) 0 (acc ++ [((rs.length : Int) - m, (m : Int))]) all := by
  refine .inr ⟨rfl, ?_⟩
  rw [h.now (Nat.le_refl _), List.drop_length, lowsFrom, if_pos h5]
theorem LowsAt.end_low (h : LowsAt low rs rs.length m acc all) (h5 : ¬ 5 ≤ m) : LowsAt low rs (rs.length + 1) 0 acc all := by
  refine .inr ⟨rfl, ?_⟩
  rw [h.now (Nat.le_refl _), List.drop_length, lowsFrom, if_neg h5, List.append_nil]
end

end Go.Fx
end
section
namespace Go.Fx
open Go.RowKit
set_option linter.unusedVariables false
set_option linter.unusedSimpArgs false

/-! rows that stay while others turn: 'In v lo hi': the block of v lies from lo to below hi -/
def In (v : Value) (lo hi : Nat) : Prop := ∀ b, v.ownBlock = some b → lo ≤ b ∧ b < hi
theorem own_in {w : World} {base : Nat} {E : TypeId} {size n : Nat} {v : Value} {xs : List Value} (h : w.ownsRow base E size v n xs) : In v base w.heap.size := fun b hb => h.lt b hb
theorem In.mono {v : Value} {a b c d : Nat} (h : In v a b) (h1 : c ≤ a) (h2 : b ≤ d) : In v c d := fun x hx => ⟨Nat.le_trans h1 (h x hx).1, Nat.lt_of_lt_of_le (h x hx).2 h2⟩
theorem own_apart {w w' : World} {base : Nat} {E : TypeId} {size n : Nat} {v : Value} {xs : List Value} {row : Option Nat} (h : w.ownsRow base E size v n xs) (hg : w.grownBy w' row) (hne : ∀ b, v.ownBlock = some b → some b ≠ row) : w'.ownsRow base E size v n xs := by
  refine ⟨h.1, ?_⟩
  rcases h.2 with hn | ⟨g, cap, cur, rfl, hb, hgg, rest⟩
  · exact .inl hn
  · exact .inr ⟨g, cap, cur, rfl, hb, (hg.block g (Array.getElem?_eq_some_iff.1 hgg).1 (hne g rfl)).trans hgg, rest⟩
theorem own_past {w w' : World} {base : Nat} {E : TypeId} {size n : Nat} {v u : Value} {xs : List Value} {a b c d : Nat} (h : w.ownsRow base E size v n xs) (hg : w.grownBy w' u.ownBlock) (hv : In v a b) (hu : In u c d) (hd : b ≤ c ∨ d ≤ a) : w'.ownsRow base E size v n xs :=
  own_apart h hg fun x hx e => by
    have h1 := hv x hx
    have h2 := hu x e.symm
    omega
theorem ext_in {w0 w w' : World} {u : Value} {c d : Nat} (h : Ext w0 w) (hg : w.grownBy w' u.ownBlock) (hu : In u c d) (hc : w0.heap.size ≤ c) : Ext w0 w' :=
  ⟨hg.os.trans h.os, hg.tape.trans h.tape, hg.output.trans h.output, Nat.le_trans h.size hg.size, fun k hk => by
    rw [hg.block k (Nat.lt_of_lt_of_le hk h.size) (fun e => by have := (hu k e.symm).1; omega)]
    exact h.block k hk⟩
theorem own_rd {w : World} {base : Nat} {E : TypeId} {size n c : Nat} {A : Option Addr} {xs : List Value} (h : w.ownsRow base E size (.slice A n c) n xs) : Rd w A xs := by
  obtain ⟨A', c', hv, hr, _⟩ := own_slice h
  cases hv
  exact hr
theorem cns_len {rs ss : List Nat} (h : cns rs = cns ss) : rs.length = ss.length := by simpa using congrArg List.length h
theorem Ext.alloc {w0 w : World} (h : Ext w0 w) (o : Obj) : Ext w0 (w.alloc o) := Below.alloc h h.size o
theorem snoc2 {α : Type} (f g : α → Value) (xs : List α) (x : α) : cells2 f g (xs ++ [x]) = cells2 f g xs ++ [f x, g x] := by rw [← cells2_app]; rfl
theorem grown_size {w w' : World} {row : Option Nat} (h : w.grownBy w' row) : w.heap.size ≤ w'.heap.size := h.size
theorem ext_size {w w' : World} (h : Ext w w') : w.heap.size ≤ w'.heap.size := h.size
theorem drewN_size (w : World) (n : Nat) : w.heap.size ≤ (w.drewN n).heap.size := Nat.le_refl _

theorem erase_past {rs : List Nat} {at_ n : Int} (h : (rs.length : Int) ≤ at_) : erase rs at_ n = rs := by
  unfold erase
  split
  · apply List.ext_getElem (by simp)
    intro i h1 h2
    simp only [List.getElem_mapIdx, eraseF]
    rw [if_neg (by omega)]
  · rfl
theorem lowsFrom_len (low : Nat → Bool) (i n : Nat) (rs : List Nat) : (lowsFrom low i n rs).length ≤ rs.length + 1 := by
  induction rs generalizing i n with
  | nil => unfold lowsFrom; split <;> simp
  | cons x r ih =>
    unfold lowsFrom
    split
    · have := ih (i + 1) (n + 1); simp; omega
    · have := ih (i + 1) 0
      rw [List.length_append]
      split <;> simp <;> omega
theorem lows_len (rs : List Nat) (x : Nat) : (lows rs x).length ≤ 20001 := by
  unfold lows
  split
  · simp
  · have := lowsFrom_len (fun y => fle .f32 y x) 0 0 rs; omega
theorem own_cap {w : World} {base : Nat} {E : TypeId} {size n c : Nat} {A : Option Addr} {xs : List Value} (h : w.ownsRow base E size (.slice A n c) n xs) : n ≤ c := by
  rcases own_form h with ⟨h1, h2, _⟩ | ⟨g, c', hv, _, _, hc, _⟩
  · omega
  · cases hv; exact hc
/-- a part of what is read -/
theorem rd_sub {w : World} {b off : Nat} {cs : List Value} (h : Rd w (some ⟨b, off, none⟩) cs) (i n : Nat) : Rd w (some ⟨b, off + i, none⟩) ((cs.drop i).take n) := by
  rcases h with h | ⟨b', off', hA, hb, hc⟩
  · subst h; exact .inl (by simp)
  · cases hA
    refine .inr ⟨b, off + i, rfl, hb, fun j u hu => ?_⟩
    rw [List.getElem?_take] at hu
    split at hu
    · rw [List.getElem?_drop] at hu
      rw [Nat.add_assoc]
      exact hc _ _ hu
    · cases hu
theorem rd_some {w : World} {A : Option Addr} {cs : List Value} (h : Rd w A cs) (hn : cs ≠ []) : ∃ b off, A = some ⟨b, off, none⟩ ∧ b < w.heap.size := by
  rcases h with h | ⟨b, off, hA, hb, _⟩
  · exact absurd h hn
  · exact ⟨b, off, hA, hb⟩
/-- samples from a place on -/
abbrev cutF (rs : List Nat) (i n : Nat) : List Nat := (rs.drop i).take n
theorem cutF_len {rs : List Nat} {i n : Nat} (h : i + n ≤ rs.length) : (cutF rs i n).length = n := by simp; omega
theorem rd_cut {w : World} {b off : Nat} {rs : List Nat} (h : Rd w (some ⟨b, off, none⟩) (rs.map fl)) (i n : Nat) : Rd w (some ⟨b, off + i, none⟩) ((cutF rs i n).map fl) := by
  have := rd_sub h i n
  rwa [← List.map_drop, ← List.map_take] at this
/-! a block that is known whole -/
theorem blk_cell {w : World} {b : Nat} {cs : Array Value} {E : TypeId} {j : Nat} {u : Value} (h : w.heap[b]? = some (.cells cs E (0, 0))) (hj : cs[j]? = some u) : w.cell? ⟨b, j, none⟩ = some u := by
  rw [cell_of_row _ _ _ _ _ _ h]; exact hj
theorem blk_frozen {w : World} {b : Nat} {cs : Array Value} {E : TypeId} {j : Nat} (h : w.heap[b]? = some (.cells cs E (0, 0))) : w.frozen? ⟨b, j, none⟩ = false := by
  simp [World.frozen?, h]
theorem blk_ext {w w' : World} {b : Nat} {o : Obj} (h : w.heap[b]? = some o) (e : Ext w w') : w'.heap[b]? = some o := by
  rw [e.block b (Array.getElem?_eq_some_iff.1 h).1]; exact h
theorem blk_past {w w' : World} {b : Nat} {o : Obj} {row : Option Nat} (h : w.heap[b]? = some o) (e : w.grownBy w' row) (hne : some b ≠ row) : w'.heap[b]? = some o := by
  rw [e.block b (Array.getElem?_eq_some_iff.1 h).1 hne]; exact h
theorem blk_alloc {w : World} {b : Nat} {o p : Obj} (h : w.heap[b]? = some o) : (w.alloc p).heap[b]? = some o := by
  rw [Below.heap_alloc _ _ _ (Array.getElem?_eq_some_iff.1 h).1]; exact h
theorem blk1 {w : World} {b : Nat} {E : TypeId} {c0 : Value} (h : w.heap[b]? = some (.cells #[c0] E (0, 0))) : w.cell? ⟨b, 0, none⟩ = some c0 ∧ ∀ j, w.frozen? ⟨b, j, none⟩ = false :=
  ⟨blk_cell h rfl, fun j => blk_frozen h⟩
theorem blk2 {w : World} {b : Nat} {E : TypeId} {c0 c1 : Value} (h : w.heap[b]? = some (.cells #[c0, c1] E (0, 0))) : w.cell? ⟨b, 0, none⟩ = some c0 ∧ w.cell? ⟨b, 1, none⟩ = some c1 ∧ ∀ j, w.frozen? ⟨b, j, none⟩ = false :=
  ⟨blk_cell h rfl, blk_cell h rfl, fun j => blk_frozen h⟩
theorem blk3 {w : World} {b : Nat} {E : TypeId} {c0 c1 c2 : Value} (h : w.heap[b]? = some (.cells #[c0, c1, c2] E (0, 0))) : w.cell? ⟨b, 0, none⟩ = some c0 ∧ w.cell? ⟨b, 1, none⟩ = some c1 ∧ w.cell? ⟨b, 2, none⟩ = some c2 ∧ ∀ j, w.frozen? ⟨b, j, none⟩ = false :=
  ⟨blk_cell h rfl, blk_cell h rfl, blk_cell h rfl, fun j => blk_frozen h⟩
theorem blk6 {w : World} {b : Nat} {E : TypeId} {c0 c1 c2 c3 c4 c5 : Value} (h : w.heap[b]? = some (.cells #[c0, c1, c2, c3, c4, c5] E (0, 0))) : w.cell? ⟨b, 0, none⟩ = some c0 ∧ w.cell? ⟨b, 1, none⟩ = some c1 ∧ w.cell? ⟨b, 2, none⟩ = some c2 ∧ w.cell? ⟨b, 3, none⟩ = some c3 ∧ w.cell? ⟨b, 4, none⟩ = some c4 ∧ w.cell? ⟨b, 5, none⟩ = some c5 ∧ ∀ j, w.frozen? ⟨b, j, none⟩ = false :=
  ⟨blk_cell h rfl, blk_cell h rfl, blk_cell h rfl, blk_cell h rfl, blk_cell h rfl, blk_cell h rfl, fun j => blk_frozen h⟩
theorem own_other {w : World} {base : Nat} {E : TypeId} {size n : Nat} {v : Value} {xs : List Value} (h : w.ownsRow base E size v n xs) {p : Addr} (hne : ∀ b, v.ownBlock = some b → b ≠ p.block) (u : Value) : (w.setCell p u).ownsRow base E size v n xs := by
  refine ⟨h.1, ?_⟩
  rcases h.2 with hn | ⟨g, cap, cur, rfl, hb, hgg, rest⟩
  · exact .inl hn
  · exact .inr ⟨g, cap, cur, rfl, hb, by rw [Below.heap_setCell w p u g (hne g rfl)]; exact hgg, rest⟩
end Go.Fx
end
section
namespace Go.Fx
open Go.RowKit
set_option linter.unusedVariables false
set_option linter.unusedSimpArgs false

/-! what turned lies among the blocks from lo to below hi, or is new -/
structure Turn (lo hi : Nat) (w w' : World) : Prop where
  os : w'.os = w.os
  tape : w'.tape = w.tape
  output : w'.output = w.output
  size : w.heap.size ≤ w'.heap.size
  block : ∀ k, k < w.heap.size → (k < lo ∨ hi ≤ k) → w'.heap[k]? = w.heap[k]?
section
variable {w w' w0 : World} {base lo hi : Nat} {E : TypeId} {size n : Nat} {v u : Value} {xs : List Value}
theorem Turn.refl (lo hi : Nat) (w : World) : Turn lo hi w w := ⟨rfl, rfl, rfl, Nat.le_refl _, fun _ _ _ => rfl⟩
theorem Turn.trans {a b c : World} (h : Turn lo hi a b) (k : Turn lo hi b c) : Turn lo hi a c :=
  ⟨k.os.trans h.os, k.tape.trans h.tape, k.output.trans h.output, Nat.le_trans h.size k.size, fun i hi' ho => (k.block i (Nat.lt_of_lt_of_le hi' h.size) ho).trans (h.block i hi' ho)⟩
theorem Turn.mono {lo' hi' : Nat} (h : Turn lo hi w w') (h1 : lo' ≤ lo) (h2 : hi ≤ hi') : Turn lo' hi' w w' :=
  ⟨h.os, h.tape, h.output, h.size, fun k hk ho => h.block k hk (by omega)⟩
theorem turn_grown {c d : Nat} (hg : w.grownBy w' u.ownBlock) (hu : In u c d) : Turn c d w w' :=
  ⟨hg.os, hg.tape, hg.output, hg.size, fun k hk hne => hg.block k hk (fun e => by have := hu k e.symm; omega)⟩
theorem turn_ext (lo hi : Nat) (h : Ext w w') : Turn lo hi w w' := ⟨h.os, h.tape, h.output, h.size, fun k hk _ => h.block k hk⟩
theorem own_turn {a b c d : Nat} (h : w.ownsRow base E size v n xs) (ht : Turn c d w w') (hv : In v a b) (hd : b ≤ c ∨ d ≤ a) : w'.ownsRow base E size v n xs := by
  refine ⟨h.1, ?_⟩
  rcases h.2 with hn | ⟨g, cap, cur, rfl, hb, hgg, rest⟩
  · exact .inl hn
  · have := hv g rfl
    exact .inr ⟨g, cap, cur, rfl, hb, (ht.block g (Array.getElem?_eq_some_iff.1 hgg).1 (by omega)).trans hgg, rest⟩
theorem ext_turn {c d : Nat} (h : Ext w0 w) (ht : Turn c d w w') (hc : w0.heap.size ≤ c) : Ext w0 w' :=
  ⟨ht.os.trans h.os, ht.tape.trans h.tape, ht.output.trans h.output, Nat.le_trans h.size ht.size, fun k hk => by
    rw [ht.block k (Nat.lt_of_lt_of_le hk h.size) (.inl (by omega))]
    exact h.block k hk⟩
theorem turn_size {c d : Nat} (h : Turn c d w w') : w.heap.size ≤ w'.heap.size := h.size
end

/-! rows of rows that the call owns -/
def Apart (u v : Value) : Prop := ∀ b, u.ownBlock = some b → v.ownBlock ≠ some b
theorem Apart.symm {u v : Value} (h : Apart u v) : Apart v u := fun b hb hu => h b hu hb
/-- the values of the rows are 'us'; each row has so many elements, and these cells -/
structure Rows2 (w : World) (base : Nat) (Eo E : TypeId) (size : Nat) (v : Value) (us : List Value) (rows : List (Nat × List Value)) : Prop where
  len : us.length = rows.length
  own : w.ownsRow base Eo 1 v rows.length us
  row : ∀ (i : Nat) u r, us[i]? = some u → rows[i]? = some r → w.ownsRow base E size u r.1 r.2
  out : ∀ u ∈ us, Apart u v
  sep : us.Pairwise Apart
/-- rows of rows that are read -/
structure RdRows (w : World) (A : Option Addr) (us : List Value) (rows : List (Nat × List Value)) : Prop where
  len : us.length = rows.length
  rd : Rd w A us
  row : ∀ (i : Nat) u r, us[i]? = some u → rows[i]? = some r → ∃ B c, u = .slice B r.1 c ∧ Rd w B r.2 ∧ (B = none → r.1 = 0) ∧ r.1 ≤ c
def InR (v : Value) (us : List Value) (lo hi : Nat) : Prop := In v lo hi ∧ ∀ u ∈ us, In u lo hi
section
variable {w w' w0 : World} {base : Nat} {Eo E : TypeId} {size : Nat} {v : Value} {us : List Value} {rows : List (Nat × List Value)}
theorem Rows2.mem (h : Rows2 w base Eo E size v us rows) {u : Value} (hu : u ∈ us) : ∃ r ∈ rows, w.ownsRow base E size u r.1 r.2 := by
  obtain ⟨i, hi, rfl⟩ := List.getElem_of_mem hu
  have hi' : i < rows.length := by rw [← h.len]; exact hi
  exact ⟨rows[i], List.getElem_mem hi', h.row i _ _ (List.getElem?_eq_getElem hi) (List.getElem?_eq_getElem hi')⟩
theorem Rows2.inR (h : Rows2 w base Eo E size v us rows) : InR v us base w.heap.size :=
  ⟨own_in h.own, fun u hu => by obtain ⟨r, _, ho⟩ := h.mem hu; exact own_in ho⟩
theorem InR.mono {a b c d : Nat} (h : InR v us a b) (h1 : c ≤ a) (h2 : b ≤ d) : InR v us c d := ⟨h.1.mono h1 h2, fun u hu => (h.2 u hu).mono h1 h2⟩
theorem Rows2.ext (h : Rows2 w base Eo E size v us rows) (e : Ext w w') : Rows2 w' base Eo E size v us rows :=
  ⟨h.len, own_ext h.own e, fun i u r hu hr => own_ext (h.row i u r hu hr) e, h.out, h.sep⟩
theorem Rows2.turn {a b c d : Nat} (h : Rows2 w base Eo E size v us rows) (ht : Turn c d w w') (hv : InR v us a b) (hd : b ≤ c ∨ d ≤ a) : Rows2 w' base Eo E size v us rows :=
  ⟨h.len, own_turn h.own ht hv.1 hd, fun i u r hu hr => own_turn (h.row i u r hu hr) ht (hv.2 u (List.mem_of_getElem? hu)) hd, h.out, h.sep⟩
theorem Rows2.past {a b c d : Nat} {u : Value} (h : Rows2 w base Eo E size v us rows) (hg : w.grownBy w' u.ownBlock) (hv : InR v us a b) (hu : In u c d) (hd : b ≤ c ∨ d ≤ a) : Rows2 w' base Eo E size v us rows :=
  h.turn (turn_grown hg hu) hv hd
theorem Rows2.weak {base' : Nat} (h : Rows2 w base Eo E size v us rows) (hb : base' ≤ base) : Rows2 w base' Eo E size v us rows :=
  ⟨h.len, own_base h.own hb, fun i u r hu hr => own_base (h.row i u r hu hr) hb, h.out, h.sep⟩
theorem Rows2.nil (w : World) (base : Nat) (Eo E : TypeId) (size : Nat) : Rows2 w base Eo E size (.slice none 0 0) [] [] :=
  ⟨rfl, World.ownsRow_nil _ _ _ _, fun i u r hu _ => by simp at hu, fun u hu => by simp at hu, List.Pairwise.nil⟩
theorem Rows2.new (w : World) (base : Nat) (Eo E : TypeId) (size : Nat) (hb : base ≤ w.heap.size) : Rows2 (w.alloc (.cells #[] Eo)) base Eo E size (.slice (some ⟨w.heap.size, 0, none⟩) 0 0) [] [] :=
  ⟨rfl, own_new w base Eo 1 hb, fun i u r hu _ => by simp at hu, fun u hu => by simp at hu, List.Pairwise.nil⟩
/-- a row was written anew -/
theorem Rows2.setRow (h : Rows2 w base Eo E size v us rows) {i : Nat} {u : Value} {r' : Nat × List Value} (hu : us[i]? = some u) (ho : w'.ownsRow base E size u r'.1 r'.2) (hg : w.grownBy w' u.ownBlock) : Rows2 w' base Eo E size v us (rows.set i r') := by
  refine ⟨by simp [h.len], ?_, ?_, h.out, h.sep⟩
  · rw [List.length_set]
    exact own_apart h.own hg fun b hb e => h.out u (List.mem_of_getElem? hu) b e.symm hb
  · intro j x r hx hr
    by_cases hij : i = j
    · subst hij
      rw [hu] at hx
      cases hx
      have hlt : i < rows.length := by rw [← h.len]; exact (List.getElem?_eq_some_iff.1 hu).1
      rw [List.getElem?_set_self hlt] at hr
      cases hr
      exact ho
    · rw [List.getElem?_set_ne hij] at hr
      refine own_apart (h.row j x r hx hr) hg fun b hb e => ?_
      obtain ⟨h1, e1⟩ := List.getElem?_eq_some_iff.1 hu
      obtain ⟨h2, e2⟩ := List.getElem?_eq_some_iff.1 hx
      have hp := List.pairwise_iff_getElem.1 h.sep
      rcases Nat.lt_or_gt_of_ne hij with hl | hl
      · have := hp i j h1 h2 hl
        rw [e1, e2] at this
        exact this b e.symm hb
      · have := hp j i h2 h1 hl
        rw [e1, e2] at this
        exact this b hb e.symm
/-- a row more -/
theorem Rows2.snoc (h : Rows2 w base Eo E size v us rows) {v' u : Value} {r : Nat × List Value} {m q : Nat} (ho : w'.ownsRow base Eo 1 v' (us.length + 1) (us ++ [u])) (hr : w.ownsRow base E size u r.1 r.2) (hg : w.grownBy w' v.ownBlock)
    (hat : v'.ownBlock = v.ownBlock ∨ v'.ownBlock = some q) (hq : w.heap.size ≤ q) (hold : InR v us base m) (hnew : ∀ b, u.ownBlock = some b → m ≤ b) : Rows2 w' base Eo E size v' (us ++ [u]) (rows ++ [r]) := by
  have hz : ∀ x, w.ownsRow base E size x r.1 r.2 → ∀ b, x.ownBlock = some b → b < w.heap.size := fun x hx b hb => (hx.lt b hb).2
  have hvu : ∀ b, u.ownBlock = some b → v.ownBlock ≠ some b := fun b hb e => by
    have := hnew b hb
    have := (hold.1 b e).2
    omega
  have hat' : ∀ b, b < w.heap.size → v'.ownBlock = some b → v.ownBlock = some b := fun b hb e => by
    rcases hat with h1 | h1
    · rw [← h1]; exact e
    · rw [h1] at e; cases e; omega
  refine ⟨by simp [h.len], ?_, ?_, ?_, ?_⟩
  · rw [List.length_append, ← h.len]; exact ho
  · intro i x y hx hy
    by_cases hi : i < us.length
    · rw [List.getElem?_append_left hi] at hx
      rw [List.getElem?_append_left (by rw [← h.len]; exact hi)] at hy
      exact own_apart (h.row i x y hx hy) hg fun b hb e => h.out x (List.mem_of_getElem? hx) b hb e.symm
    · rw [List.getElem?_append_right (by omega)] at hx
      rw [List.getElem?_append_right (by rw [← h.len]; omega)] at hy
      have h0 : i - us.length = 0 := by
        have := (List.getElem?_eq_some_iff.1 hx).1
        simp at this; omega
      rw [h0] at hx
      rw [show i - rows.length = 0 by rw [← h.len]; exact h0] at hy
      simp at hx hy
      subst hx; subst hy
      exact own_apart hr hg fun b hb e => hvu b hb e.symm
  · intro x hx b hb e
    rcases List.mem_append.1 hx with hx | hx
    · have := hold.2 x hx b hb
      obtain ⟨_, _, hox⟩ := h.mem hx
      exact h.out x hx b hb (hat' b (hox.lt b hb).2 e)
    · simp at hx; subst hx
      exact hvu b hb (hat' b (hz x hr b hb) e)
  · refine List.pairwise_append.2 ⟨h.sep, List.pairwise_singleton _ _, fun x hx y hy b hb e => ?_⟩
    simp at hy; subst hy
    have := (hold.2 x hx b hb).2
    have := hnew b e
    omega
theorem Rows2.rd {A : Option Addr} {n c : Nat} (h : Rows2 w base Eo E size (.slice A n c) us rows) : RdRows w A us rows ∧ n = rows.length ∧ (A = none → n = 0) := by
  have ho := h.own
  have hn : n = rows.length := by
    rcases own_form ho with ⟨h1, h2, _⟩ | ⟨g, c', hv, _⟩
    · cases h1; exact h2.symm
    · cases hv; rfl
  subst hn
  refine ⟨⟨h.len, own_rd ho, fun i u r hu hr => ?_⟩, rfl, fun hA => ?_⟩
  · have hx := h.row i u r hu hr
    obtain ⟨B, d, rfl, h1, h2⟩ := own_slice hx
    exact ⟨B, d, rfl, h1, h2, own_cap hx⟩
  · subst hA
    rcases own_form ho with ⟨h1, h2, _⟩ | ⟨g, c', hv, _⟩
    · exact h2
    · cases hv
theorem Rows2.form (h : Rows2 w base Eo E size v us rows) : ∃ A c, v = .slice A us.length c ∧ w.ownsRow base Eo 1 (.slice A us.length c) us.length us := by
  have ho := h.own
  rw [← h.len] at ho
  obtain ⟨A, c, rfl, -, -⟩ := own_slice ho
  exact ⟨A, c, rfl, ho⟩
theorem RdRows.ext {A : Option Addr} (h : RdRows w A us rows) (e : Ext w w') : RdRows w' A us rows :=
  ⟨h.len, h.rd.ext e, fun i u r hu hr => by
    obtain ⟨B, c, h1, h2, h3⟩ := h.row i u r hu hr
    exact ⟨B, c, h1, h2.ext e, h3⟩⟩
/-- the i-th row, where it is read -/
theorem RdRows.at {A : Option Addr} (h : RdRows w A us rows) {i : Nat} (hi : i < rows.length) :
    ∃ b off B c, A = some ⟨b, off, none⟩ ∧ b < w.heap.size ∧ us[i]? = some (.slice B rows[i].1 c) ∧ w.cell? ⟨b, off + i, none⟩ = some (.slice B rows[i].1 c) ∧ Rd w B rows[i].2 ∧ (B = none → rows[i].1 = 0) ∧ rows[i].1 ≤ c := by
  have hu : i < us.length := by rw [h.len]; exact hi
  obtain ⟨B, c, h1, h2, h3, h4⟩ := h.row i _ _ (List.getElem?_eq_getElem hu) (List.getElem?_eq_getElem hi)
  rcases h.rd with h0 | ⟨b, off, hA, hb, hc⟩
  · subst h0; simp at hu
  · have hx : us[i]? = some (.slice B rows[i].1 c) := by rw [List.getElem?_eq_getElem hu, h1]
    exact ⟨b, off, B, c, hA, hb, hx, hc i _ hx, h2, h3, h4⟩
end
/-! marks -/
def sumLen (ns : List Nat) : Nat := ns.foldr (· + ·) 0
theorem sumLen_cons (n : Nat) (ns : List Nat) : sumLen (n :: ns) = n + sumLen ns := rfl
theorem sumLen_take {ns : List Nat} {i : Nat} (h : i < ns.length) : sumLen (ns.take (i + 1)) = sumLen (ns.take i) + ns[i] := by
  induction ns generalizing i with
  | nil => simp at h
  | cons a r ih =>
    cases i with
    | zero => simp [sumLen]
    | succ i =>
      have := ih (i := i) (by simpa using h)
      simp only [List.take_succ_cons, sumLen_cons, List.getElem_cons_succ]
      omega
theorem sumLen_le {ns : List Nat} (i : Nat) : sumLen (ns.take i) ≤ sumLen ns := by
  induction ns generalizing i with
  | nil => simp [sumLen]
  | cons a r ih =>
    cases i with
    | zero => simp [sumLen]
    | succ i => have := ih i; simp only [List.take_succ_cons, sumLen_cons]; omega
theorem sumLen_all {ns : List Nat} {b : Nat} (h : ∀ n ∈ ns, n ≤ b) : sumLen ns ≤ ns.length * b := by
  induction ns with
  | nil => simp [sumLen]
  | cons a r ih =>
    have h1 := h a (by simp)
    have h2 := ih (fun n hn => h n (by simp [hn]))
    rw [sumLen_cons, List.length_cons, Nat.add_mul]; omega
/-- rows of marks: each row begins where the one ahead of it ends -/
def markRows (mk : Int → Nat → List Value) (st : Nat) (k : Int) (ns : List Nat) : List (Nat × List Value) :=
  (List.range ns.length).map fun i => (ns[i]?.getD 0, mk (k + (st * sumLen (ns.take i) : Nat)) (ns[i]?.getD 0))
theorem markRows_len (mk : Int → Nat → List Value) (st : Nat) (k : Int) (ns : List Nat) : (markRows mk st k ns).length = ns.length := by simp [markRows]
theorem markRows_at (mk : Int → Nat → List Value) (st : Nat) (k : Int) {ns : List Nat} {i : Nat} (h : i < ns.length) : (markRows mk st k ns)[i]? = some (ns[i], mk (k + (st * sumLen (ns.take i) : Nat)) ns[i]) := by
  simp [markRows, h]
/-- the first i rows are marked -/
def MarkUpto (i : Nat) (ys zs rows : List (Nat × List Value)) : Prop := ys.length = rows.length ∧ zs.length = rows.length ∧ ∀ j, (j < i → ys[j]? = zs[j]?) ∧ (i ≤ j → ys[j]? = rows[j]?)
theorem MarkUpto.zero {zs rows : List (Nat × List Value)} (h : zs.length = rows.length) : MarkUpto 0 rows zs rows := ⟨rfl, h, fun j => ⟨fun h => by omega, fun _ => rfl⟩⟩
theorem MarkUpto.step {i : Nat} {ys zs rows : List (Nat × List Value)} {r : Nat × List Value} (h : MarkUpto i ys zs rows) (hr : zs[i]? = some r) : MarkUpto (i + 1) (ys.set i r) zs rows := by
  obtain ⟨h1, h2, h3⟩ := h
  have hi : i < ys.length := by have := (List.getElem?_eq_some_iff.1 hr).1; omega
  refine ⟨by simpa using h1, h2, fun j => ⟨fun hj => ?_, fun hj => ?_⟩⟩
  · by_cases hij : i = j
    · subst hij; rw [List.getElem?_set_self hi, hr]
    · rw [List.getElem?_set_ne hij]; exact (h3 j).1 (by omega)
  · rw [List.getElem?_set_ne (by omega)]; exact (h3 j).2 (by omega)
theorem MarkUpto.all {i : Nat} {ys zs rows : List (Nat × List Value)} (h : MarkUpto i ys zs rows) (hi : rows.length ≤ i) : ys = zs := by
  apply List.ext_getElem?
  intro j
  by_cases hj : j < i
  · exact (h.2.2 j).1 hj
  · rw [List.getElem?_eq_none (by rw [h.1]; omega), List.getElem?_eq_none (by rw [h.2.1]; omega)]
/-- rows of singles -/
abbrev rowsF (rss : List (List Nat)) : List (Nat × List Value) := rss.map fun rs => (rs.length, rs.map fl)
theorem RdRows.atF {w : World} {A : Option Addr} {us : List Value} {rss : List (List Nat)} (h : RdRows w A us (rowsF rss)) {i : Nat} (hi : i < rss.length) :
    ∃ b off B c, A = some ⟨b, off, none⟩ ∧ b < w.heap.size ∧ us[i]? = some (.slice B rss[i].length c) ∧ w.cell? ⟨b, off + i, none⟩ = some (.slice B rss[i].length c) ∧ Rd w B (rss[i].map fl) ∧ (B = none → rss[i].length = 0) ∧ rss[i].length ≤ c := by
  have h1 := h.at (i := i) (by simpa using hi)
  rw [show (rowsF rss)[i]'(by simpa using hi) = (rss[i].length, rss[i].map fl) by simp] at h1
  exact h1
theorem RdRows.atM {w : World} {A : Option Addr} {us : List Value} {mk : Int → Nat → List Value} {st : Nat} {k : Int} {ns : List Nat} (h : RdRows w A us (markRows mk st k ns)) {i : Nat} (hi : i < ns.length) :
    ∃ b off B c, A = some ⟨b, off, none⟩ ∧ b < w.heap.size ∧ w.cell? ⟨b, off + i, none⟩ = some (.slice B ns[i] c) ∧ Rd w B (mk (k + (st * sumLen (ns.take i) : Nat)) ns[i]) := by
  obtain ⟨b, off, B, c, h1, h2, _, h4, h5, _⟩ := h.at (i := i) (by rw [markRows_len]; exact hi)
  have e := markRows_at mk st k hi
  rw [List.getElem?_eq_getElem (by rw [markRows_len]; exact hi)] at e
  have e' := Option.some.inj e
  rw [e'] at h4 h5
  exact ⟨b, off, B, c, h1, h2, h4, h5⟩
/-- the row that is to be marked next -/
theorem Rows2.atU {w : World} {base : Nat} {Eo E : TypeId} {size n c : Nat} {A : Option Addr} {us : List Value} {ys zs rows : List (Nat × List Value)} {i : Nat} (h : Rows2 w base Eo E size (.slice A n c) us ys) (hu : MarkUpto i ys zs rows) (hi : i < rows.length) :
    ∃ g B d, A = some ⟨g, 0, none⟩ ∧ w.cell? ⟨g, i, none⟩ = some (.slice B rows[i].1 d) ∧ us[i]? = some (.slice B rows[i].1 d) ∧ w.ownsRow base E size (.slice B rows[i].1 d) rows[i].1 rows[i].2 := by
  obtain ⟨hr, hn, _⟩ := h.rd
  have hy : ys[i]? = some rows[i] := by rw [(hu.2.2 i).2 (Nat.le_refl _), List.getElem?_eq_getElem hi]
  have hlt : i < us.length := by rw [h.len, hu.1]; exact hi
  have ho := h.row i _ _ (List.getElem?_eq_getElem hlt) hy
  obtain ⟨B, d, hv, _, _⟩ := own_slice ho
  have hx : us[i]? = some (.slice B rows[i].1 d) := by rw [List.getElem?_eq_getElem hlt, hv]
  subst hn
  have hno := h.own
  obtain ⟨g, rfl, _, _⟩ := own_at hno (by rw [hu.1]; omega)
  exact ⟨g, B, d, rfl, own_cell hno hx, hx, hv ▸ ho⟩
end Go.Fx
end
section
namespace Go.Fx
open Ieee

theorem cut_le (way : Toward) (neg : Bool) (n drop : Nat) : way.cut neg n drop ≤ n / 2 ^ (min drop (n.log2 + 2)) + 1 := by
  unfold Toward.cut
  simp only [Nat.shiftLeft_eq, Nat.one_mul]
  have h : ∀ b : Bool, b.toNat ≤ 1 := fun b => by cases b <;> simp
  exact Nat.add_le_add_left (h _) _

/-- what is written of a number that is not too great is no infinity -/
theorem nearest_finite (f : Format) (neg : Bool) (mag : Nat) (place : Int) (h : mag ≠ 0 → place + mag.log2 + 4 < f.leastPlace + f.fractionBits + 2 ^ f.exponentBits) (hE : (3 : Int) < 2 ^ f.exponentBits) :
    (f.read (f.nearest neg mag place)).isInfinity = false := by
  have hsw : 0 < f.signWeight := Nat.two_pow_pos _
  have hbin : 0 < f.binade := Nat.two_pow_pos _
  have hir := f.infRung_lt
  have key : ∀ rung, rung < f.infRung → (f.read (f.word neg rung)).isInfinity = false := by
    intro rung hr
    rw [read_word f neg (by omega)]
    by_cases hb : rung < f.binade
    · rw [if_pos hb]; rfl
    · rw [if_neg hb, if_pos hr]; rfl
  have hpe : ((2 ^ f.exponentBits : Nat) : Int) = 2 ^ f.exponentBits := by simp
  unfold Format.nearest
  by_cases h0 : mag = 0
  · rw [if_pos h0]
    refine key 0 ?_
    unfold Format.infRung
    exact Nat.mul_pos (by omega) hbin
  · rw [if_neg h0]
    have h := h h0
    simp only []
    generalize hlast : max (place + (mag.log2 : Int) - f.fractionBits) f.leastPlace = last
    -- what is kept has at most fractionBits + 1 digits, but for the one that is carried
    have hkept : Toward.even.cut neg (mag <<< (place - last).toNat) (last - place).toNat ≤ 2 ^ (f.fractionBits + 1) := by
      refine Nat.le_trans (cut_le _ _ _ _) ?_
      rw [Nat.shiftLeft_eq]
      generalize hn : mag * 2 ^ (place - last).toNat = n
      have hn0 : n ≠ 0 := by rw [← hn]; exact Nat.mul_ne_zero h0 (by have := Nat.two_pow_pos (place - last).toNat; omega)
      have hnl : n.log2 = mag.log2 + (place - last).toNat := by rw [← hn]; exact log2_mul_pow h0 _
      have hlt := lt_pow_log2 n
      have hq : n / 2 ^ (min (last - place).toNat (n.log2 + 2)) < 2 ^ (f.fractionBits + 1) := by
        rw [Nat.div_lt_iff_lt_mul (Nat.two_pow_pos _), ← Nat.pow_add]
        refine Nat.lt_of_lt_of_le hlt (Nat.pow_le_pow_right (by omega) ?_)
        omega
      omega
    refine key _ ?_
    have h2 : (last - f.leastPlace).toNat + 2 < 2 ^ f.exponentBits - 1 := by omega
    have h3 : ((last - f.leastPlace).toNat + 2) * f.binade < (2 ^ f.exponentBits - 1) * f.binade := Nat.mul_lt_mul_of_pos_right h2 hbin
    have h4 : ((last - f.leastPlace).toNat + 2) * f.binade = (last - f.leastPlace).toNat * f.binade + 2 ^ (f.fractionBits + 1) := by
      rw [Nat.add_mul, Nat.pow_succ]; unfold Format.binade; omega
    unfold Format.infRung at *
    exact Nat.lt_of_le_of_lt (Nat.min_le_left ..) (by omega)

end Go.Fx
end
section
namespace Go.Fx
open Ieee
set_option linter.unusedVariables false

theorem nearest_bd (f : Format) (neg : Bool) (mag : Nat) (place : Int) (E : Int) (h : mag ≠ 0 → place + mag.log2 < E) (hE0 : f.leastPlace + f.fractionBits < E)
    (hE1 : E + 3 < f.leastPlace + f.fractionBits + 2 ^ f.exponentBits) (hE : (3 : Int) < 2 ^ f.exponentBits) :
    ∃ m p, f.read (f.nearest neg mag place) = .number neg m p ∧ f.leastPlace ≤ p ∧ (m ≠ 0 → p + m.log2 ≤ E) := by
  have hsw : 0 < f.signWeight := Nat.two_pow_pos _
  have hbin : 0 < f.binade := Nat.two_pow_pos _
  have hir := f.infRung_lt
  have hpe : ((2 ^ f.exponentBits : Nat) : Int) = 2 ^ f.exponentBits := by simp
  have hlogb : ∀ m, m < f.binade → m ≠ 0 → (m.log2 : Int) < f.fractionBits := fun m hm h0 => by
    have := log2_lt_of h0 (show m < 2 ^ f.fractionBits from hm); omega
  have key : ∀ rung, rung < f.infRung → (rung / f.binade : Int) + f.leastPlace - 1 + f.fractionBits ≤ E →
      ∃ m p, f.read (f.word neg rung) = .number neg m p ∧ f.leastPlace ≤ p ∧ (m ≠ 0 → p + m.log2 ≤ E) := by
    intro rung hr hq
    rw [read_word f neg (by omega)]
    by_cases hb : rung < f.binade
    · rw [if_pos hb]
      exact ⟨_, _, rfl, Int.le_refl _, fun h0 => by have := hlogb rung hb h0; omega⟩
    · rw [if_neg hb, if_pos hr]
      refine ⟨_, _, rfl, by omega, fun h0 => ?_⟩
      have h1 : f.binade + rung % f.binade < 2 ^ (f.fractionBits + 1) := by
        have := Nat.mod_lt rung hbin
        rw [Nat.pow_succ]; unfold Format.binade at *; omega
      have h2 := log2_lt_of h0 h1
      have h3 : 1 ≤ rung / f.binade := (Nat.one_le_div_iff hbin).2 (by omega)
      have h4 : ((rung / f.binade : Nat) : Int) = (rung : Int) / (f.binade : Int) := by simp
      omega
  unfold Format.nearest
  by_cases h0 : mag = 0
  · rw [if_pos h0]
    refine key 0 ?_ (by simp; omega)
    unfold Format.infRung
    exact Nat.mul_pos (by omega) hbin
  · rw [if_neg h0]
    have h := h h0
    simp only []
    generalize hlast : max (place + (mag.log2 : Int) - f.fractionBits) f.leastPlace = last
    have hkept : Toward.even.cut neg (mag <<< (place - last).toNat) (last - place).toNat ≤ 2 ^ (f.fractionBits + 1) := by
      refine Nat.le_trans (cut_le _ _ _ _) ?_
      rw [Nat.shiftLeft_eq]
      generalize hn : mag * 2 ^ (place - last).toNat = n
      have hn0 : n ≠ 0 := by rw [← hn]; exact Nat.mul_ne_zero h0 (by have := Nat.two_pow_pos (place - last).toNat; omega)
      have hnl : n.log2 = mag.log2 + (place - last).toNat := by rw [← hn]; exact log2_mul_pow h0 _
      have hlt := lt_pow_log2 n
      have hq : n / 2 ^ (min (last - place).toNat (n.log2 + 2)) < 2 ^ (f.fractionBits + 1) := by
        rw [Nat.div_lt_iff_lt_mul (Nat.two_pow_pos _), ← Nat.pow_add]
        refine Nat.lt_of_lt_of_le hlt (Nat.pow_le_pow_right (by omega) ?_)
        omega
      omega
    generalize Toward.even.cut neg (mag <<< (place - last).toNat) (last - place).toNat = kept at *
    have h2 : (last - f.leastPlace).toNat + 2 < 2 ^ f.exponentBits - 1 := by omega
    have h3 : ((last - f.leastPlace).toNat + 2) * f.binade < (2 ^ f.exponentBits - 1) * f.binade := Nat.mul_lt_mul_of_pos_right h2 hbin
    have h4 : ((last - f.leastPlace).toNat + 2) * f.binade = (last - f.leastPlace).toNat * f.binade + 2 ^ (f.fractionBits + 1) := by
      rw [Nat.add_mul, Nat.pow_succ]; unfold Format.binade; omega
    have hlt : (last - f.leastPlace).toNat * f.binade + kept < f.infRung := by unfold Format.infRung; omega
    rw [Nat.min_eq_left (Nat.le_of_lt hlt)]
    refine key _ hlt ?_
    have h5 : ((last - f.leastPlace).toNat * f.binade + kept) / f.binade ≤ (last - f.leastPlace).toNat + 2 := by
      refine Nat.div_le_of_le_mul ?_
      rw [Nat.mul_comm f.binade]
      omega
    have h6 : (((last - f.leastPlace).toNat * f.binade + kept : Nat) : Int) / (f.binade : Int) = ((((last - f.leastPlace).toNat * f.binade + kept) / f.binade : Nat) : Int) := by simp
    rw [h6]
    omega

/-- a number whose amount, in least places, is below 2 ^ N -/
def Bd (k : FloatKind) (N : Nat) (b : Nat) : Prop := ∃ a, fk k b = some a ∧ a.natAbs < 2 ^ N
theorem Bd.mono {k : FloatKind} {N M b : Nat} (h : Bd k N b) (hM : N ≤ M) : Bd k M b := by
  obtain ⟨a, h1, h2⟩ := h
  exact ⟨a, h1, Nat.lt_of_lt_of_le h2 (Nat.pow_le_pow_right (by omega) hM)⟩
theorem Bd.not {k : FloatKind} {N b : Nat} (h : Bd k N b) : isN k b = false := by
  obtain ⟨a, h1, _⟩ := h
  cases hb : isN k b
  · rfl
  · rw [fk_none.2 hb] at h1; cases h1
theorem bd_cn {k : FloatKind} {N b : Nat} : Bd k N (cn k b) ↔ Bd k N b := by unfold Bd; rw [fk_cn]
theorem Bd.number {k : FloatKind} {N b : Nat} (h : Bd k N b) (hN : N ≤ k.format.fractionBits + 1 + 2 ^ k.format.exponentBits) :
    ∃ s m p, k.format.read b = .number s m p ∧ k.format.leastPlace ≤ p ∧ m * 2 ^ (p - k.format.leastPlace).toNat < 2 ^ N := by
  obtain ⟨a, h1, h2⟩ := h
  unfold fk at h1
  cases hr : k.format.read b with
  | nan s m => rw [hr] at h1; cases h1
  | infinity s =>
    rw [hr] at h1
    simp only [dk, Option.some.injEq] at h1
    have : a.natAbs = 2 ^ (k.format.fractionBits + 1 + 2 ^ k.format.exponentBits) := by
      rw [← h1, sg_natAbs]; unfold big tp; rfl
    have h3 := Nat.pow_le_pow_right (show 0 < 2 by omega) hN
    omega
  | number s m p =>
    rw [hr] at h1
    simp only [dk, Option.some.injEq] at h1
    refine ⟨s, m, p, rfl, read_place _ hr, ?_⟩
    rw [← h1, Int.mul_assoc, sg_natAbs, Int.natAbs_mul] at h2
    simpa using h2
theorem bd_number {k : FloatKind} {N b m : Nat} {s : Bool} {p : Int} (hr : k.format.read b = .number s m p) (hm : m ≠ 0 → p + m.log2 < N + k.format.leastPlace) : Bd k N b := by
  refine ⟨_, by unfold fk; rw [hr]; rfl, ?_⟩
  rw [Int.mul_assoc, sg_natAbs, Int.natAbs_mul]
  have hp := read_place _ hr
  simp only [Int.natAbs_natCast]
  by_cases h0 : m = 0
  · subst h0; simp [Nat.two_pow_pos]
  · have h1 := hm h0
    have h2 := lt_pow_log2 m
    have h3 : m * 2 ^ (p - k.format.leastPlace).toNat < 2 ^ (m.log2 + 1) * 2 ^ (p - k.format.leastPlace).toNat := Nat.mul_lt_mul_of_pos_right h2 (Nat.two_pow_pos _)
    rw [← Nat.pow_add] at h3
    exact Nat.lt_of_lt_of_le h3 (Nat.pow_le_pow_right (by omega) (by omega))
theorem bd_add {k : FloatKind} {N x y : Nat} (hx : Bd k N x) (hy : Bd k N y) (hN0 : k.format.fractionBits < N) (hN1 : N + 4 < k.format.fractionBits + 2 ^ k.format.exponentBits) : Bd k (N + 2) (fop .add k x y) := by
  obtain ⟨s, m, i, hr, hi, hm⟩ := hx.number (by omega)
  obtain ⟨t, n, j, hr', hj, hn⟩ := hy.number (by omega)
  have hpe : ((2 ^ k.format.exponentBits : Nat) : Int) = 2 ^ k.format.exponentBits := by simp
  let base := min i j
  let total := signed s m (i - base).toNat + signed t n (j - base).toNat
  have hsum : k.format.add x y = some (k.format.nearest (if total = 0 then s && t else total < 0) total.natAbs base) := by
    unfold Format.add; rw [hr, hr']; rfl
  have htot : total.natAbs * 2 ^ (base - k.format.leastPlace).toNat < 2 ^ (N + 1) := by
    have e1 : (i - base).toNat + (base - k.format.leastPlace).toNat = (i - k.format.leastPlace).toNat := by omega
    have e2 : (j - base).toNat + (base - k.format.leastPlace).toNat = (j - k.format.leastPlace).toNat := by omega
    have h1 : total.natAbs ≤ m * 2 ^ (i - base).toNat + n * 2 ^ (j - base).toNat := by
      refine Nat.le_trans (Int.natAbs_add_le _ _) ?_
      rw [signed_eq, signed_eq, Int.mul_assoc, Int.mul_assoc, sg_natAbs, sg_natAbs, Int.natAbs_mul, Int.natAbs_mul]
      simp
    have h2 : total.natAbs * 2 ^ (base - k.format.leastPlace).toNat ≤ m * 2 ^ (i - k.format.leastPlace).toNat + n * 2 ^ (j - k.format.leastPlace).toNat := by
      refine Nat.le_trans (Nat.mul_le_mul_right _ h1) ?_
      rw [Nat.add_mul, Nat.mul_assoc, Nat.mul_assoc, ← Nat.pow_add, ← Nat.pow_add, e1, e2]
      exact Nat.le_refl _
    rw [Nat.pow_succ]; omega
  have hE3 : (3 : Int) < 2 ^ k.format.exponentBits := by cases k <;> decide
  obtain ⟨m', p', hr2, hp2, hm2⟩ := nearest_bd k.format (if total = 0 then s && t else total < 0) total.natAbs base (N + 1 + k.format.leastPlace)
    (fun h0 => by
      have h3 := pow_log2_le h0
      have h4 : 2 ^ (total.natAbs.log2 + (base - k.format.leastPlace).toNat) < 2 ^ (N + 1) := by
        rw [Nat.pow_add]
        exact Nat.lt_of_le_of_lt (Nat.mul_le_mul_right _ h3) htot
      have h5 := (Nat.pow_lt_pow_iff_right (show 1 < 2 by omega)).1 h4
      omega) (by omega) (by omega) hE3
  unfold fop floatBits
  simp only [hsum]
  exact bd_number hr2 (fun h0 => by have := hm2 h0; omega)
theorem bd_within {x c : Nat} {C : Int} {N : Nat} (hc : fk .f32 c = some C) (h : within32 x c = true) (hC : C.natAbs < 2 ^ N) (h0 : 0 ≤ C) : Bd .f32 N x := by
  unfold within32 at h
  simp only [Bool.and_eq_true] at h
  obtain ⟨h1, h2⟩ := h
  have hneg : fk .f32 (Op.negFloat .f32 c) = some (-C) := by rw [fk_neg, hc]; rfl
  cases hx : fk .f32 x with
  | none => rw [(cmp_nan (.inl hx)).2.2.1] at h2; cases h2
  | some a =>
    rw [fge_fk hx hneg] at h1
    rw [fle_fk hx hc] at h2
    simp only [decide_eq_true_eq] at h1 h2
    exact ⟨a, hx, by omega⟩
/-- the quotient of numbers is no NaN, unless by 0 -/
theorem not_quo {k : FloatKind} {N x y : Nat} (hx : Bd k N x) (hN : N ≤ k.format.fractionBits + 1 + 2 ^ k.format.exponentBits) {t : Bool} {n : Nat} {j : Int} (hy : k.format.read y = .number t n j) (hn : n ≠ 0) : isN k (fop .quo k x y) = false := by
  obtain ⟨s, m, i, hr, hi, hm⟩ := hx.number hN
  have : ∃ r, floatBits .quo k x y = some r := by
    unfold floatBits
    simp only
    unfold Format.div
    rw [hr, hy]
    unfold Datum.quotient
    simp [hn]
  obtain ⟨r, hr⟩ := this
  unfold fop
  rw [hr]
  exact floatBits_not hr

/-- the sum of the first ones, from the first one on -/
def sumN (rs : List Nat) : Nat → Nat
  | 0 => cn .f32 (rs.getD 0 0)
  | k + 1 => add32 (sumN rs k) (cn .f32 (rs.getD (k + 1) 0))
abbrev sumAll (rs : List Nat) : Nat := sumN rs (rs.length - 1)
theorem fine_at {rs : List Nat} (h : fine rs = true) {k : Nat} (hk : k < rs.length) : Bd .f32 160 (cn .f32 (rs.getD k 0)) := by
  have : within32 rs[k] 1149239296 = true := by
    unfold fine at h
    rw [List.all_eq_true] at h
    exact h _ (List.getElem_mem hk)
  rw [bd_cn, List.getD_eq_getElem?_getD, List.getElem?_eq_getElem hk]
  exact bd_within (C := 1024 * 2 ^ 149) (by decide +kernel) this (by decide) (by decide)
theorem sumN_bd {rs : List Nat} (h : fine rs = true) : ∀ (k : Nat), k < rs.length → k ≤ 40 → Bd .f32 (160 + 2 * k) (sumN rs k)
  | 0, hk, _ => fine_at h hk
  | k + 1, hk, h40 => by
    have h1 := sumN_bd h k (by omega) (by omega)
    have h2 := (fine_at h hk).mono (M := 160 + 2 * k) (by omega)
    have e1 : 23 < 160 + 2 * k := by omega
    have e2 : 160 + 2 * k + 4 < 23 + 2 ^ 8 := by omega
    exact bd_add h1 h2 e1 e2
theorem fine_cut {rs : List Nat} (h : fine rs = true) (i n : Nat) : fine ((rs.drop i).take n) = true := by
  unfold fine at *
  rw [List.all_eq_true] at *
  intro x hx
  exact h x (List.mem_of_mem_drop (List.mem_of_mem_take hx))
theorem le_of_not_gt {k : FloatKind} {x y : Nat} (hx : isN k x = false) (hy : isN k y = false) : fle k x y = !fgt k x y := by
  cases h1 : fk k x with
  | none => rw [fk_none.1 h1] at hx; cases hx
  | some a =>
    cases h2 : fk k y with
    | none => rw [fk_none.1 h2] at hy; cases hy
    | some b =>
      rw [fle_fk h1 h2, fgt_fk h1 h2]
      by_cases h : a ≤ b
      · simp [h, Int.not_lt.2 h]
      · simp [h, Int.not_le.1 h]
/-- the level of the pulse, and of the burst -/
def lvPulse (rs : List Nat) : Nat := quo32 (sumAll ((rs.drop 0).take 8)) 1090519040
def lvBlack (rs : List Nat) : Nat := quo32 (sumAll ((rs.drop 8).take 16)) 1098907648
def levelsOk (rs : List Nat) : Bool := lineOk rs && fgt .f32 (lvBlack rs) (lvPulse rs)
theorem lv_not {rs : List Nat} (h : lineOk rs = true) : isN .f32 (lvPulse rs) = false ∧ isN .f32 (lvBlack rs) = false := by
  simp only [lineOk, Bool.and_eq_true, decide_eq_true_eq] at h
  obtain ⟨⟨⟨h1, h2⟩, h3⟩, h4⟩ := h
  have l1 : ((rs.drop 0).take 8).length = 8 := by simp; omega
  have l2 : ((rs.drop 8).take 16).length = 16 := by simp; omega
  constructor
  · refine not_quo (t := false) (n := 2 ^ 23) (j := -20) (sumN_bd (fine_cut h4 0 8) _ (by omega) (by omega)) (by rw [l1]; decide) (by decide +kernel) (by decide)
  · refine not_quo (t := false) (n := 2 ^ 23) (j := -19) (sumN_bd (fine_cut h4 8 16) _ (by omega) (by omega)) (by rw [l2]; decide) (by decide +kernel) (by decide)
end Go.Fx
end
section
namespace Go.Fx
open Ieee
set_option linter.unusedVariables false
theorem fop_mul_comm (k : FloatKind) (x y : Nat) : fop .mul k x y = fop .mul k y x := by
  unfold fop floatBits
  simp only
  congr 1
  unfold Format.mul
  cases k.format.read x <;> cases k.format.read y <;> simp [Datum.product, Bool.xor_comm, Nat.mul_comm, Int.add_comm]
theorem lineOk_cns (rs : List Nat) : lineOk (cns rs) = lineOk rs := by unfold lineOk; rw [fine_cns]; simp
theorem samplesOk_cns (rs : List Nat) : samplesOk (cns rs) = samplesOk rs := by unfold samplesOk; rw [fine_cns]; simp
theorem lineOk_of {rs ss : List Nat} (h : cns rs = ss) : lineOk rs = lineOk ss := by rw [← h, lineOk_cns]
theorem samplesOk_of {rs ss : List Nat} (h : cns rs = ss) : samplesOk rs = samplesOk ss := by rw [← h, samplesOk_cns]
/-- a line brought to level -/
def tl1 (rs : List Nat) (x : Nat) : Nat := mul32 (quo32 1115684864 (sub32 (lvBlack rs) (lvPulse rs))) (sub32 (cn .f32 x) (lvBlack rs))
def tlAll (rs : List Nat) : List Nat := rs.map (tl1 rs)
def tlOk (rs : List Nat) : Bool := levelsOk rs && lineOk (tlAll rs)
def tl (rs : List Nat) : List Nat := if tlOk rs = true then tlAll rs else []
theorem tl_len {gs rs : List Nat} (h : cns gs = tl rs) : gs.length ≤ rs.length := by
  have := congrArg List.length h
  simp only [List.length_map] at this
  rw [this]; unfold tl; split <;> simp [tlAll]
theorem take_snoc {α : Type} {l : List α} {k : Nat} (h : k < l.length) : l.take (k + 1) = l.take k ++ [l[k]] := by rw [List.take_succ_eq_append_getElem h]
theorem cns_snoc {gs ss : List Nat} {k b : Nat} (h : cns gs = ss.take k) (hk : k < ss.length) (hb : cn .f32 b = ss[k]) : cns (gs ++ [b]) = ss.take (k + 1) := by
  rw [take_snoc hk, ← h, ← hb]; simp [cns]
end Go.Fx
end
section
namespace Go.Fx
open Ieee
set_option linter.unusedVariables false
/-- is a run's beginning near a place? -/
def near (p : Int) (r : Int × Int) : Bool := decide (p - 3 ≤ r.1) && decide (r.1 ≤ p + 3)
/-- the starts behind one that is known -/
def startsGo (runs : List (Int × Int)) (n length gap : Int) : Nat → Int → Int → List Int
  | 0, _, _ => []
  | f + 1, at_, missed =>
    if n < at_ + length + length then [] else
    match runs.find? (near (at_ + length)) with
    | some r => r.1 :: startsGo runs n length gap f r.1 0
    | none => if gap < missed + 1 then [] else (at_ + length) :: startsGo runs n length gap f (at_ + length) (missed + 1)
def startsOk (runs : List (Int × Int)) (n length gap : Int) : Bool :=
  match runs with
  | [] => false
  | r :: _ => (decide (28 ≤ length) && decide (length ≤ 280)) && (decide (0 ≤ gap) && decide (gap ≤ 10)) && decide (r.1 + length ≤ n)
def starts (runs : List (Int × Int)) (n length gap : Int) : List Int :=
  if startsOk runs n length gap = true then
    match runs with
    | [] => []
    | r :: _ => r.1 :: startsGo runs n length gap (n.toNat + 1) r.1 0
  else []
/-- the runs that 'Lows' finds begin in the stream -/
theorem lowsFrom_begin (low : Nat → Bool) (i n : Nat) (rs : List Nat) (hn : n ≤ i) : ∀ r ∈ lowsFrom low i n rs, 0 ≤ r.1 ∧ r.1 ≤ i + rs.length := by
  induction rs generalizing i n with
  | nil =>
    intro r hr
    unfold lowsFrom at hr
    split at hr
    · simp only [List.mem_singleton] at hr; subst hr; simp; omega
    · cases hr
  | cons x l ih =>
    intro r hr
    unfold lowsFrom at hr
    split at hr
    · have := ih (i + 1) (n + 1) (by omega) r hr; simp at this ⊢; omega
    · rw [List.mem_append] at hr
      rcases hr with hr | hr
      · split at hr
        · simp only [List.mem_singleton] at hr; subst hr; simp; omega
        · cases hr
      · have := ih (i + 1) 0 (by omega) r hr; simp at this ⊢; omega
theorem lows_begin (rs : List Nat) (x : Nat) : ∀ r ∈ lows rs x, 0 ≤ r.1 ∧ r.1 ≤ rs.length := by
  intro r hr
  unfold lows at hr
  split at hr
  · cases hr
  · have := lowsFrom_begin _ 0 0 rs (by omega) r hr; simpa using this
end Go.Fx
end
section
namespace Go.Fx
open Go.RowKit Ieee
set_option linter.unusedVariables false
set_option linter.unusedSimpArgs false

/-! rows of cells, decoded lines and pairs -/
abbrev cnC (row : List Cel) : List Cel := row.map Cel.cn
abbrev rowsC (rows : List (List Cel)) : List (Nat × List Value) := rows.map fun r => (r.length, ccells r)
theorem cellOk_cn (c : Cel) : cellOk c.cn = cellOk c := by simp [cellOk]
theorem rowOk_cnC (row : List Cel) : rowOk (cnC row) = rowOk row := by
  unfold rowOk
  rw [List.length_map, List.all_map]
  congr 2
  funext c
  exact cellOk_cn c
theorem rowOk_of {gs X : List Cel} (h : cnC gs = X) : rowOk gs = rowOk X := by rw [← h, rowOk_cnC]
theorem cnC_len {gs X : List Cel} (h : cnC gs = X) : gs.length = X.length := by rw [← h, List.length_map]
theorem cnC_snoc {gs ss : List Cel} {k : Nat} {c : Cel} (h : cnC gs = ss.take k) (hk : k < ss.length) (hb : c.cn = ss[k]) : cnC (gs ++ [c]) = ss.take (k + 1) := by
  rw [take_snoc hk, ← h, ← hb]; simp
theorem rowOk_len {row : List Cel} (h : rowOk row = true) : 1 ≤ row.length ∧ row.length ≤ 64 := by
  simp only [rowOk, Bool.and_eq_true, decide_eq_true_eq] at h; exact h.1
theorem decode_len (odd : Bool) : ∀ xs : List Nat, (decode odd xs).length = xs.length / 4
  | s :: t :: u :: v :: l => by
    rw [decode, List.length_cons, decode_len odd l]
    simp only [List.length_cons]; omega
  | [] => by simp [decode]
  | [_] => by simp [decode]
  | [_, _] => by simp [decode]
  | [_, _, _] => by simp [decode]
theorem decode_at (odd : Bool) : ∀ (xs : List Nat) (k : Nat) (h : 4 * k + 3 < xs.length), (decode odd xs)[k]? = some (dec1 odd xs[4 * k] xs[4 * k + 1] xs[4 * k + 2] xs[4 * k + 3])
  | s :: t :: u :: v :: l, 0, h => by simp [decode]
  | s :: t :: u :: v :: l, k + 1, h => by
    have := decode_at odd l k (by simp only [List.length_cons] at h; omega)
    rw [decode, List.getElem?_cons_succ, this]
    simp only [show 4 * (k + 1) = 4 * k + 1 + 1 + 1 + 1 by omega, show 4 * (k + 1) + 1 = 4 * k + 1 + 1 + 1 + 1 + 1 by omega, List.getElem_cons_succ]
  | [], k, h => by simp at h
  | [_], k, h => by simp at h
  | [_, _], k, h => by simp at h; try omega
  | [_, _, _], k, h => by simp at h; try omega
theorem dec1_at {rs : List Nat} (odd : Bool) {k : Nat} (h : 4 * k + 3 < rs.length) : ∃ hk : k < (decode odd (cns rs)).length, (decode odd (cns rs))[k] = dec1 odd (cn .f32 rs[4 * k]) (cn .f32 rs[4 * k + 1]) (cn .f32 rs[4 * k + 2]) (cn .f32 rs[4 * k + 3]) := by
  have hk : k < (decode odd (cns rs)).length := by rw [decode_len]; simp; omega
  refine ⟨hk, ?_⟩
  have := decode_at odd (cns rs) k (by simpa using h)
  rw [List.getElem?_eq_getElem hk] at this
  simpa using this
/-- what DecodeCells hands back -/
def decodeOk (odd : Bool) (rs : List Nat) : Bool := decide (rs.length % 4 = 0) && rowOk (decode odd (cns rs))
def decodeR (odd : Bool) (rs : List Nat) : List Cel := if decodeOk odd rs = true then decode odd (cns rs) else []
theorem decodeR_ok {odd : Bool} {rs : List Nat} (h : decodeOk odd rs = true) : decodeR odd rs = decode odd (cns rs) := if_pos h
theorem decodeR_not {odd : Bool} {rs : List Nat} (h : decodeOk odd rs = false) : decodeR odd rs = [] := if_neg (by rw [h]; decide)
theorem decodeR_len (odd : Bool) (rs : List Nat) : (decodeR odd rs).length ≤ 64 := by
  unfold decodeR
  split
  · rename_i h
    simp only [decodeOk, Bool.and_eq_true] at h
    exact (rowOk_len h.2).2
  · simp
theorem decodeOk_nil (odd : Bool) : decodeOk odd [] = false := rfl
/-- DecodeAlone -/
def aloneOk (odd : Bool) (rs : List Nat) : Bool := lineOk rs && decodeOk odd (rs.drop 24)
def alone (odd : Bool) (rs : List Nat) : List Cel := if aloneOk odd rs = true then decode odd (cns (rs.drop 24)) else []
theorem alone_len (odd : Bool) (rs : List Nat) : (alone odd rs).length ≤ 64 := by
  unfold alone
  split
  · rename_i h
    simp only [aloneOk, decodeOk, Bool.and_eq_true] at h
    exact (rowOk_len h.2.2).2
  · simp
theorem alone_of (odd : Bool) (rs : List Nat) : alone odd rs = if lineOk rs = true then decodeR odd (rs.drop 24) else [] := by
  unfold alone aloneOk decodeR
  cases lineOk rs <;> simp
/-- BurstColour -/
abbrev brst (rs : List Nat) : List Nat := if lineOk rs = true then cutF rs 8 16 else []
abbrev rest (rs : List Nat) : List Nat := if lineOk rs = true then cutF rs 24 (rs.length - 24) else []
def bcRow (rs : List Nat) : List Cel := decode false (cns (brst rs))
def bcOk (rs : List Nat) : Bool := lineOk rs && decodeOk false (brst rs)
def bcRe (rs : List Nat) : Nat := if bcOk rs = true then quo32 (sumN ((bcRow rs).map Cel.re) 3) 1082130432 else 0
def bcIm (rs : List Nat) : Nat := if bcOk rs = true then quo32 (sumN ((bcRow rs).map Cel.im) 3) 1082130432 else 0
theorem sumN_cns (rs : List Nat) : ∀ k, sumN (cns rs) k = sumN rs k
  | 0 => by
    unfold sumN
    cases rs <;> simp [List.getD, cn_cn]
  | k + 1 => by
    unfold sumN
    rw [sumN_cns rs k]
    congr 1
    simp only [List.getD_eq_getElem?_getD, List.getElem?_map]
    cases rs[k + 1]? <;> simp [cn_cn]
theorem sum_re {gs X : List Cel} (h : cnC gs = X) (k : Nat) : sumN (X.map Cel.re) k = sumN (gs.map Cel.re) k := by
  rw [← sumN_cns (gs.map Cel.re), ← h]; congr 1; simp
theorem sum_im {gs X : List Cel} (h : cnC gs = X) (k : Nat) : sumN (X.map Cel.im) k = sumN (gs.map Cel.im) k := by
  rw [← sumN_cns (gs.map Cel.im), ← h]; congr 1; simp
theorem burst_len {rs : List Nat} (h : lineOk rs = true) : (brst rs).length = 16 := by
  rw [brst, if_pos h]
  simp only [lineOk, Bool.and_eq_true, decide_eq_true_eq] at h
  exact cutF_len (by omega)
theorem bcRow_len {rs : List Nat} (h : lineOk rs = true) : (bcRow rs).length = 4 := by
  unfold bcRow
  rw [decode_len, List.length_map, burst_len h]
/-- Swing -/
def swingX (a b : List Nat) : Nat :=
  sub32 (mul32 (sub32 (bcIm a) (bcIm b)) (add32 (bcRe a) (bcRe b))) (mul32 (sub32 (bcRe a) (bcRe b)) (add32 (bcIm a) (bcIm b)))
def swing (a b : List Nat) : Int :=
  if (bcOk a && bcOk b) = true then (if flt .f32 (swingX a b) 0 = true then 1 else if fgt .f32 (swingX a b) 0 = true then -1 else 0) else 0
/-- HueGain -/
def hgOk (a b : List Nat) : Bool := bcOk a && bcOk b
def hgRe (a b : List Nat) : Nat := if hgOk a b = true then quo32 (add32 (bcRe a) (bcRe b)) 3254779904 else 0
def hgIm (a b : List Nat) : Nat := if hgOk a b = true then quo32 (add32 (bcIm a) (bcIm b)) 3254779904 else 0
/-- IsKilled -/
def killed (a b : List Nat) (least : Nat) : Bool := decide (swing a b = 0) || flt .f32 (amt (hgRe a b)) least
/-- DecodePair -/
def pairRe (s : Int) (p q : Cel) : Nat := if s = 1 ∨ s = -1 then half32 p.re q.re else 0
def pairIm (s : Int) (p q : Cel) : Nat := if s = 1 then half32 p.im (neg32 q.im) else if s = -1 then half32 (neg32 p.im) q.im else 0
def pairP (s : Int) (P Q : List Cel) : List Cel := List.zipWith (fun p q => ⟨p.y, pairRe s p q, pairIm s p q⟩) P Q
def pairQ (s : Int) (P Q : List Cel) : List Cel := List.zipWith (fun p q => ⟨q.y, pairRe s p q, pairIm s p q⟩) P Q
def pairOk (a b : List Nat) : Bool := aloneOk false a && aloneOk false b && decide ((alone false a).length = (alone false b).length)
def pair (a b : List Nat) : List (List Cel) := if pairOk a b = true then [pairP (swing a b) (alone false a) (alone false b), pairQ (swing a b) (alone false a) (alone false b)] else []
/-- Greyed, ScaleRow, Saturate, ToSize, TakePair -/
def grey1 (c : Cel) : Cel := ⟨c.y, 0, 0⟩
def scale1 (k : Nat) (c : Cel) : Cel := ⟨c.y, mul32 c.re k, mul32 c.im k⟩
def scaleOk (k : Nat) (row : List Cel) : Bool := rowOk row && rowOk (row.map (scale1 k))
def satOk (k : Nat) (rows : List (List Cel)) : Bool := rows.all (scaleOk k)
def sat (k : Nat) (rows : List (List Cel)) : List (List Cel) := if satOk k rows = true then rows.map (fun r => r.map (scale1 k)) else []
def sizeOk (g : Nat) (rows : List (List Cel)) : Bool := !feq .f32 g 0 && satOk (quo32 1065353216 g) rows
def size (g : Nat) (rows : List (List Cel)) : List (List Cel) := if feq .f32 g 0 = true then [] else sat (quo32 1065353216 g) rows
def takeOk (a b : List Nat) (least k : Nat) : Bool :=
  pairOk a b && (killed a b least || (hgOk a b && sizeOk (hgRe a b) (pair a b) && satOk k (size (hgRe a b) (pair a b))))
def take (a b : List Nat) (least k : Nat) : List (List Cel) :=
  if takeOk a b least k = true then (if killed a b least = true then (pair a b).map (fun r => r.map grey1) else sat k (size (hgRe a b) (pair a b))) else []
/-- CutLines -/
def cut1 (rs : List Nat) (length at_ : Int) : Option (List Nat) := if 0 ≤ at_ ∧ at_ ≤ (rs.length : Int) - length then some (cutF rs at_.toNat length.toNat) else none
def cutLines (rs : List Nat) (starts : List Int) (length : Int) : List (List Nat) :=
  if 28 ≤ length ∧ length ≤ 280 ∧ rs.length ≤ 20000 then starts.filterMap (cut1 rs length) else []
theorem cutLines_step {rs : List Nat} {starts : List Int} {length : Int} {k : Nat} (h : k < starts.length) : (starts.take (k + 1)).filterMap (cut1 rs length) = (starts.take k).filterMap (cut1 rs length) ++ (cut1 rs length starts[k]).toList := by
  rw [take_snoc h, List.filterMap_append]
  cases hc : cut1 rs length starts[k] <;> simp [hc]
theorem cutLines_len {rs : List Nat} {starts : List Int} {length : Int} : (cutLines rs starts length).length ≤ starts.length := by
  unfold cutLines; split
  · exact List.length_filterMap_le _ _
  · simp
theorem cutLines_each {rs : List Nat} {starts : List Int} {length : Int} : ∀ l ∈ cutLines rs starts length, l.length ≤ 280 := by
  intro l hl
  unfold cutLines at hl
  split at hl
  · rename_i h
    obtain ⟨x, _, hx⟩ := List.mem_filterMap.1 hl
    unfold cut1 at hx
    split at hx
    · cases hx
      simp; omega
    · cases hx
  · simp at hl
theorem cutLines_sum {rs : List Nat} {starts : List Int} {length : Int} (h : starts.length ≤ 1048576) : sumLen ((cutLines rs starts length).map List.length) ≤ 1048576 * 280 := by
  have h1 := sumLen_all (ns := (cutLines rs starts length).map List.length) (b := 280) (fun n hn => by
    obtain ⟨l, hl, rfl⟩ := List.mem_map.1 hn
    exact cutLines_each l hl)
  rw [List.length_map] at h1
  have h2 := cutLines_len (rs := rs) (starts := starts) (length := length)
  exact Nat.le_trans h1 (Nat.mul_le_mul_right _ (Nat.le_trans h2 h))
end Go.Fx
end
section
namespace Go.Fx
open Ieee
set_option linter.unusedVariables false
set_option linter.unusedSimpArgs false

/-! signs: what is written of a number and of its opposite; sums and products do not depend on the order -/

theorem sum_comm (d e : Datum) : d.sum e = e.sum d := by
  cases d <;> cases e <;> simp only [Datum.sum]
  · rename_i s m i t n j
    rw [Int.min_comm j i, Int.add_comm (signed t n _), Bool.and_comm t s]
  · rename_i s t
    cases s <;> cases t <;> rfl
theorem product_comm (d e : Datum) : d.product e = e.product d := by
  cases d <;> cases e <;> simp only [Datum.product]
  · rename_i s m i t n j
    rw [Nat.mul_comm n m, Int.add_comm j i, Bool.xor_comm t s]
  · rename_i s t; rw [Bool.xor_comm]
theorem fop_add_comm (k : FloatKind) (x y : Nat) : fop .add k x y = fop .add k y x := by
  unfold fop floatBits; simp only [Format.add]; rw [sum_comm]
theorem fop_mulc (k : FloatKind) (x y : Nat) : fop .mul k x y = fop .mul k y x := by
  unfold fop floatBits; simp only [Format.mul]; rw [product_comm]
theorem product_opp (d e : Datum) : d.opposite.product e = (d.product e).map Datum.opposite := by
  cases d <;> cases e <;> simp only [Datum.product, Datum.opposite, Option.map]
  · rename_i s m i t n j; cases s <;> cases t <;> rfl
  · rename_i s m i t; split <;> first | rfl | (cases s <;> cases t <;> rfl)
  · rename_i s t n j; split <;> first | rfl | (cases s <;> cases t <;> rfl)
  · rename_i s t; cases s <;> cases t <;> rfl
theorem opp_opp (d : Datum) : d.opposite.opposite = d := by cases d <;> simp [Datum.opposite]
theorem product_opps (d e : Datum) : d.opposite.product e.opposite = d.product e := by
  rw [product_opp, product_comm, product_opp, product_comm, Option.map_map]
  have : Datum.opposite ∘ Datum.opposite = id := by funext x; exact opp_opp x
  rw [this, Option.map_id]; rfl
theorem fop_mul_opps (k : FloatKind) (x y : Nat) : fop .mul k (fneg k x) (fneg k y) = fop .mul k x y := by
  unfold fneg
  rw [fop_cn_l, fop_cn_r]
  unfold fop floatBits
  simp only [Format.mul]
  rw [read_neg, read_neg, product_opps]

theorem fk_word (k : FloatKind) {rung : Nat} (h : rung ≤ k.format.infRung) : ∃ u : Int, 0 ≤ u ∧ (u = 0 ↔ rung = 0) ∧ ∀ s, fk k (k.format.word s rung) = some (sg s * u) := by
  have hir := k.format.infRung_lt
  have hb : 0 < k.format.binade := Nat.two_pow_pos _
  have hlt : rung < k.format.signWeight := by omega
  by_cases h1 : rung < k.format.binade
  · refine ⟨rung, by omega, by omega, fun s => ?_⟩
    unfold fk
    rw [read_word _ _ hlt, if_pos h1]
    simp [dk, tp]
  · by_cases h2 : rung < k.format.infRung
    · refine ⟨(k.format.binade + rung % k.format.binade : Nat) * tp ((k.format.leastPlace + (rung / k.format.binade - 1 : Nat)) - k.format.leastPlace).toNat, ?_, ?_, fun s => ?_⟩
      · exact Int.mul_nonneg (by omega) (Int.le_of_lt (tp_pos _))
      · have : 0 < ((k.format.binade + rung % k.format.binade : Nat) : Int) * tp ((k.format.leastPlace + (rung / k.format.binade - 1 : Nat)) - k.format.leastPlace).toNat := Int.mul_pos (by omega) (tp_pos _)
        omega
      · unfold fk
        rw [read_word _ _ hlt, if_neg h1, if_pos h2]
        simp only [dk, Int.mul_assoc]
    · obtain rfl : rung = k.format.infRung := by omega
      have hbig : 0 < big k.format := tp_pos _
      refine ⟨big k.format, by omega, by omega, fun s => ?_⟩
      unfold fk
      rw [read_word _ _ hlt, if_neg h1, if_neg h2, if_pos rfl]
      rfl
/-- the rung that is written of a number -/
def rungOf (f : Format) (mag : Nat) (place : Int) : Nat :=
  if mag = 0 then 0 else
  let last := max (place + mag.log2 - f.fractionBits) f.leastPlace
  min ((last - f.leastPlace).toNat * f.binade + Toward.even.cut false (mag <<< (place - last).toNat) (last - place).toNat) f.infRung
theorem nearest_rung (f : Format) (s : Bool) (mag : Nat) (place : Int) : f.nearest s mag place = f.word s (rungOf f mag place) := by
  unfold Format.nearest rungOf
  by_cases h : mag = 0
  · rw [if_pos h, if_pos h]
  · rw [if_neg h, if_neg h]; rfl
theorem rungOf_le (f : Format) (mag : Nat) (place : Int) : rungOf f mag place ≤ f.infRung := by
  unfold rungOf
  split
  · omega
  · exact Nat.min_le_right ..
theorem rungOf_zero (f : Format) (place : Int) : rungOf f 0 place = 0 := by unfold rungOf; rw [if_pos rfl]
theorem rungOf_pos (f : Format) {mag : Nat} {place : Int} (hm : mag ≠ 0) (hp : f.leastPlace ≤ place) (hx : 1 ≤ f.exponentBits) : 0 < rungOf f mag place := by
  have hb : 0 < f.binade := Nat.two_pow_pos _
  have hi : 0 < f.infRung := by
    unfold Format.infRung
    have : 2 ^ 1 ≤ 2 ^ f.exponentBits := Nat.pow_le_pow_right (by omega) hx
    exact Nat.mul_pos (by omega) hb
  unfold rungOf
  rw [if_neg hm]
  simp only []
  generalize hl : max (place + (mag.log2 : Int) - f.fractionBits) f.leastPlace = last
  by_cases h : last = f.leastPlace
  · have hd : (last - place).toNat = 0 := by omega
    rw [hd, cut_exact _ _ _ 0 (by omega) (by simp)]
    have : 0 < mag <<< (place - last).toNat := by rw [Nat.shiftLeft_eq]; exact Nat.mul_pos (by omega) (Nat.two_pow_pos _)
    simp only [Nat.pow_zero, Nat.div_one]
    omega
  · have h2 : 1 ≤ (last - f.leastPlace).toNat := by omega
    have : 0 < (last - f.leastPlace).toNat * f.binade := Nat.mul_pos h2 hb
    omega
theorem exp_pos (k : FloatKind) : 1 ≤ k.format.exponentBits := by cases k <;> decide
/-- the amount that is written of a number; the sign is its own -/
theorem fk_number (k : FloatKind) (m : Nat) (p : Int) : ∃ u : Int, 0 ≤ u ∧ (m = 0 → u = 0) ∧ (k.format.leastPlace ≤ p → m ≠ 0 → 0 < u) ∧ ∀ s, fk k (k.format.write (.number s m p)) = some (sg s * u) := by
  obtain ⟨u, h1, h2, h3⟩ := fk_word k (rungOf_le k.format m p)
  refine ⟨u, h1, fun h => ?_, fun hp hm => ?_, fun s => ?_⟩
  · subst h; exact h2.2 (rungOf_zero _ _)
  · have := rungOf_pos k.format hm hp (exp_pos k)
    have h4 : u ≠ 0 := fun e => by have := h2.1 e; omega
    omega
  · show fk k (k.format.nearest s m p) = _
    rw [nearest_rung]; exact h3 s
theorem fk_inf (k : FloatKind) (s : Bool) : fk k (k.format.write (.infinity s)) = some (sg s * big k.format) := by
  show fk k (k.format.word s k.format.infRung) = _
  unfold fk
  have hir := k.format.infRung_lt
  have hb : k.format.binade ≤ k.format.infRung := by
    unfold Format.infRung
    have : 2 ^ 1 ≤ 2 ^ k.format.exponentBits := Nat.pow_le_pow_right (by omega) (exp_pos k)
    exact Nat.le_mul_of_pos_left _ (by omega)
  rw [read_word _ _ hir, if_neg (by omega), if_neg (by omega), if_pos rfl]
  rfl
theorem fk_write_opp (k : FloatKind) {d : Datum} (h : d.isNaN = false) : fk k (k.format.write d.opposite) = (fk k (k.format.write d)).map (- ·) := by
  cases d
  · rename_i s m p
    obtain ⟨u, -, -, -, hu⟩ := fk_number k m p
    show fk k (k.format.write (.number (!s) m p)) = _
    rw [hu, hu, sg_not]; simp [Int.neg_mul]
  · rename_i s
    show fk k (k.format.write (.infinity (!s))) = _
    rw [fk_inf, fk_inf, sg_not]; simp [Int.neg_mul]
  · cases h
theorem fk_qn (k : FloatKind) : fk k (qn k) = none := fk_none.2 (isN_qn k)
/-- a product with the opposite is the opposite -/
theorem fk_mul_neg (k : FloatKind) (x y : Nat) : fk k (fop .mul k (fneg k x) y) = (fk k (fop .mul k x y)).map (- ·) := by
  unfold fneg
  rw [fop_cn_l]
  unfold fop floatBits
  simp only [Format.mul]
  rw [read_neg, product_opp]
  cases h : (k.format.read x).product (k.format.read y)
  · simp [fk_qn]
  · simp only [Option.map_some, Option.getD_some]
    exact fk_write_opp k (product_not h)
theorem signed_opp (s : Bool) (m u : Nat) : signed (!s) m u = - signed s m u := by rw [signed_eq, signed_eq, sg_not]; simp [Int.neg_mul]
theorem fk_sum_of (k : FloatKind) (t : Int) (b : Int) (s s' : Bool) : fk k (k.format.write (.number (if -t = 0 then s' else decide (-t < 0)) (-t).natAbs b)) = (fk k (k.format.write (.number (if t = 0 then s else decide (t < 0)) t.natAbs b))).map (- ·) := by
  obtain ⟨u, h0, hz, -, hu⟩ := fk_number k t.natAbs b
  rw [Int.natAbs_neg, hu, hu]
  by_cases h : t = 0
  · have hu0 : u = 0 := hz (by omega)
    simp [hu0]
  · rw [if_neg h, if_neg (by omega)]
    by_cases h1 : t < 0
    · have h2 : ¬ (-t < 0) := by omega
      rw [decide_eq_true h1, decide_eq_false h2]; simp [sg]
    · have h2 : -t < 0 := by omega
      rw [decide_eq_false h1, decide_eq_true h2]; simp [sg]
/-- the sum of the opposites is the opposite (but for the sign of 0) -/
theorem fk_sum_opps (k : FloatKind) (d e : Datum) : fk k (((d.opposite.sum e.opposite).map k.format.write).getD (qn k)) = (fk k (((d.sum e).map k.format.write).getD (qn k))).map (- ·) := by
  cases d <;> cases e <;> simp only [Datum.sum, Datum.opposite, Option.map, Option.getD, fk_qn]
  · rename_i s m i t n j
    rw [signed_opp, signed_opp, ← Int.neg_add]
    exact fk_sum_of k _ _ _ _
  · rename_i s m i t; exact fk_write_opp k (d := .infinity t) rfl
  · rename_i s t n j; exact fk_write_opp k (d := .infinity s) rfl
  · rename_i s t
    cases s <;> cases t <;> simp [fk_qn, fk_inf, sg]
theorem fk_add_negs (k : FloatKind) (x y : Nat) : fk k (fop .add k (fneg k x) (fneg k y)) = (fk k (fop .add k x y)).map (- ·) := by
  unfold fneg
  rw [fop_cn_l, fop_cn_r]
  unfold fop floatBits
  simp only [Format.add]
  rw [read_neg, read_neg]
  exact fk_sum_opps k _ _
/-- a difference turned round is the opposite (but for the sign of 0) -/
theorem fk_sub_turn (k : FloatKind) (x y : Nat) : fk k (fop .sub k y x) = (fk k (fop .sub k x y)).map (- ·) := by
  unfold fop floatBits
  simp only [Format.sub]
  rw [← fk_sum_opps, opp_opp, sum_comm]
/-- a square is no less than 0 -/
theorem fk_square (k : FloatKind) {x : Nat} (h : isN k x = false) : ∃ s : Int, fk k (fop .mul k x x) = some s ∧ 0 ≤ s := by
  unfold isN at h
  unfold fop floatBits
  simp only [Format.mul]
  generalize k.format.read x = d at h
  cases d
  · rename_i s m p
    simp only [Datum.product, Bool.xor_self, Option.map_some, Option.getD_some]
    obtain ⟨u, h0, -, -, hu⟩ := fk_number k (m * m) (p + p)
    exact ⟨_, hu _, by simpa [sg] using h0⟩
  · rename_i s
    simp only [Datum.product, Bool.xor_self, Option.map_some, Option.getD_some]
    have : 0 < big k.format := tp_pos _
    exact ⟨_, fk_inf _ _, by simp [sg]; omega⟩
  · cases h
theorem sg_nonneg {s : Bool} {m : Nat} {j : Nat} (h : 0 ≤ sg s * (m : Int) * tp j) : m = 0 ∨ s = false := by
  cases s
  · exact .inr rfl
  · left
    have := tp_pos j
    by_cases hm : m = 0
    · exact hm
    · have h2 : 0 < (m : Int) * tp j := Int.mul_pos (by omega) this
      have h3 : sg true * (m : Int) * tp j = - ((m : Int) * tp j) := by simp [sg, Int.neg_mul]
      rw [h3] at h
      omega
/-- amounts add up to 0 only if both are 0 -/
theorem fk_add_nonneg (k : FloatKind) {x y : Nat} {a b : Int} (hx : fk k x = some a) (hy : fk k y = some b) (ha : 0 ≤ a) (hb : 0 ≤ b) : ∃ s : Int, fk k (fop .add k x y) = some s ∧ 0 ≤ s ∧ (s = 0 ↔ a = 0 ∧ b = 0) := by
  have px : ∀ s m p, k.format.read x = .number s m p → k.format.leastPlace ≤ p := fun s m p h => read_place _ h
  have py : ∀ s m p, k.format.read y = .number s m p → k.format.leastPlace ≤ p := fun s m p h => read_place _ h
  unfold fk at hx hy
  unfold fop floatBits
  simp only [Format.add]
  have hbig : 0 < big k.format := tp_pos _
  generalize k.format.read x = d at *
  generalize k.format.read y = e at *
  cases d <;> cases e <;> simp only [dk, Option.some.injEq, reduceCtorEq] at hx hy
  · rename_i s m i t n j
    have hi := px _ _ _ rfl
    have hj := py _ _ _ rfl
    subst hx hy
    simp only [Datum.sum, Option.map_some, Option.getD_some]
    have h1 := sg_nonneg ha
    have h2 := sg_nonneg hb
    have e1 : signed s m (i - min i j).toNat = (m : Int) * tp (i - min i j).toNat := by
      rw [signed_eq]; rcases h1 with rfl | rfl <;> simp [sg, tp]
    have e2 : signed t n (j - min i j).toNat = (n : Int) * tp (j - min i j).toNat := by
      rw [signed_eq]; rcases h2 with rfl | rfl <;> simp [sg, tp]
    rw [e1, e2]
    have q1 : 0 ≤ (m : Int) * tp (i - min i j).toNat := Int.mul_nonneg (by omega) (Int.le_of_lt (tp_pos _))
    have q2 : 0 ≤ (n : Int) * tp (j - min i j).toNat := Int.mul_nonneg (by omega) (Int.le_of_lt (tp_pos _))
    have z1 : (m : Int) * tp (i - min i j).toNat = 0 ↔ m = 0 := by
      constructor
      · intro h; rcases Int.mul_eq_zero.1 h with h | h
        · omega
        · exact absurd h (tp_ne _)
      · rintro rfl; simp
    have z2 : (n : Int) * tp (j - min i j).toNat = 0 ↔ n = 0 := by
      constructor
      · intro h; rcases Int.mul_eq_zero.1 h with h | h
        · omega
        · exact absurd h (tp_ne _)
      · rintro rfl; simp
    have w1 : sg s * (m : Int) * tp (i - k.format.leastPlace).toNat = 0 ↔ m = 0 := by
      constructor
      · intro h; rcases Int.mul_eq_zero.1 h with h | h
        · rcases Int.mul_eq_zero.1 h with h | h
          · cases s <;> simp [sg] at h
          · omega
        · exact absurd h (tp_ne _)
      · rintro rfl; simp
    have w2 : sg t * (n : Int) * tp (j - k.format.leastPlace).toNat = 0 ↔ n = 0 := by
      constructor
      · intro h; rcases Int.mul_eq_zero.1 h with h | h
        · rcases Int.mul_eq_zero.1 h with h | h
          · cases t <;> simp [sg] at h
          · omega
        · exact absurd h (tp_ne _)
      · rintro rfl; simp
    rw [w1, w2, ← z1, ← z2]
    generalize (m : Int) * tp (i - min i j).toNat = u at *
    generalize (n : Int) * tp (j - min i j).toNat = v at *
    obtain ⟨r, h0, hz, hp, hu⟩ := fk_number k (u + v).natAbs (min i j)
    refine ⟨_, hu _, ?_, ?_⟩
    · by_cases h : u + v = 0
      · have : r = 0 := hz (by omega)
        simp [this]
      · have h3 : ¬ (u + v < 0) := by omega
        simp [h, h3, sg]; exact h0
    · constructor
      · intro h
        by_cases h4 : u + v = 0
        · omega
        · have h3 : ¬ (u + v < 0) := by omega
          have := hp (by omega) (by omega)
          simp [h4, h3, sg] at h; omega
      · rintro ⟨rfl, rfl⟩
        have : r = 0 := hz (by simp)
        simp [this]
  · rename_i s m i t
    subst hx hy
    have : t = false := by cases t <;> first | rfl | (exfalso; simp [sg] at hb; omega)
    subst this
    exact ⟨_, fk_inf k _, by simp [sg]; omega, by simp [sg]; omega⟩
  · rename_i s t n j
    subst hx hy
    have : s = false := by cases s <;> first | rfl | (exfalso; simp [sg] at ha; omega)
    subst this
    exact ⟨_, fk_inf k _, by simp [sg]; omega, by simp [sg]; omega⟩
  · rename_i s t
    subst hx hy
    have h1 : s = false := by cases s <;> first | rfl | (exfalso; simp [sg] at ha; omega)
    have h2 : t = false := by cases t <;> first | rfl | (exfalso; simp [sg] at hb; omega)
    subst h1 h2
    exact ⟨_, fk_inf k _, by simp [sg]; omega, ⟨fun h => by simp [sg] at h; omega, fun h => by omega⟩⟩
end Go.Fx
end
section
namespace Go.Fx
open Ieee
set_option linter.unusedVariables false
set_option linter.unusedSimpArgs false

/-! what is written hangs on the exact amount alone; what is there already is written as it is -/

theorem cut_shift (n d x : Nat) : Toward.even.cut false (n * 2 ^ d) (x + d) = Toward.even.cut false n x := by
  by_cases hn : n = 0
  · subst hn
    unfold Toward.cut
    simp only [Nat.zero_mul, Nat.zero_mod, Nat.zero_div, Nat.shiftLeft_eq, Nat.one_mul, Nat.mul_zero]
    have h1 := Nat.two_pow_pos (min (x + d) (Nat.log2 0 + 2))
    have h2 := Nat.two_pow_pos (min x (Nat.log2 0 + 2))
    have e1 : (2 ^ min (x + d) (Nat.log2 0 + 2) == 0) = false := by simp; 
    have e2 : (2 ^ min x (Nat.log2 0 + 2) == 0) = false := by simp; 
    rw [e1, e2]
    have e3 : decide (2 ^ min (x + d) (Nat.log2 0 + 2) < 0) = false := by simp
    have e4 : decide (2 ^ min x (Nat.log2 0 + 2) < 0) = false := by simp
    rw [e3, e4]
  · unfold Toward.cut
    simp only [Nat.shiftLeft_eq, Nat.one_mul]
    rw [log2_mul_pow hn]
    have hm : min (x + d) (n.log2 + d + 2) = min x (n.log2 + 2) + d := by omega
    rw [hm]
    generalize min x (n.log2 + 2) = y
    have hp := Nat.two_pow_pos d
    have hdiv : n * 2 ^ d / 2 ^ (y + d) = n / 2 ^ y := by
      rw [Nat.pow_add]; exact Nat.mul_div_mul_right _ _ hp
    have hmod : n * 2 ^ d % 2 ^ (y + d) = n % 2 ^ y * 2 ^ d := by
      rw [Nat.pow_add]; exact Nat.mul_mod_mul_right _ _ _
    rw [hdiv, hmod]
    have e1 : decide (2 ^ (y + d) < 2 * (n % 2 ^ y * 2 ^ d)) = decide (2 ^ y < 2 * (n % 2 ^ y)) := by
      rw [Nat.pow_add, ← Nat.mul_assoc]
      exact decide_eq_decide.2 (Nat.mul_lt_mul_right hp)
    have e2 : (2 ^ (y + d) == 2 * (n % 2 ^ y * 2 ^ d)) = (2 ^ y == 2 * (n % 2 ^ y)) := by
      rw [Nat.pow_add, ← Nat.mul_assoc, Bool.eq_iff_iff, beq_iff_eq, beq_iff_eq]
      exact ⟨fun h => Nat.eq_of_mul_eq_mul_right hp h, fun h => congrArg (· * 2 ^ d) h⟩
    rw [e1, e2]
theorem rungOf_shift (f : Format) (m d : Nat) (p q : Int) (hp : p = q + d) : rungOf f (m * 2 ^ d) q = rungOf f m p := by
  by_cases hm : m = 0
  · subst hm; rw [Nat.zero_mul, rungOf_zero, rungOf_zero]
  · have hm2 : m * 2 ^ d ≠ 0 := Nat.mul_ne_zero hm (by have := Nat.two_pow_pos d; omega)
    unfold rungOf
    rw [if_neg hm, if_neg hm2, log2_mul_pow hm]
    simp only []
    have hl : q + ((m.log2 + d : Nat) : Int) = p + m.log2 := by omega
    rw [hl]
    generalize hlast : max (p + (m.log2 : Int) - f.fractionBits) f.leastPlace = last
    have hcut : Toward.even.cut false ((m * 2 ^ d) <<< (q - last).toNat) (last - q).toNat = Toward.even.cut false (m <<< (p - last).toNat) (last - p).toNat := by
      by_cases h : p ≤ last
      · have e1 : (q - last).toNat = 0 := by omega
        have e2 : (p - last).toNat = 0 := by omega
        have e3 : (last - q).toNat = (last - p).toNat + d := by omega
        rw [e1, e2, e3, Nat.shiftLeft_zero, Nat.shiftLeft_zero, cut_shift]
      · have e2 : (last - p).toNat = 0 := by omega
        rw [e2, Nat.shiftLeft_eq, Nat.shiftLeft_eq]
        have hc0 : ∀ n, Toward.even.cut false n 0 = n := fun n => by
          rw [cut_exact _ _ _ 0 (by omega) (by simp)]; simp
        rw [hc0]
        by_cases h2 : q ≤ last
        · have e1 : (q - last).toNat = 0 := by omega
          rw [e1, Nat.pow_zero, Nat.mul_one]
          have e4 : d = (p - last).toNat + (last - q).toNat := by omega
          have e5 : m * 2 ^ d = (m * 2 ^ (p - last).toNat) * 2 ^ (last - q).toNat := by rw [Nat.mul_assoc, ← Nat.pow_add, ← e4]
          rw [e5]
          have := cut_shift (m * 2 ^ (p - last).toNat) (last - q).toNat 0
          rw [Nat.zero_add] at this
          rw [this, hc0]
        · have e3 : (last - q).toNat = 0 := by omega
          rw [e3, hc0, Nat.mul_assoc, ← Nat.pow_add]
          congr 2
          omega
    rw [hcut]
/-- what is written of the amount v at the place B -/
def RB (k : FloatKind) (B : Int) (v : Int) : Option Int := fk k (k.format.word (decide (v < 0)) (rungOf k.format v.natAbs B))
theorem RB_neg (k : FloatKind) (B v : Int) : RB k B (-v) = (RB k B v).map (- ·) := by
  unfold RB
  obtain ⟨u, h0, hz, hu⟩ := fk_word k (rungOf_le k.format v.natAbs B)
  rw [Int.natAbs_neg, hu, hu]
  by_cases h : v = 0
  · subst h
    have : u = 0 := hz.2 (rungOf_zero _ _)
    subst this; simp
  · by_cases h1 : v < 0
    · have h2 : ¬ (-v < 0) := by omega
      rw [decide_eq_true h1, decide_eq_false h2]; simp [sg]
    · have h2 : -v < 0 := by omega
      rw [decide_eq_false h1, decide_eq_true h2]; simp [sg]
theorem fk_of_amount (k : FloatKind) (B : Int) (s : Bool) (m : Nat) (p : Int) (h : B ≤ p) : fk k (k.format.write (.number s m p)) = RB k B (sg s * (m : Int) * tp (p - B).toNat) := by
  show fk k (k.format.nearest s m p) = _
  rw [nearest_rung, ← rungOf_shift k.format m (p - B).toNat p B (by omega)]
  unfold RB
  have hn : (sg s * (m : Int) * tp (p - B).toNat).natAbs = m * 2 ^ (p - B).toNat := by
    rw [Int.natAbs_mul, Int.natAbs_mul]
    have : (sg s).natAbs = 1 := by cases s <;> rfl
    rw [this, Nat.one_mul]
    show ((m : Int)).natAbs * (((2 ^ (p - B).toNat : Nat) : Int)).natAbs = _
    rw [Int.natAbs_natCast, Int.natAbs_natCast]
  rw [hn]
  by_cases hm : m = 0
  · subst hm
    rw [Nat.zero_mul, rungOf_zero]
    obtain ⟨u, h0, hz, hu⟩ := fk_word k (rung := 0) (Nat.zero_le _)
    have : u = 0 := hz.2 rfl
    rw [hu, hu, this]; simp
  · have ht : 0 < (m : Int) * tp (p - B).toNat := Int.mul_pos (by omega) (tp_pos _)
    cases s
    · have : ¬ (sg false * (m : Int) * tp (p - B).toNat < 0) := by simp only [sg, Bool.false_eq_true, if_false, Int.one_mul]; omega
      rw [decide_eq_false this]
    · have : sg true * (m : Int) * tp (p - B).toNat < 0 := by simp only [sg, if_true, Int.neg_mul, Int.one_mul]; omega
      rw [decide_eq_true this]
/-- a finite number of this amount (in least places) -/
def Val (k : FloatKind) (x : Nat) (a : Int) : Prop := ∃ s m p, k.format.read x = .number s m p ∧ k.format.leastPlace ≤ p ∧ sg s * (m : Int) * tp (p - k.format.leastPlace).toNat = a
theorem Val.fk {k : FloatKind} {x : Nat} {a : Int} (h : Val k x a) : fk k x = some a := by
  obtain ⟨s, m, p, hr, -, rfl⟩ := h
  unfold Fx.fk; rw [hr]; rfl
theorem Val.not {k : FloatKind} {x : Nat} {a : Int} (h : Val k x a) : isN k x = false := by
  cases e : isN k x
  · rfl
  · have := fk_none.2 e; rw [h.fk] at this; cases this
theorem val_of_bd {k : FloatKind} {N x : Nat} {a : Int} (h : Bd k N x) (hN : N ≤ k.format.fractionBits + 1 + 2 ^ k.format.exponentBits) (ha : Fx.fk k x = some a) : Val k x a := by
  obtain ⟨s, m, p, hr, hp, -⟩ := h.number hN
  refine ⟨s, m, p, hr, hp, ?_⟩
  unfold Fx.fk at ha; rw [hr] at ha; exact Option.some.inj ha
theorem Val.uniq {k : FloatKind} {x : Nat} {a b : Int} (h : Val k x a) (hb : Fx.fk k x = some b) : b = a := by rw [h.fk] at hb; exact (Option.some.inj hb).symm
theorem val_cn {k : FloatKind} {x : Nat} {a : Int} : Val k (cn k x) a ↔ Val k x a := by
  cases e : isN k x
  · rw [cn_of_not e]
  · constructor
    · intro h; have := h.not; rw [isN_cn, e] at this; cases this
    · intro h; have := h.not; rw [e] at this; cases this
theorem val_fneg {k : FloatKind} {x : Nat} {a : Int} (h : Val k x a) : Val k (fneg k x) (-a) := by
  unfold fneg
  rw [val_cn]
  obtain ⟨s, m, p, hr, hp, rfl⟩ := h
  refine ⟨!s, m, p, by rw [read_neg, hr]; rfl, hp, ?_⟩
  rw [sg_not, Int.neg_mul, Int.neg_mul]
theorem fop_sub_eq (k : FloatKind) (x y : Nat) : fop .sub k x y = fop .add k x (fneg k y) := by
  unfold fneg
  rw [fop_cn_r]
  unfold fop floatBits
  simp only [Format.add, Format.sub]
  rw [read_neg]
/-- a sum hangs on the amounts alone -/
theorem fk_add_val {k : FloatKind} {x y : Nat} {a b : Int} (hx : Val k x a) (hy : Val k y b) : fk k (fop .add k x y) = RB k k.format.leastPlace (a + b) := by
  obtain ⟨s, m, i, hr, hi, rfl⟩ := hx
  obtain ⟨t, n, j, hr', hj, rfl⟩ := hy
  unfold fop floatBits
  simp only [Format.add]
  rw [hr, hr']
  simp only [Datum.sum, Option.map_some, Option.getD_some]
  rw [fk_of_amount k k.format.leastPlace _ _ _ (by omega)]
  congr 1
  rw [signed_eq, signed_eq]
  change sg _ * ((sg s * (m : Int) * tp (i - min i j).toNat + sg t * (n : Int) * tp (j - min i j).toNat).natAbs : Int) * tp (min i j - k.format.leastPlace).toNat = _
  rw [show (if sg s * (m : Int) * ((2 ^ (i - min i j).toNat : Nat) : Int) + sg t * (n : Int) * ((2 ^ (j - min i j).toNat : Nat) : Int) = 0 then s && t else decide (sg s * (m : Int) * ((2 ^ (i - min i j).toNat : Nat) : Int) + sg t * (n : Int) * ((2 ^ (j - min i j).toNat : Nat) : Int) < 0)) = (if sg s * (m : Int) * tp (i - min i j).toNat + sg t * (n : Int) * tp (j - min i j).toNat = 0 then s && t else decide (sg s * (m : Int) * tp (i - min i j).toNat + sg t * (n : Int) * tp (j - min i j).toNat < 0)) from rfl]
  rw [sg_abs, Int.add_mul, Int.mul_assoc, Int.mul_assoc (sg t * (n : Int)), ← tp_add, ← tp_add]
  have e1 : (i - min i j).toNat + (min i j - k.format.leastPlace).toNat = (i - k.format.leastPlace).toNat := by omega
  have e2 : (j - min i j).toNat + (min i j - k.format.leastPlace).toNat = (j - k.format.leastPlace).toNat := by omega
  rw [e1, e2]
theorem fk_sub_val {k : FloatKind} {x y : Nat} {a b : Int} (hx : Val k x a) (hy : Val k y b) : fk k (fop .sub k x y) = RB k k.format.leastPlace (a - b) := by
  rw [fop_sub_eq, fk_add_val hx (val_fneg hy), Int.sub_eq_add_neg]
/-- a product hangs on the amounts alone -/
theorem fk_mul_val {k : FloatKind} {x y : Nat} {a b : Int} (hx : Val k x a) (hy : Val k y b) : fk k (fop .mul k x y) = RB k (k.format.leastPlace + k.format.leastPlace) (a * b) := by
  obtain ⟨s, m, i, hr, hi, rfl⟩ := hx
  obtain ⟨t, n, j, hr', hj, rfl⟩ := hy
  unfold fop floatBits
  simp only [Format.mul]
  rw [hr, hr']
  simp only [Datum.product, Option.map_some, Option.getD_some]
  rw [fk_of_amount k (k.format.leastPlace + k.format.leastPlace) _ _ _ (by omega)]
  congr 1
  have e1 : tp (i + j - (k.format.leastPlace + k.format.leastPlace)).toNat = tp (i - k.format.leastPlace).toNat * tp (j - k.format.leastPlace).toNat := by rw [← tp_add]; congr 1; omega
  rw [e1, sg_xor, Int.natCast_mul]
  grind
theorem read_fit (f : Format) {b : Nat} {s : Bool} {m : Nat} {p : Int} (h : f.read b = .number s m p) (hf : 2 ≤ f.exponentBits) : m ≠ 0 → p + m.log2 + 1 < f.leastPlace + f.fractionBits + 2 ^ f.exponentBits - 1 := by
  intro hm
  have hmag := read_mag f h
  have hl := log2_lt_of hm hmag
  have hbin : 0 < f.binade := Nat.two_pow_pos _
  have hpe : ((2 ^ f.exponentBits : Nat) : Int) = 2 ^ f.exponentBits := by simp
  have h4 : 2 ^ 2 ≤ 2 ^ f.exponentBits := Nat.pow_le_pow_right (by omega) hf
  unfold Format.read at h
  simp only [] at h
  split at h
  · simp only [Datum.number.injEq] at h
    obtain ⟨-, -, rfl⟩ := h
    omega
  · rename_i hnb
    split at h
    · rename_i hr
      simp only [Datum.number.injEq] at h
      obtain ⟨-, -, rfl⟩ := h
      have : b % f.signWeight / f.binade < 2 ^ f.exponentBits - 1 := by
        rw [Nat.div_lt_iff_lt_mul hbin]; exact hr
      omega
    · split at h <;> cases h
/-- what is there is written as it is -/
theorem RB_keep {k : FloatKind} {x : Nat} {a : Int} (h : Val k x a) : RB k k.format.leastPlace a = some a := by
  obtain ⟨s, m, p, hr, hp, rfl⟩ := h
  rw [← fk_of_amount k k.format.leastPlace s m p hp]
  show fk k (k.format.nearest s m p) = _
  have h2 : 2 ≤ k.format.exponentBits := by cases k <;> decide
  obtain ⟨m', p', hr', hp', he⟩ := read_nearest k.format (good k) s m 0 p (read_mag _ hr) (by omega) (fun h0 => by have := read_fit _ hr h2 h0; simpa using this)
  rw [Nat.pow_zero, Nat.mul_one] at hr'
  unfold fk
  rw [hr']
  simp only [dk]
  congr 1
  rw [Int.mul_assoc, Int.mul_assoc]
  congr 1
  have : ((m' * 2 ^ (p' - k.format.leastPlace).toNat : Nat) : Int) = ((m * 2 ^ (p + (0 : Nat) - k.format.leastPlace).toNat : Nat) : Int) := by rw [he]
  rw [Int.natCast_mul, Int.natCast_mul] at this
  simpa [tp] using this
theorem fk_add_zero {k : FloatKind} {x z : Nat} {a : Int} (hx : Val k x a) (hz : Val k z 0) : fk k (fop .add k x z) = some a := by
  rw [fk_add_val hx hz, Int.add_zero, RB_keep hx]
theorem fk_zero_add {k : FloatKind} {x z : Nat} {a : Int} (hx : Val k x a) (hz : Val k z 0) : fk k (fop .add k z x) = some a := by
  rw [fk_add_val hz hx, Int.zero_add, RB_keep hx]
theorem fk_sub_zero {k : FloatKind} {x z : Nat} {a : Int} (hx : Val k x a) (hz : Val k z 0) : fk k (fop .sub k x z) = some a := by
  rw [fk_sub_val hx hz, Int.sub_zero, RB_keep hx]
theorem fk_zero_sub {k : FloatKind} {x z : Nat} {a : Int} (hx : Val k x a) (hz : Val k z 0) : fk k (fop .sub k z x) = some (-a) := by
  rw [fk_sub_val hz hx, Int.zero_sub, RB_neg, RB_keep hx]; rfl
theorem RB_zero (k : FloatKind) (B : Int) : RB k B 0 = some 0 := by
  unfold RB
  obtain ⟨u, h0, hz, hu⟩ := fk_word k (rungOf_le k.format (0 : Int).natAbs B)
  have : u = 0 := hz.2 (rungOf_zero _ _)
  rw [hu, this]; simp
theorem fk_mul_zero {k : FloatKind} {x z : Nat} {a : Int} (hx : Val k x a) (hz : Val k z 0) : fk k (fop .mul k x z) = some 0 := by
  rw [fk_mul_val hx hz, Int.mul_zero, RB_zero]
/-- a product with 2^j, written as a whole number of places, is what it was -/
theorem fk_mul_one {k : FloatKind} {x y : Nat} {a : Int} (hx : Val k x a) {j : Nat} (hy : k.format.read y = .number false (2 ^ j) (-(j : Int))) : fk k (fop .mul k x y) = some a := by
  obtain ⟨s, m, p, hr, hp, rfl⟩ := hx
  unfold fop floatBits
  simp only [Format.mul]
  rw [hr, hy]
  simp only [Datum.product, Option.map_some, Option.getD_some, Bool.xor_false]
  show fk k (k.format.nearest s (m * 2 ^ j) (p + -(j : Int))) = _
  have h2 : 2 ≤ k.format.exponentBits := by cases k <;> decide
  obtain ⟨m', p', hr', hp', he⟩ := read_nearest k.format (good k) s m j (p + -(j : Int)) (read_mag _ hr) (by omega) (fun h0 => by have := read_fit _ hr h2 h0; omega)
  unfold fk
  rw [hr']
  simp only [dk]
  congr 1
  rw [Int.mul_assoc, Int.mul_assoc]
  congr 1
  have e3 : (p + -(j : Int) + (j : Int) - k.format.leastPlace).toNat = (p - k.format.leastPlace).toNat := by omega
  rw [e3] at he
  have : ((m' * 2 ^ (p' - k.format.leastPlace).toNat : Nat) : Int) = ((m * 2 ^ (p - k.format.leastPlace).toNat : Nat) : Int) := by rw [he]
  rw [Int.natCast_mul, Int.natCast_mul] at this
  simpa [tp] using this
/-! bounds of products and quotients -/
theorem bd_mul {k : FloatKind} {N M L x y : Nat} (hx : Bd k N x) (hy : Bd k M y) (hN : N ≤ k.format.fractionBits + 1 + 2 ^ k.format.exponentBits) (hM : M ≤ k.format.fractionBits + 1 + 2 ^ k.format.exponentBits)
    (hL : (N : Int) + M + k.format.leastPlace ≤ L) (hL0 : k.format.fractionBits < L) (hL1 : L + 4 < k.format.fractionBits + 2 ^ k.format.exponentBits) : Bd k (L + 2) (fop .mul k x y) := by
  obtain ⟨s, m, i, hr, hi, hm⟩ := hx.number hN
  obtain ⟨t, n, j, hr', hj, hn⟩ := hy.number hM
  unfold fop floatBits
  simp only [Format.mul]
  rw [hr, hr']
  simp only [Datum.product, Option.map_some, Option.getD_some]
  have hE : (3 : Int) < 2 ^ k.format.exponentBits := by cases k <;> decide
  have hpe : ((2 ^ k.format.exponentBits : Nat) : Int) = 2 ^ k.format.exponentBits := by simp
  obtain ⟨m', p', hr2, hp2, hb2⟩ := nearest_bd k.format (s ^^ t) (m * n) (i + j) (L + k.format.leastPlace + 1) (fun h0 => by
    have hm0 : m ≠ 0 := fun e => h0 (by rw [e, Nat.zero_mul])
    have hn0 : n ≠ 0 := fun e => h0 (by rw [e, Nat.mul_zero])
    have l1 : m.log2 + (i - k.format.leastPlace).toNat < N := by rw [← log2_mul_pow hm0]; exact log2_lt_of (Nat.mul_ne_zero hm0 (by have := Nat.two_pow_pos (i - k.format.leastPlace).toNat; omega)) hm
    have l2 : n.log2 + (j - k.format.leastPlace).toNat < M := by rw [← log2_mul_pow hn0]; exact log2_lt_of (Nat.mul_ne_zero hn0 (by have := Nat.two_pow_pos (j - k.format.leastPlace).toNat; omega)) hn
    have l3 : (m * n).log2 < m.log2 + 1 + (n.log2 + 1) := log2_lt_of h0 (by
      rw [Nat.pow_add]; exact Nat.mul_lt_mul'' (lt_pow_log2 m) (lt_pow_log2 n))
    omega) (by omega) (by omega) hE
  exact bd_number (k := k) hr2 (fun h0 => by have := hb2 h0; omega)
theorem quo_pow (k : FloatKind) {x y : Nat} {s t : Bool} {m c : Nat} {i j : Int} (hx : k.format.read x = .number s m i) (hy : k.format.read y = .number t (2 ^ c) j) :
    ∃ d : Nat, fop .quo k x y = k.format.nearest (s ^^ t) (m * 2 ^ d) (i - j - c - d) := by
  have hc0 : 2 ^ c ≠ 0 := by have := Nat.two_pow_pos c; omega
  unfold fop floatBits
  simp only [Format.div]
  rw [hx, hy]
  simp only [Datum.quotient, if_neg hc0, Option.map_some, Option.getD_some, Nat.log2_two_pow]
  by_cases hm : m = 0
  · subst hm
    refine ⟨0, ?_⟩
    show k.format.nearest _ _ _ = _
    unfold Format.nearest
    simp
  · have hmag := read_mag _ hx
    have hl := log2_lt_of hm hmag
    generalize hmo : k.format.fractionBits + 2 + c - m.log2 = more
    have hsh : m <<< more = m * 2 ^ (more - c) * 2 ^ c := by rw [Nat.shiftLeft_eq, Nat.mul_assoc, ← Nat.pow_add]; congr 2; omega
    refine ⟨more - c + 1, ?_⟩
    show k.format.nearest _ _ _ = _
    rw [hsh, Nat.mul_div_cancel _ (Nat.two_pow_pos c), Nat.mul_mod_left]
    have e1 : 2 * (m * 2 ^ (more - c)) + ((0 : Nat) != 0).toNat = m * 2 ^ (more - c + 1) := by
      rw [Nat.pow_succ]; simp; grind
    have e2 : i - j - (more : Int) - 1 = i - j - c - ((more - c + 1 : Nat) : Int) := by omega
    rw [e1, e2]
/-- a quotient by a power of two hangs on the amount alone -/
theorem fk_quo_val {k : FloatKind} {x y : Nat} {a : Int} (hx : Val k x a) {t : Bool} {c : Nat} {j : Int} (hy : k.format.read y = .number t (2 ^ c) j) : fk k (fop .quo k x y) = RB k (k.format.leastPlace - (j + c)) (sg t * a) := by
  obtain ⟨s, m, i, hr, hi, rfl⟩ := hx
  obtain ⟨d, hd⟩ := quo_pow k hr hy
  rw [hd]
  have h1 : fk k (k.format.nearest (s ^^ t) (m * 2 ^ d) (i - j - c - d)) = fk k (k.format.write (.number (s ^^ t) m (i - j - c))) := by
    show fk k (k.format.nearest (s ^^ t) (m * 2 ^ d) (i - j - c - d)) = fk k (k.format.nearest (s ^^ t) m (i - j - c))
    rw [nearest_rung, nearest_rung, rungOf_shift k.format m d (i - j - c) _ (by omega)]
  rw [h1, fk_of_amount k (k.format.leastPlace - (j + c)) _ _ _ (by omega)]
  congr 1
  have e : (i - j - c - (k.format.leastPlace - (j + c))).toNat = (i - k.format.leastPlace).toNat := by omega
  rw [e, sg_xor]
  grind
theorem bd_quo {k : FloatKind} {N x y : Nat} (hx : Bd k N x) (hN0 : k.format.fractionBits < N) (hN1 : N + 4 < k.format.fractionBits + 2 ^ k.format.exponentBits) {t : Bool} {c : Nat} {j : Int} (hy : k.format.read y = .number t (2 ^ c) j) (hj : 0 ≤ j + c) : Bd k (N + 2) (fop .quo k x y) := by
  obtain ⟨s, m, i, hr, hi, hm⟩ := hx.number (by omega)
  obtain ⟨d, hd⟩ := quo_pow k hr hy
  rw [hd]
  have hE : (3 : Int) < 2 ^ k.format.exponentBits := by cases k <;> decide
  have hpe : ((2 ^ k.format.exponentBits : Nat) : Int) = 2 ^ k.format.exponentBits := by simp
  obtain ⟨m', p', hr2, hp2, hb2⟩ := nearest_bd k.format (s ^^ t) (m * 2 ^ d) (i - j - c - d) (N + k.format.leastPlace + 1) (fun h0 => by
    have hm0 : m ≠ 0 := fun e => h0 (by rw [e, Nat.zero_mul])
    have l1 : m.log2 + (i - k.format.leastPlace).toNat < N := by rw [← log2_mul_pow hm0]; exact log2_lt_of (Nat.mul_ne_zero hm0 (by have := Nat.two_pow_pos (i - k.format.leastPlace).toNat; omega)) hm
    rw [log2_mul_pow hm0]
    omega) (by omega) (by omega) hE
  exact bd_number (k := k) hr2 (fun h0 => by have := hb2 h0; omega)
end Go.Fx
end
section
namespace Go.Fx
open Ieee
set_option exponentiation.threshold 400
set_option linter.unusedVariables false
set_option linter.unusedSimpArgs false

/-! amounts: bounds that may be met -/

theorem Val.lt {k : FloatKind} {x : Nat} {a : Int} (h : Val k x a) : (a.natAbs : Int) < big k.format := by
  obtain ⟨s, m, p, hr, -, rfl⟩ := h
  have := number_lt k.format hr
  rw [Int.mul_assoc, sg_natAbs]
  have hp : 0 ≤ (m : Int) * tp (p - k.format.leastPlace).toNat := Int.mul_nonneg (by omega) (Int.le_of_lt (tp_pos _))
  omega
theorem val_of_lt {k : FloatKind} {x : Nat} {a : Int} (h : fk k x = some a) (hl : (a.natAbs : Int) < big k.format) : Val k x a := by
  have hp : ∀ s m p, k.format.read x = .number s m p → k.format.leastPlace ≤ p := fun s m p h => read_place _ h
  unfold fk at h
  unfold Val
  generalize k.format.read x = d at *
  cases d
  · rename_i s m p
    exact ⟨s, m, p, rfl, hp _ _ _ rfl, Option.some.inj h⟩
  · rename_i s
    have hb : 0 < big k.format := tp_pos _
    obtain rfl := Option.some.inj h
    rw [sg_natAbs] at hl
    omega
  · cases h
theorem val_fk {k : FloatKind} {x y : Nat} {a : Int} (h : Val k x a) (hy : fk k y = some a) : Val k y a := val_of_lt hy h.lt
theorem fk_zero32 : fk .f32 0 = some 0 := fk_zero
theorem val_zero : Val .f32 0 0 := val_of_lt fk_zero (by decide)
theorem rungOf_cap (f : Format) (n E : Nat) (hn : n ≤ 2 ^ E) (hE : f.fractionBits ≤ E) : rungOf f n f.leastPlace ≤ (E - f.fractionBits + 1) * f.binade := by
  have hb : 0 < f.binade := Nat.two_pow_pos _
  unfold rungOf
  by_cases h0 : n = 0
  · rw [if_pos h0]; omega
  · rw [if_neg h0]
    simp only []
    refine Nat.le_trans (Nat.min_le_left ..) ?_
    have hle := pow_log2_le h0
    have hlE : n.log2 ≤ E := (Nat.pow_le_pow_iff_right (by omega)).1 (Nat.le_trans hle hn)
    generalize hlast : max (f.leastPlace + (n.log2 : Int) - f.fractionBits) f.leastPlace = last
    have e0 : (f.leastPlace - last).toNat = 0 := by omega
    have e1 : (last - f.leastPlace).toNat = n.log2 - f.fractionBits := by omega
    rw [e0, e1, Nat.shiftLeft_zero]
    by_cases hEE : n.log2 = E
    · have hn2 : n = 2 ^ E := Nat.le_antisymm hn (by rw [← hEE]; exact hle)
      have hc : Toward.even.cut false n (n.log2 - f.fractionBits) = n / 2 ^ (n.log2 - f.fractionBits) := cut_exact _ _ _ _ (by omega) (by rw [hEE, hn2]; exact Nat.pow_dvd_pow 2 (by omega))
      rw [hc, hEE, hn2, Nat.pow_div (by omega) (by omega)]
      have : E - (E - f.fractionBits) = f.fractionBits := by omega
      rw [this, Nat.add_mul]; unfold Format.binade; omega
    · have hkept : Toward.even.cut false n (n.log2 - f.fractionBits) ≤ 2 ^ (f.fractionBits + 1) := by
        refine Nat.le_trans (cut_le _ _ _ _) ?_
        have hlt := lt_pow_log2 n
        have hq : n / 2 ^ (min (n.log2 - f.fractionBits) (n.log2 + 2)) < 2 ^ (f.fractionBits + 1) := by
          rw [Nat.div_lt_iff_lt_mul (Nat.two_pow_pos _), ← Nat.pow_add]
          refine Nat.lt_of_lt_of_le hlt (Nat.pow_le_pow_right (by omega) ?_)
          omega
        omega
      by_cases hlow : n.log2 < f.fractionBits
      · have e2 : n.log2 - f.fractionBits = 0 := by omega
        have hc : Toward.even.cut false n 0 = n := by rw [cut_exact _ _ _ 0 (by omega) (by simp)]; simp
        rw [e2, hc]
        have : n < 2 ^ f.fractionBits := Nat.lt_of_lt_of_le (lt_pow_log2 n) (Nat.pow_le_pow_right (by omega) (by omega))
        have h3 : f.binade ≤ (E - f.fractionBits + 1) * f.binade := Nat.le_mul_of_pos_left _ (by omega)
        unfold Format.binade at *
        omega
      · have e4 : E - f.fractionBits + 1 = (n.log2 - f.fractionBits) + 2 + (E - 1 - n.log2) := by omega
        rw [e4, Nat.add_mul, Nat.add_mul]
        have : 2 ^ (f.fractionBits + 1) = 2 * f.binade := by rw [Nat.pow_succ]; unfold Format.binade; omega
        omega
/-- a word below the rung of 2^E is a number of at most 2^E -/
theorem word_cap (k : FloatKind) (s : Bool) {rung E : Nat} (hr : rung ≤ (E - k.format.fractionBits + 1) * k.format.binade) (hE : k.format.fractionBits ≤ E) (hE1 : E + 2 < k.format.fractionBits + 2 ^ k.format.exponentBits) :
    ∃ a, Val k (k.format.word s rung) a ∧ a.natAbs ≤ 2 ^ E := by
  have hb : 0 < k.format.binade := Nat.two_pow_pos _
  have hir := k.format.infRung_lt
  have hlt : rung < k.format.infRung := by
    refine Nat.lt_of_le_of_lt hr ?_
    unfold Format.infRung
    exact Nat.mul_lt_mul_of_pos_right (by omega) hb
  have hsg : ∀ x : Nat, (sg s * (x : Int)).natAbs = x := fun x => by rw [sg_natAbs]; simp
  by_cases h1 : rung < k.format.binade
  · refine ⟨sg s * (rung : Int), ⟨s, rung, k.format.leastPlace, by rw [read_word _ _ (by omega), if_pos h1], Int.le_refl _, by simp [tp]⟩, ?_⟩
    rw [hsg]
    have : k.format.binade ≤ 2 ^ E := Nat.pow_le_pow_right (by omega) hE
    omega
  · generalize hq : rung / k.format.binade = q
    have hq1 : 1 ≤ q := by rw [← hq]; exact (Nat.one_le_div_iff hb).2 (by omega)
    have hmod := Nat.mod_lt rung hb
    have hdm := Nat.div_add_mod rung k.format.binade
    rw [hq] at hdm
    have e : (k.format.leastPlace + ((q - 1 : Nat) : Int) - k.format.leastPlace).toNat = q - 1 := by omega
    refine ⟨sg s * (((k.format.binade + rung % k.format.binade) * 2 ^ (q - 1) : Nat) : Int), ⟨s, k.format.binade + rung % k.format.binade, k.format.leastPlace + (q - 1 : Nat), by rw [read_word _ _ (by omega), if_neg h1, if_pos hlt, hq], by omega, ?_⟩, ?_⟩
    · rw [e, Int.natCast_mul, Int.mul_assoc]
    · rw [hsg]
      have hqE : q ≤ E - k.format.fractionBits + 1 := by
        rw [← hq]; exact Nat.div_le_of_le_mul (by rw [Nat.mul_comm]; exact hr)
      by_cases hqe : q = E - k.format.fractionBits + 1
      · have hm0 : rung % k.format.binade = 0 := by
          rw [← hqe, Nat.mul_comm] at hr; omega
        rw [hm0, Nat.add_zero, hqe]
        show 2 ^ k.format.fractionBits * 2 ^ (E - k.format.fractionBits + 1 - 1) ≤ 2 ^ E
        rw [← Nat.pow_add]
        exact Nat.pow_le_pow_right (by omega) (by omega)
      · have h3 : k.format.binade + rung % k.format.binade ≤ 2 ^ (k.format.fractionBits + 1) := by rw [Nat.pow_succ]; unfold Format.binade at *; omega
        refine Nat.le_trans (Nat.mul_le_mul_right _ h3) ?_
        rw [← Nat.pow_add]
        exact Nat.pow_le_pow_right (by omega) (by omega)
theorem RB_le (k : FloatKind) {v : Int} {E : Nat} (hv : v.natAbs ≤ 2 ^ E) (hE : k.format.fractionBits ≤ E) (hE1 : E + 2 < k.format.fractionBits + 2 ^ k.format.exponentBits) : ∃ a, RB k k.format.leastPlace v = some a ∧ a.natAbs ≤ 2 ^ E := by
  obtain ⟨a, h1, h2⟩ := word_cap k (decide (v < 0)) (rungOf_cap k.format v.natAbs E hv hE) hE hE1
  exact ⟨a, h1.fk, h2⟩
/-- a number of at most 2^E least places -/
def Ble (k : FloatKind) (E : Nat) (x : Nat) : Prop := ∃ a, Val k x a ∧ a.natAbs ≤ 2 ^ E
theorem Ble.mono {k : FloatKind} {E F x : Nat} (h : Ble k E x) (hF : E ≤ F) : Ble k F x := by
  obtain ⟨a, h1, h2⟩ := h
  exact ⟨a, h1, Nat.le_trans h2 (Nat.pow_le_pow_right (by omega) hF)⟩
theorem ble_of_bd {k : FloatKind} {N x : Nat} (h : Bd k N x) (hN : N ≤ k.format.fractionBits + 1 + 2 ^ k.format.exponentBits) : Ble k N x := by
  obtain ⟨a, h1, h2⟩ := h
  exact ⟨a, val_of_bd ⟨a, h1, h2⟩ hN h1, Nat.le_of_lt h2⟩
theorem Ble.bd {k : FloatKind} {E x : Nat} (h : Ble k E x) : Bd k (E + 1) x := by
  obtain ⟨a, h1, h2⟩ := h
  exact ⟨a, h1.fk, by have := Nat.two_pow_pos E; rw [Nat.pow_succ]; omega⟩
theorem ble_cn {k : FloatKind} {E x : Nat} : Ble k E (cn k x) ↔ Ble k E x := by
  unfold Ble
  constructor
  · rintro ⟨a, h, hl⟩; exact ⟨a, val_cn.1 h, hl⟩
  · rintro ⟨a, h, hl⟩; exact ⟨a, val_cn.2 h, hl⟩
theorem Ble.not {k : FloatKind} {E x : Nat} (h : Ble k E x) : isN k x = false := by obtain ⟨a, h1, -⟩ := h; exact h1.not
theorem big_le (k : FloatKind) {E : Nat} (hE1 : E + 2 < k.format.fractionBits + 2 ^ k.format.exponentBits) {a : Int} (h : a.natAbs ≤ 2 ^ E) : (a.natAbs : Int) < big k.format := by
  have h1 : 2 ^ E < 2 ^ (k.format.fractionBits + 1 + 2 ^ k.format.exponentBits) := Nat.pow_lt_pow_right (by omega) (by omega)
  unfold big
  show (a.natAbs : Int) < ((2 ^ (k.format.fractionBits + 1 + 2 ^ k.format.exponentBits) : Nat) : Int)
  omega
theorem val_RB {k : FloatKind} {x : Nat} {v : Int} {E : Nat} (h : fk k x = RB k k.format.leastPlace v) (hv : v.natAbs ≤ 2 ^ E) (hE : k.format.fractionBits ≤ E) (hE1 : E + 2 < k.format.fractionBits + 2 ^ k.format.exponentBits) : Ble k E x := by
  obtain ⟨a, h1, h2⟩ := RB_le k hv hE hE1
  rw [h1] at h
  exact ⟨a, val_of_lt h (big_le k hE1 h2), h2⟩
theorem ble_fneg {k : FloatKind} {E x : Nat} (h : Ble k E x) : Ble k E (fneg k x) := by
  obtain ⟨a, h1, h2⟩ := h
  exact ⟨-a, val_fneg h1, by rw [Int.natAbs_neg]; exact h2⟩
theorem ble_add {k : FloatKind} {E x y : Nat} (hx : Ble k E x) (hy : Ble k E y) (hE : k.format.fractionBits ≤ E + 1) (hE1 : E + 3 < k.format.fractionBits + 2 ^ k.format.exponentBits) : Ble k (E + 1) (fop .add k x y) := by
  obtain ⟨a, ha, ha2⟩ := hx
  obtain ⟨b, hb, hb2⟩ := hy
  refine val_RB (fk_add_val ha hb) ?_ hE (by omega)
  rw [Nat.pow_succ]; omega
theorem ble_sub {k : FloatKind} {E x y : Nat} (hx : Ble k E x) (hy : Ble k E y) (hE : k.format.fractionBits ≤ E + 1) (hE1 : E + 3 < k.format.fractionBits + 2 ^ k.format.exponentBits) : Ble k (E + 1) (fop .sub k x y) := by
  rw [fop_sub_eq]; exact ble_add hx (ble_fneg hy) hE hE1
theorem ble_mul {k : FloatKind} {N M L x y : Nat} (hx : Ble k N x) (hy : Ble k M y) (hN : N + 1 ≤ k.format.fractionBits + 1 + 2 ^ k.format.exponentBits) (hM : M + 1 ≤ k.format.fractionBits + 1 + 2 ^ k.format.exponentBits)
    (hL : ((N + 1 : Nat) : Int) + ((M + 1 : Nat) : Int) + k.format.leastPlace ≤ L) (hL0 : k.format.fractionBits < L) (hL1 : L + 4 < k.format.fractionBits + 2 ^ k.format.exponentBits) : Ble k (L + 2) (fop .mul k x y) :=
  ble_of_bd (bd_mul hx.bd hy.bd hN hM hL hL0 hL1) (by omega)
/-! the difference of two products, turned round -/
theorem opp_mul {k : FloatKind} {x x' y : Nat} {a b : Int} (hx : Val k x a) (hx' : Val k x' (-a)) (hy : Val k y b) : fk k (fop .mul k x' y) = (fk k (fop .mul k x y)).map (- ·) := by
  rw [fk_mul_val hx' hy, fk_mul_val hx hy, Int.neg_mul, RB_neg]
theorem opp_sub {k : FloatKind} {x x' y y' : Nat} {a b : Int} (hx : Val k x a) (hx' : Val k x' (-a)) (hy : Val k y b) (hy' : Val k y' (-b)) : fk k (fop .sub k x' y') = (fk k (fop .sub k x y)).map (- ·) := by
  rw [fk_sub_val hx' hy', fk_sub_val hx hy, ← RB_neg]; congr 1; omega
theorem opp_add {k : FloatKind} {x x' y y' : Nat} {a b : Int} (hx : Val k x a) (hx' : Val k x' (-a)) (hy : Val k y b) (hy' : Val k y' (-b)) : fk k (fop .add k x' y') = (fk k (fop .add k x y)).map (- ·) := by
  rw [fk_add_val hx' hy', fk_add_val hx hy, ← RB_neg]; congr 1; omega
theorem val_opp {k : FloatKind} {x x' : Nat} {a : Int} (h : Val k x a) (h' : fk k x' = (fk k x).map (- ·)) : Val k x' (-a) := by
  rw [h.fk] at h'
  exact val_of_lt h' (by rw [Int.natAbs_neg]; exact h.lt)
/-! what lies within 256, 1024 -/
theorem ble_within {x c : Nat} {C : Int} {N : Nat} (hc : fk .f32 c = some C) (h : within32 x c = true) (hC : C.natAbs < 2 ^ N) (h0 : 0 ≤ C) (hN : N ≤ 280) : Ble .f32 N x :=
  ble_of_bd (bd_within hc h hC h0) hN
theorem fk_c256 : fk .f32 1132462080 = some (256 * tp 149) := by decide +kernel
theorem fk_c1024 : fk .f32 1149239296 = some (1024 * tp 149) := by decide +kernel
theorem ble_256 {x : Nat} (h : within32 x 1132462080 = true) : Ble .f32 158 x := ble_within fk_c256 h (by decide +kernel) (by decide +kernel) (by omega)
theorem within_1024 {x : Nat} (h : within32 x 1132462080 = true) : within32 x 1149239296 = true := by
  obtain ⟨a, ha, -⟩ := ble_256 h
  unfold within32 at *
  rw [Bool.and_eq_true] at *
  have n1 : fk .f32 (Op.negFloat .f32 1132462080) = some (-(256 * tp 149)) := by rw [fk_neg, fk_c256]; rfl
  have n2 : fk .f32 (Op.negFloat .f32 1149239296) = some (-(1024 * tp 149)) := by rw [fk_neg, fk_c1024]; rfl
  rw [fge_fk ha.fk n1, fle_fk ha.fk fk_c256] at h
  rw [fge_fk ha.fk n2, fle_fk ha.fk fk_c1024]
  have ht := tp_pos 149
  have h1 := of_decide_eq_true h.1
  have h2 := of_decide_eq_true h.2
  exact ⟨decide_eq_true (by omega), decide_eq_true (by omega)⟩
theorem cell_ble {c : Cel} (h : cellOk c = true) : Ble .f32 158 c.y ∧ Ble .f32 158 c.re ∧ Ble .f32 158 c.im := by
  unfold cellOk at h
  rw [Bool.and_eq_true, Bool.and_eq_true] at h
  exact ⟨ble_256 h.1.1, ble_256 h.1.2, ble_256 h.2⟩
theorem row_cell {row : List Cel} (h : rowOk row = true) : ∀ c ∈ row, cellOk c = true := by
  unfold rowOk at h
  rw [Bool.and_eq_true] at h
  exact fun c hc => List.all_eq_true.1 h.2 c hc
/-! swings -/
theorem read_two : FloatKind.f32.format.read 1073741824 = .number false (2 ^ 23) (-22) := by decide +kernel
theorem read_four : FloatKind.f32.format.read 1082130432 = .number false (2 ^ 23) (-21) := by decide +kernel
theorem read_m32 : FloatKind.f32.format.read 3254779904 = .number true (2 ^ 23) (-18) := by decide +kernel
theorem bc_ble {rs : List Nat} (h : bcOk rs = true) : Ble .f32 168 (bcRe rs) ∧ Ble .f32 168 (bcIm rs) := by
  unfold bcOk at h
  have hl : lineOk rs = true := (Bool.and_eq_true _ _ ▸ h).1
  have hd : decodeOk false (brst rs) = true := (Bool.and_eq_true _ _ ▸ h).2
  have hro : rowOk (bcRow rs) = true := by
    unfold decodeOk at hd
    exact (Bool.and_eq_true _ _ ▸ hd).2
  have hlen := bcRow_len hl
  have hc := row_cell hro
  have f1 : fine ((bcRow rs).map Cel.re) = true := by
    unfold fine
    rw [List.all_map, List.all_eq_true]
    intro c hm
    have := hc c hm
    unfold cellOk at this
    rw [Bool.and_eq_true, Bool.and_eq_true] at this
    exact within_1024 this.1.2
  have f2 : fine ((bcRow rs).map Cel.im) = true := by
    unfold fine
    rw [List.all_map, List.all_eq_true]
    intro c hm
    have := hc c hm
    unfold cellOk at this
    rw [Bool.and_eq_true, Bool.and_eq_true] at this
    exact within_1024 this.2
  have b1 := sumN_bd f1 3 (by rw [List.length_map, hlen]; omega) (by omega)
  have b2 := sumN_bd f2 3 (by rw [List.length_map, hlen]; omega) (by omega)
  have hb : bcOk rs = true := by unfold bcOk; exact h
  unfold bcRe bcIm
  rw [if_pos hb, if_pos hb]
  exact ⟨ble_of_bd (bd_quo b1 (by decide) (by decide) read_four (by decide)) (by decide), ble_of_bd (bd_quo b2 (by decide) (by decide) read_four (by decide)) (by decide)⟩
theorem swingX_opp {a b : List Nat} (ha : bcOk a = true) (hb : bcOk b = true) : ∃ v, fk .f32 (swingX a b) = some v ∧ fk .f32 (swingX b a) = some (-v) := by
  obtain ⟨ar, ai⟩ := bc_ble ha
  obtain ⟨br, bi⟩ := bc_ble hb
  have e1 : add32 (bcRe b) (bcRe a) = add32 (bcRe a) (bcRe b) := fop_add_comm _ _ _
  have e2 : add32 (bcIm b) (bcIm a) = add32 (bcIm a) (bcIm b) := fop_add_comm _ _ _
  unfold swingX
  rw [e1, e2]
  have di := ble_sub ai bi (by decide) (by decide)
  have dr := ble_sub ar br (by decide) (by decide)
  have si := ble_add ai bi (by decide) (by decide)
  have sr := ble_add ar br (by decide) (by decide)
  have p1 := ble_mul (L := 191) di sr (by decide) (by decide) (by decide) (by decide) (by decide)
  have p2 := ble_mul (L := 191) dr si (by decide) (by decide) (by decide) (by decide) (by decide)
  have px := ble_sub p1 p2 (by decide) (by decide)
  obtain ⟨x1, v1, -⟩ := di
  obtain ⟨x2, v2, -⟩ := dr
  obtain ⟨x3, v3, -⟩ := si
  obtain ⟨x4, v4, -⟩ := sr
  obtain ⟨x5, v5, -⟩ := p1
  obtain ⟨x6, v6, -⟩ := p2
  obtain ⟨x7, v7, -⟩ := px
  have w1 := val_opp v1 (fk_sub_turn .f32 (bcIm a) (bcIm b))
  have w2 := val_opp v2 (fk_sub_turn .f32 (bcRe a) (bcRe b))
  have w5 := val_opp v5 (opp_mul v1 w1 v4)
  have w6 := val_opp v6 (opp_mul v2 w2 v3)
  exact ⟨x7, v7.fk, (val_opp v7 (opp_sub v5 w5 v6 w6)).fk⟩
theorem swing_turn (a b : List Nat) : swing a b = - swing b a := by
  unfold swing
  rw [Bool.and_comm (bcOk b)]
  by_cases h : (bcOk a && bcOk b) = true
  · rw [if_pos h, if_pos h]
    rw [Bool.and_eq_true] at h
    obtain ⟨v, h1, h2⟩ := swingX_opp h.1 h.2
    rw [flt_fk h1 fk_zero, flt_fk h2 fk_zero, fgt_fk h1 fk_zero, fgt_fk h2 fk_zero]
    rcases Int.lt_trichotomy v 0 with hv | hv | hv
    · have e1 : decide (v < 0) = true := decide_eq_true hv
      have e2 : decide (-v < 0) = false := decide_eq_false (by omega)
      have e3 : decide (0 < -v) = true := decide_eq_true (by omega)
      rw [e1, e2, e3]; rfl
    · subst hv; rfl
    · have e1 : decide (v < 0) = false := decide_eq_false (by omega)
      have e2 : decide (-v < 0) = true := decide_eq_true (by omega)
      have e3 : decide (0 < v) = true := decide_eq_true hv
      rw [e1, e2, e3]; rfl
  · rw [if_neg h, if_neg h]; rfl
theorem hg_turn (a b : List Nat) : hgOk a b = hgOk b a ∧ hgRe a b = hgRe b a ∧ hgIm a b = hgIm b a ∧ isN .f32 (hgRe a b) = false ∧ isN .f32 (hgIm a b) = false ∧ (hgOk a b = false → hgRe a b = 0 ∧ hgIm a b = 0) := by
  have e0 : hgOk a b = hgOk b a := Bool.and_comm _ _
  have e1 : add32 (bcRe a) (bcRe b) = add32 (bcRe b) (bcRe a) := fop_add_comm _ _ _
  have e2 : add32 (bcIm a) (bcIm b) = add32 (bcIm b) (bcIm a) := fop_add_comm _ _ _
  refine ⟨e0, ?_, ?_, ?_, ?_, ?_⟩
  · unfold hgRe; rw [e0, e1]
  · unfold hgIm; rw [e0, e2]
  · unfold hgRe
    by_cases h : hgOk a b = true
    · rw [if_pos h]
      unfold hgOk at h
      rw [Bool.and_eq_true] at h
      exact (ble_of_bd (bd_quo (ble_add (bc_ble h.1).1 (bc_ble h.2).1 (by decide) (by decide)).bd (by decide) (by decide) read_m32 (by decide)) (by decide)).not
    · rw [if_neg h]; decide
  · unfold hgIm
    by_cases h : hgOk a b = true
    · rw [if_pos h]
      unfold hgOk at h
      rw [Bool.and_eq_true] at h
      exact (ble_of_bd (bd_quo (ble_add (bc_ble h.1).2 (bc_ble h.2).2 (by decide) (by decide)).bd (by decide) (by decide) read_m32 (by decide)) (by decide)).not
    · rw [if_neg h]; decide
  · intro h
    unfold hgRe hgIm
    rw [h]; simp
/-! turns of the hue -/
def hueX (c d : Cel) : Nat := sub32 (mul32 c.re d.im) (mul32 c.im d.re)
def hueN (gs hs : List Cel) : Nat → Nat
  | 0 => 0
  | k + 1 => add32 (hueN gs hs k) (hueX (gs.getD k ⟨0, 0, 0⟩) (hs.getD k ⟨0, 0, 0⟩))
theorem zero_ble : cellOk ⟨0, 0, 0⟩ = true := by decide +kernel
theorem getD_ok {row : List Cel} (h : rowOk row = true) (k : Nat) : cellOk (row.getD k ⟨0, 0, 0⟩) = true := by
  rw [List.getD_eq_getElem?_getD]
  cases e : row[k]?
  · exact zero_ble
  · exact row_cell h _ (List.mem_of_getElem? e)
theorem hueX_ble {c d : Cel} (hc : cellOk c = true) (hd : cellOk d = true) : Ble .f32 172 (hueX c d) ∧ (fk .f32 (hueX d c) = (fk .f32 (hueX c d)).map (- ·)) := by
  obtain ⟨-, cr, ci⟩ := cell_ble hc
  obtain ⟨-, dr, di⟩ := cell_ble hd
  have p1 := ble_mul (L := 169) cr di (by decide) (by decide) (by decide) (by decide) (by decide)
  have p2 := ble_mul (L := 169) ci dr (by decide) (by decide) (by decide) (by decide) (by decide)
  refine ⟨ble_sub p1 p2 (by decide) (by decide), ?_⟩
  unfold hueX
  have e1 : mul32 d.re c.im = mul32 c.im d.re := fop_mulc _ _ _
  have e2 : mul32 d.im c.re = mul32 c.re d.im := fop_mulc _ _ _
  rw [e1, e2]
  exact fk_sub_turn _ _ _
theorem hueX_self {c : Cel} (hc : cellOk c = true) : Val .f32 (hueX c c) 0 := by
  obtain ⟨-, cr, ci⟩ := cell_ble hc
  obtain ⟨a, p1, -⟩ := ble_mul (L := 169) cr ci (by decide) (by decide) (by decide) (by decide) (by decide)
  have e1 : mul32 c.im c.re = mul32 c.re c.im := fop_mulc _ _ _
  unfold hueX
  rw [e1]
  refine val_of_lt ?_ (by decide)
  rw [fk_sub_val p1 p1, Int.sub_self, RB_zero]
theorem hueN_turn {gs hs : List Cel} (hg : rowOk gs = true) (hh : rowOk hs = true) : ∀ k, k ≤ 64 → ∃ v, Val .f32 (hueN gs hs k) v ∧ Val .f32 (hueN hs gs k) (-v) ∧ v.natAbs ≤ 2 ^ (172 + k)
  | 0, _ => ⟨0, val_zero, val_zero, by simp⟩
  | k + 1, hk => by
    obtain ⟨v, h1, h2, h3⟩ := hueN_turn hg hh k (by omega)
    obtain ⟨⟨x, hx, hxl⟩, ho⟩ := hueX_ble (getD_ok hg k) (getD_ok hh k)
    have hx' := val_opp hx ho
    have hb := ble_add (E := 172 + k) ⟨v, h1, h3⟩ ⟨x, hx, Nat.le_trans hxl (Nat.pow_le_pow_right (by omega) (by omega))⟩ (show 23 ≤ _ by omega) (show _ < 23 + 2 ^ 8 by omega)
    obtain ⟨s, hs, hsl⟩ := hb
    exact ⟨s, hs, val_opp hs (opp_add h1 h2 hx hx'), hsl⟩
theorem hueN_self {gs : List Cel} (hg : rowOk gs = true) : ∀ k, Val .f32 (hueN gs gs k) 0
  | 0 => val_zero
  | k + 1 => by
    have h1 := hueN_self hg k
    have h2 := hueX_self (getD_ok hg k)
    refine val_of_lt ?_ (by decide)
    show fk .f32 (fop .add .f32 _ _) = _
    rw [fk_add_val h1 h2]
    exact RB_zero _ _
end Go.Fx
end
