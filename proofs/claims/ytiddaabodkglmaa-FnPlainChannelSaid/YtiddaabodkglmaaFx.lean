import Derived.Laws.FloatBits
namespace Go.Fx
open Ieee

/-- the sign as a number -/
def sg (s : Bool) : Int := if s then -1 else 1

theorem signed_eq (s : Bool) (m u : Nat) : signed s m u = sg s * (m : Int) * ((2 ^ u : Nat) : Int) := by
  unfold signed sg
  rw [Nat.shiftLeft_eq]
  cases s <;> simp [Int.natCast_mul, Int.neg_mul]

theorem sg_sq (s : Bool) : sg s * sg s = 1 := by cases s <;> rfl
theorem sg_xor (s t : Bool) : sg (s ^^ t) = sg s * sg t := by cases s <;> cases t <;> rfl
theorem sg_not (s : Bool) : sg (!s) = - sg s := by cases s <;> rfl

theorem log2_lt_of {m k : Nat} (h0 : m ≠ 0) (h : m < 2 ^ k) : m.log2 < k := (Nat.log2_lt h0).2 h
theorem pow_log2_le {m : Nat} (h0 : m ≠ 0) : 2 ^ m.log2 ≤ m := Nat.log2_self_le h0
theorem lt_pow_log2 (m : Nat) : m < 2 ^ (m.log2 + 1) := Nat.lt_log2_self

theorem log2_mul_pow {m : Nat} (h0 : m ≠ 0) (k : Nat) : (m * 2 ^ k).log2 = m.log2 + k := by
  have hp : 0 < 2 ^ k := Nat.two_pow_pos k
  have h1 : m * 2 ^ k ≠ 0 := Nat.mul_ne_zero h0 (by omega)
  have ha : 2 ^ (m.log2 + k) ≤ m * 2 ^ k := by
    rw [Nat.pow_add]; exact Nat.mul_le_mul_right _ (pow_log2_le h0)
  have hb : m * 2 ^ k < 2 ^ (m.log2 + k + 1) := by
    have := lt_pow_log2 m
    have e : 2 ^ (m.log2 + k + 1) = 2 ^ (m.log2 + 1) * 2 ^ k := by rw [← Nat.pow_add]; congr 1; omega
    rw [e]; exact Nat.mul_lt_mul_of_pos_right this hp
  have h2 := (Nat.le_log2 h1).2 ha
  have h3 := (Nat.log2_lt h1).2 hb
  omega

/-- cutting what is whole -/
theorem cut_exact (way : Toward) (neg : Bool) (n drop : Nat) (hd : drop ≤ n.log2 + 2) (h : 2 ^ drop ∣ n) : way.cut neg n drop = n / 2 ^ drop := by
  have hm : min drop (n.log2 + 2) = drop := Nat.min_eq_left hd
  have hr : n % 2 ^ drop = 0 := Nat.mod_eq_zero_of_dvd h
  have hp : 0 < 2 ^ drop := Nat.two_pow_pos drop
  unfold Toward.cut
  simp only [hm, Nat.shiftLeft_eq, Nat.one_mul, hr]
  cases way <;> simp <;> omega

/-- the format has room for what a number of so many digits is -/
structure Good (f : Format) : Prop where
  frac : 1 ≤ f.fractionBits
  exp : 2 ≤ f.exponentBits
  neg : f.leastPlace ≤ 0
  room : (3 : Int) < f.leastPlace + 2 ^ f.exponentBits - 1

theorem good_single : Good single := ⟨by decide, by decide, by decide, by decide⟩
theorem good_double : Good double := ⟨by decide, by decide, by decide, by decide⟩

theorem word_read_lt (f : Format) (neg : Bool) {rung : Nat} (h : rung < f.signWeight) : f.word neg rung / f.signWeight % 2 == 1 ↔ neg = true := by
  have hp : 0 < f.signWeight := Nat.two_pow_pos _
  unfold Format.word
  cases neg
  · simp [Nat.div_eq_of_lt h]
  · simp [Nat.add_div_left _ hp, Nat.div_eq_of_lt h]

theorem word_read_mod (f : Format) (neg : Bool) {rung : Nat} (h : rung < f.signWeight) : f.word neg rung % f.signWeight = rung := by
  unfold Format.word
  cases neg
  · simp [Nat.mod_eq_of_lt h]
  · simp [Nat.mod_eq_of_lt h]

theorem read_word (f : Format) (neg : Bool) {rung : Nat} (h : rung < f.signWeight) :
    f.read (f.word neg rung) = if rung < f.binade then .number neg rung f.leastPlace
      else if rung < f.infRung then .number neg (f.binade + rung % f.binade) (f.leastPlace + (rung / f.binade - 1 : Nat))
      else if rung = f.infRung then .infinity neg else .nan neg (rung - f.infRung) := by
  have h1 := word_read_lt f neg h
  have hn : (f.word neg rung / f.signWeight % 2 == 1) = neg := by
    cases neg
    · cases hb : (f.word false rung / f.signWeight % 2 == 1)
      · rfl
      · rw [hb] at h1; simp at h1
    · simpa using h1
  unfold Format.read
  simp only [hn, word_read_mod f neg h]

/-- A number that the format has is written as it is. 'mag = m * 2 ^ k', m of at most fractionBits + 1 digits. -/
theorem read_nearest (f : Format) (hf : Good f) (neg : Bool) (m k : Nat) (place : Int) (hm : m < 2 ^ (f.fractionBits + 1)) (hlo : f.leastPlace ≤ place + k)
    (hhi : m ≠ 0 → place + k + m.log2 + 1 < f.leastPlace + f.fractionBits + 2 ^ f.exponentBits - 1) :
    ∃ m' p', f.read (f.nearest neg (m * 2 ^ k) place) = .number neg m' p' ∧ f.leastPlace ≤ p' ∧ m' * 2 ^ (p' - f.leastPlace).toNat = m * 2 ^ (place + k - f.leastPlace).toNat := by
  have hsw : 0 < f.signWeight := Nat.two_pow_pos _
  have hbin : 0 < f.binade := Nat.two_pow_pos _
  have hir := f.infRung_lt
  by_cases h0 : m = 0
  · subst h0
    refine ⟨0, f.leastPlace, ?_, Int.le_refl _, by simp⟩
    unfold Format.nearest
    simp only [Nat.zero_mul, if_true]
    rw [read_word f neg hsw, if_pos hbin]
  · have hmag : m * 2 ^ k ≠ 0 := Nat.mul_ne_zero h0 (by have := Nat.two_pow_pos k; omega)
    have hl := log2_mul_pow h0 k
    have hlm : m.log2 ≤ f.fractionBits := by have := log2_lt_of h0 hm; omega
    have hhi := hhi h0
    unfold Format.nearest
    rw [if_neg hmag]
    simp only [hl]
    generalize hlast : max (place + ((m.log2 + k : Nat) : Int) - f.fractionBits) f.leastPlace = last
    have hll : f.leastPlace ≤ last := by omega
    have hlp : last ≤ place + k := by omega
    -- what is kept
    have hkept : Toward.even.cut neg ((m * 2 ^ k) <<< (place - last).toNat) (last - place).toNat = m * 2 ^ (place + k - last).toNat := by
      by_cases hc : last ≤ place
      · have e1 : (last - place).toNat = 0 := by omega
        rw [e1, cut_exact _ _ _ _ (Nat.zero_le _) (by simp)]
        rw [Nat.shiftLeft_eq, Nat.pow_zero, Nat.div_one, Nat.mul_assoc, ← Nat.pow_add]
        congr 2
        omega
      · have e1 : (place - last).toNat = 0 := by omega
        have hdk : (last - place).toNat ≤ k := by omega
        rw [e1, Nat.shiftLeft_eq, Nat.pow_zero, Nat.mul_one]
        have hd : 2 ^ (last - place).toNat ∣ m * 2 ^ k := Nat.dvd_trans (Nat.pow_dvd_pow 2 hdk) (Nat.dvd_mul_left _ _)
        rw [cut_exact _ _ _ _ (by rw [hl]; omega) hd]
        have e2 : 2 ^ k = 2 ^ (place + k - last).toNat * 2 ^ (last - place).toNat := by rw [← Nat.pow_add]; congr 1; omega
        rw [e2, ← Nat.mul_assoc]
        exact Nat.mul_div_cancel _ (Nat.two_pow_pos _)
    rw [hkept]
    by_cases hn : f.leastPlace ≤ place + ((m.log2 + k : Nat) : Int) - f.fractionBits
    · -- a normal number
      have hlast' : last = place + ((m.log2 + k : Nat) : Int) - f.fractionBits := by omega
      have eq1 : (place + k - last).toNat = f.fractionBits - m.log2 := by omega
      rw [eq1]
      generalize hkk : m * 2 ^ (f.fractionBits - m.log2) = kept
      have hk1 : f.binade ≤ kept := by
        rw [← hkk]; unfold Format.binade
        have e : 2 ^ f.fractionBits = 2 ^ m.log2 * 2 ^ (f.fractionBits - m.log2) := by rw [← Nat.pow_add]; congr 1; omega
        rw [e]; exact Nat.mul_le_mul_right _ (pow_log2_le h0)
      have hk2 : kept < 2 * f.binade := by
        rw [← hkk]; unfold Format.binade
        have e : 2 * 2 ^ f.fractionBits = 2 ^ (m.log2 + 1) * 2 ^ (f.fractionBits - m.log2) := by rw [← Nat.pow_add, ← Nat.pow_succ']; congr 1; omega
        rw [e]; exact Nat.mul_lt_mul_of_pos_right (lt_pow_log2 m) (Nat.two_pow_pos _)
      generalize hq : (last - f.leastPlace).toNat = q
      have hqq : (q : Int) = last - f.leastPlace := by omega
      have hpe : ((2 ^ f.exponentBits : Nat) : Int) = 2 ^ f.exponentBits := by simp
      have hq2 : q + 2 < 2 ^ f.exponentBits := by omega
      have hrung : q * f.binade + kept < f.infRung := by
        unfold Format.infRung
        have h3 : (q + 2) * f.binade ≤ (2 ^ f.exponentBits - 1) * f.binade := Nat.mul_le_mul_right _ (by omega)
        have h4 : (q + 2) * f.binade = q * f.binade + 2 * f.binade := Nat.add_mul ..
        omega
      rw [Nat.min_eq_left (Nat.le_of_lt hrung), read_word f neg (Nat.lt_trans hrung hir)]
      have e5 : q * f.binade + kept = (kept - f.binade) + f.binade * (q + 1) := by rw [Nat.mul_add, Nat.mul_one, Nat.mul_comm f.binade q]; omega
      have hnb : ¬ q * f.binade + kept < f.binade := by omega
      rw [if_neg hnb, if_pos hrung, e5, Nat.add_mul_mod_self_left, Nat.add_mul_div_left _ _ hbin, Nat.mod_eq_of_lt (by omega), Nat.div_eq_of_lt (by omega)]
      refine ⟨_, _, rfl, by omega, ?_⟩
      have e6 : f.binade + (kept - f.binade) = kept := by omega
      have e7 : (f.leastPlace + ((0 + (q + 1) - 1 : Nat) : Int) - f.leastPlace).toNat = q := by omega
      rw [e6, e7, ← hkk, Nat.mul_assoc, ← Nat.pow_add]
      congr 2
      omega
    · -- a subnormal one
      have hlast' : last = f.leastPlace := by omega
      have hq : (last - f.leastPlace).toNat = 0 := by omega
      rw [hq, hlast', Nat.zero_mul, Nat.zero_add]
      have hk2 : m * 2 ^ (place + k - f.leastPlace).toNat < f.binade := by
        unfold Format.binade
        have h1 := lt_pow_log2 m
        have h2 : m * 2 ^ (place + k - f.leastPlace).toNat < 2 ^ (m.log2 + 1) * 2 ^ (place + k - f.leastPlace).toNat := Nat.mul_lt_mul_of_pos_right h1 (Nat.two_pow_pos _)
        rw [← Nat.pow_add] at h2
        exact Nat.lt_of_lt_of_le h2 (Nat.pow_le_pow_right (by omega) (by omega))
      have hb : f.binade ≤ f.infRung := by
        unfold Format.infRung
        have h3 : 2 ≤ 2 ^ f.exponentBits := by
          have := Nat.pow_le_pow_right (n := 2) (by omega) hf.exp
          omega
        exact Nat.le_mul_of_pos_left _ (by omega)
      rw [Nat.min_eq_left (by omega), read_word f neg (by omega), if_pos hk2]
      exact ⟨_, _, rfl, Int.le_refl _, by simp⟩

/-- '2 ^ k', as an integer -/
abbrev tp (k : Nat) : Int := ((2 ^ k : Nat) : Int)
theorem tp_add (a b : Nat) : tp (a + b) = tp a * tp b := by unfold tp; rw [Nat.pow_add, Int.natCast_mul]
theorem tp_pos (a : Nat) : 0 < tp a := by unfold tp; have := Nat.two_pow_pos a; omega
theorem tp_ne (a : Nat) : tp a ≠ 0 := by have := tp_pos a; omega

/-- The word 'b' stands for the number 'm / 2 ^ e'. -/
def IsV (f : Format) (b : Nat) (m : Int) (e : Nat) : Prop :=
  ∃ s mag pl, f.read b = .number s mag pl ∧ f.leastPlace ≤ pl ∧ sg s * (mag : Int) * ((2 ^ (pl - f.leastPlace).toNat : Nat) : Int) * ((2 ^ e : Nat) : Int) = m * ((2 ^ (-f.leastPlace).toNat : Nat) : Int)

theorem sg_natAbs (s : Bool) (x : Int) : (sg s * x).natAbs = x.natAbs := by cases s <;> simp [sg]

theorem isV_write (f : Format) (hf : Good f) (neg : Bool) (mag : Nat) (place B : Int) (m : Int) (e : Nat) (he : (e : Int) ≤ -f.leastPlace) (hm : m.natAbs ≤ 2 ^ (f.fractionBits + 1)) (hB : B ≤ place) (hB0 : B ≤ f.leastPlace)
    (hv : sg neg * (mag : Int) * ((2 ^ (place - B).toNat : Nat) : Int) * ((2 ^ e : Nat) : Int) = m * ((2 ^ (-B).toNat : Nat) : Int)) : IsV f (f.nearest neg mag place) m e := by
  have hneg := hf.neg
  -- the same of natural numbers
  have hn : mag * 2 ^ ((place - B).toNat + e) = m.natAbs * 2 ^ (-B).toNat := by
    have h := congrArg Int.natAbs hv
    rw [Int.natAbs_mul, Int.natAbs_mul, sg_natAbs, Int.natAbs_mul, Int.natAbs_natCast, Int.natAbs_natCast, Int.natAbs_natCast, Int.natAbs_natCast, Nat.mul_assoc, ← Nat.pow_add] at h
    exact h
  -- mag = m0 * 2 ^ k
  obtain ⟨m0, k, hmk, hm0, hpk, hhi⟩ : ∃ m0 k : Nat, mag = m0 * 2 ^ k ∧ m0 < 2 ^ (f.fractionBits + 1) ∧ f.leastPlace ≤ place + k ∧ (m0 ≠ 0 → place + k + m0.log2 ≤ f.fractionBits + 1) := by
    by_cases hpe : place + e ≤ 0
    · have e1 : (-B).toNat = (-(place + e)).toNat + ((place - B).toNat + e) := by omega
      rw [e1, Nat.pow_add (n := ((place - B).toNat + e)), ← Nat.mul_assoc] at hn
      have hmag : mag = m.natAbs * 2 ^ (-(place + e)).toNat := Nat.eq_of_mul_eq_mul_right (Nat.two_pow_pos _) hn
      by_cases hlt : m.natAbs < 2 ^ (f.fractionBits + 1)
      · refine ⟨m.natAbs, _, hmag, hlt, by omega, fun h0 => ?_⟩
        have := log2_lt_of h0 hlt
        omega
      · have heq : m.natAbs = 2 ^ (f.fractionBits + 1) := by omega
        refine ⟨2 ^ f.fractionBits, (-(place + e)).toNat + 1, ?_, Nat.pow_lt_pow_right (by omega) (by omega), by omega, fun _ => ?_⟩
        · rw [hmag, heq, Nat.pow_succ, Nat.pow_succ]; simp [Nat.mul_assoc, Nat.mul_comm, Nat.mul_left_comm]
        · rw [Nat.log2_two_pow]; omega
    · have e1 : (place - B).toNat + e = (place + e).toNat + (-B).toNat := by omega
      rw [e1, Nat.pow_add, ← Nat.mul_assoc] at hn
      have hmag : mag * 2 ^ (place + e).toNat = m.natAbs := Nat.eq_of_mul_eq_mul_right (Nat.two_pow_pos _) hn
      have h2 : mag * 2 ≤ m.natAbs := by
        rw [← hmag]; exact Nat.mul_le_mul_left _ (by have := Nat.pow_le_pow_right (n := 2) (by omega) (show 1 ≤ (place + e).toNat by omega); omega)
      refine ⟨mag, 0, by simp, ?_, by omega, fun h0 => ?_⟩
      · have := Nat.two_pow_pos (f.fractionBits + 1); omega
      · have h3 : (mag * 2 ^ (place + e).toNat).log2 ≤ f.fractionBits + 1 := by
          rw [hmag]
          have h4 : m.natAbs ≠ 0 := by have : 0 < mag := Nat.pos_of_ne_zero h0; omega
          have h5 : m.natAbs < 2 ^ (f.fractionBits + 2) := Nat.lt_of_le_of_lt hm (Nat.pow_lt_pow_right (by omega) (by omega))
          have := log2_lt_of h4 h5
          omega
        rw [log2_mul_pow h0] at h3
        omega
  subst hmk
  have hroom := hf.room
  obtain ⟨m', p', hr, hp', heq⟩ := read_nearest f hf neg m0 k place hm0 hpk (fun h0 => by have := hhi h0; omega)
  refine ⟨neg, m', p', hr, hp', ?_⟩
  have h1 : (m' : Int) * ((2 ^ (p' - f.leastPlace).toNat : Nat) : Int) = (m0 : Int) * ((2 ^ (place + k - f.leastPlace).toNat : Nat) : Int) := by
    rw [← Int.natCast_mul, ← Int.natCast_mul, heq]
  rw [Int.mul_assoc (sg neg), h1]
  -- the equation, times what is missing
  have h2 : ((2 ^ (f.leastPlace - B).toNat : Nat) : Int) ≠ 0 := by have := Nat.two_pow_pos (f.leastPlace - B).toNat; omega
  refine Int.eq_of_mul_eq_mul_right h2 ?_
  have e3 : tp (-B).toNat = tp (-f.leastPlace).toNat * tp (f.leastPlace - B).toNat := by rw [← tp_add]; congr 1; omega
  have e5 : tp k * tp (place - B).toNat = tp (place + k - f.leastPlace).toNat * tp (f.leastPlace - B).toNat := by rw [← tp_add, ← tp_add]; congr 1; omega
  change sg neg * ((m0 * 2 ^ k : Nat) : Int) * tp (place - B).toNat * tp e = m * tp (-B).toNat at hv
  change sg neg * ((m0 : Int) * tp (place + k - f.leastPlace).toNat) * tp e * tp (f.leastPlace - B).toNat = m * tp (-f.leastPlace).toNat * tp (f.leastPlace - B).toNat
  have e6 : ((m0 * 2 ^ k : Nat) : Int) = (m0 : Int) * tp k := Int.natCast_mul _ _
  rw [e3, ← Int.mul_assoc, e6] at hv
  rw [← hv]
  generalize tp k = a at *
  generalize tp (place - B).toNat = b at *
  generalize tp (place + k - f.leastPlace).toNat = c at *
  generalize tp (f.leastPlace - B).toNat = d at *
  generalize tp e = z at *
  generalize sg neg = y at *
  generalize (m0 : Int) = x at *
  clear hv h1 h2 e3 e6
  grind

theorem read_place (f : Format) {b : Nat} {s : Bool} {m : Nat} {p : Int} (h : f.read b = .number s m p) : f.leastPlace ≤ p := by
  unfold Format.read at h
  simp only at h
  split at h
  · cases h; exact Int.le_refl _
  · split at h
    · cases h; omega
    · split at h <;> cases h

theorem read_mag (f : Format) {b : Nat} {s : Bool} {m : Nat} {p : Int} (h : f.read b = .number s m p) : m < 2 ^ (f.fractionBits + 1) := by
  have hb : 0 < f.binade := Nat.two_pow_pos _
  have e : 2 ^ (f.fractionBits + 1) = 2 * f.binade := by unfold Format.binade; rw [Nat.pow_succ]; omega
  rw [e]
  unfold Format.read at h
  simp only at h
  split at h
  · cases h; omega
  · split at h
    · cases h; have := Nat.mod_lt (b % f.signWeight) hb; omega
    · split at h <;> cases h

theorem sg_abs (total : Int) (s : Bool) : sg (if total = 0 then s else decide (total < 0)) * (total.natAbs : Int) = total := by
  by_cases h : total = 0
  · subst h; simp
  · rw [if_neg h]
    by_cases h1 : total < 0
    · simp [h1, sg]; omega
    · simp [h1, sg]; omega

theorem isV_sum (f : Format) (hf : Good f) (s t : Bool) (a b : Nat) (i j : Int) (hi : f.leastPlace ≤ i) (hj : f.leastPlace ≤ j) {m n : Int} {e : Nat} (he : (e : Int) ≤ -f.leastPlace)
    (hx : sg s * (a : Int) * tp (i - f.leastPlace).toNat * tp e = m * tp (-f.leastPlace).toNat) (hy : sg t * (b : Int) * tp (j - f.leastPlace).toNat * tp e = n * tp (-f.leastPlace).toNat)
    (hm : (m + n).natAbs ≤ 2 ^ (f.fractionBits + 1)) : ∃ d, (Datum.number s a i).sum (Datum.number t b j) = some d ∧ IsV f (f.write d) (m + n) e := by
  refine ⟨_, rfl, ?_⟩
  simp only [signed_eq]
  unfold Format.write
  simp only
  refine isV_write f hf _ _ _ f.leastPlace _ e he hm (by omega) (Int.le_refl _) ?_
  rw [sg_abs]
  have e1 : tp (i - min i j).toNat * tp (min i j - f.leastPlace).toNat = tp (i - f.leastPlace).toNat := by rw [← tp_add]; congr 1; omega
  have e2 : tp (j - min i j).toNat * tp (min i j - f.leastPlace).toNat = tp (j - f.leastPlace).toNat := by rw [← tp_add]; congr 1; omega
  change (sg s * (a : Int) * tp (i - min i j).toNat + sg t * (b : Int) * tp (j - min i j).toNat) * tp (min i j - f.leastPlace).toNat * tp e = (m + n) * tp (-f.leastPlace).toNat
  rw [Int.add_mul m n, ← hx, ← hy, ← e1, ← e2]
  generalize tp (i - min i j).toNat = p1
  generalize tp (j - min i j).toNat = p2
  generalize tp (min i j - f.leastPlace).toNat = p3
  generalize tp e = p4
  grind

theorem isV_add {f : Format} (hf : Good f) {x y : Nat} {m n : Int} {e : Nat} (hx : IsV f x m e) (hy : IsV f y n e) (he : (e : Int) ≤ -f.leastPlace) (hm : (m + n).natAbs ≤ 2 ^ (f.fractionBits + 1)) :
    ∃ r, f.add x y = some r ∧ IsV f r (m + n) e := by
  obtain ⟨s, a, i, hr, hi, hv⟩ := hx
  obtain ⟨t, b, j, hr', hj, hv'⟩ := hy
  obtain ⟨d, hd, hv⟩ := isV_sum f hf s t a b i j hi hj he hv hv' hm
  exact ⟨f.write d, by unfold Format.add; rw [hr, hr', hd]; rfl, hv⟩

theorem isV_sub {f : Format} (hf : Good f) {x y : Nat} {m n : Int} {e : Nat} (hx : IsV f x m e) (hy : IsV f y n e) (he : (e : Int) ≤ -f.leastPlace) (hm : (m - n).natAbs ≤ 2 ^ (f.fractionBits + 1)) :
    ∃ r, f.sub x y = some r ∧ IsV f r (m - n) e := by
  obtain ⟨s, a, i, hr, hi, hv⟩ := hx
  obtain ⟨t, b, j, hr', hj, hv'⟩ := hy
  obtain ⟨d, hd, hv⟩ := isV_sum f hf s (!t) a b i j hi hj he (n := -n) hv (by rw [sg_not, Int.neg_mul, Int.neg_mul, Int.neg_mul, hv', Int.neg_mul]) (by rw [← Int.sub_eq_add_neg]; exact hm)
  exact ⟨f.write d, by unfold Format.sub; rw [hr, hr']; unfold Datum.opposite; rw [hd]; rfl, by rw [Int.sub_eq_add_neg]; exact hv⟩

theorem isV_mul {f : Format} (hf : Good f) {x y : Nat} {m n : Int} {e g : Nat} (hx : IsV f x m e) (hy : IsV f y n g) (he : ((e + g : Nat) : Int) ≤ -f.leastPlace) (hm : (m * n).natAbs ≤ 2 ^ (f.fractionBits + 1)) :
    ∃ r, f.mul x y = some r ∧ IsV f r (m * n) (e + g) := by
  obtain ⟨s, a, i, hr, hi, hv⟩ := hx
  obtain ⟨t, b, j, hr', hj, hv'⟩ := hy
  refine ⟨f.nearest (s ^^ t) (a * b) (i + j), by unfold Format.mul; rw [hr, hr']; rfl, ?_⟩
  have hneg := hf.neg
  refine isV_write f hf _ _ _ (f.leastPlace + f.leastPlace) _ _ he hm (by omega) (by omega) ?_
  have e1 : tp (i + j - (f.leastPlace + f.leastPlace)).toNat = tp (i - f.leastPlace).toNat * tp (j - f.leastPlace).toNat := by rw [← tp_add]; congr 1; omega
  have e2 : tp (-(f.leastPlace + f.leastPlace)).toNat = tp (-f.leastPlace).toNat * tp (-f.leastPlace).toNat := by rw [← tp_add]; congr 1; omega
  change sg (s ^^ t) * ((a * b : Nat) : Int) * tp (i + j - (f.leastPlace + f.leastPlace)).toNat * tp (e + g) = m * n * tp (-(f.leastPlace + f.leastPlace)).toNat
  rw [e1, e2, tp_add, sg_xor, Int.natCast_mul]
  have := congrArg (· * (n * tp (-f.leastPlace).toNat)) hv
  change sg s * (a : Int) * tp (i - f.leastPlace).toNat * tp e * (n * tp (-f.leastPlace).toNat) = m * tp (-f.leastPlace).toNat * (n * tp (-f.leastPlace).toNat) at this
  change sg t * (b : Int) * tp (j - f.leastPlace).toNat * tp g = n * tp (-f.leastPlace).toNat at hv'
  rw [← hv'] at this
  generalize tp (-f.leastPlace).toNat = q at *
  generalize tp (i - f.leastPlace).toNat = q1 at *
  generalize tp (j - f.leastPlace).toNat = q2 at *
  generalize tp e = q3 at *
  generalize tp g = q4 at *
  grind

/-- The scale may be made finer. -/
theorem IsV.finer {f : Format} {x : Nat} {m : Int} {e : Nat} (h : IsV f x m e) (k : Nat) : IsV f x (m * tp k) (e + k) := by
  obtain ⟨s, a, i, hr, hi, hv⟩ := h
  refine ⟨s, a, i, hr, hi, ?_⟩
  change sg s * (a : Int) * tp (i - f.leastPlace).toNat * tp (e + k) = m * tp k * tp (-f.leastPlace).toNat
  change sg s * (a : Int) * tp (i - f.leastPlace).toNat * tp e = m * tp (-f.leastPlace).toNat at hv
  rw [tp_add, ← Int.mul_assoc, hv]
  grind

theorem IsV.coarser {f : Format} {x : Nat} {m : Int} {e k : Nat} (h : IsV f x (m * tp k) (e + k)) : IsV f x m e := by
  obtain ⟨s, a, i, hr, hi, hv⟩ := h
  refine ⟨s, a, i, hr, hi, ?_⟩
  change sg s * (a : Int) * tp (i - f.leastPlace).toNat * tp (e + k) = m * tp k * tp (-f.leastPlace).toNat at hv
  change sg s * (a : Int) * tp (i - f.leastPlace).toNat * tp e = m * tp (-f.leastPlace).toNat
  refine Int.eq_of_mul_eq_mul_right (tp_ne k) ?_
  rw [tp_add] at hv
  grind

end Go.Fx
