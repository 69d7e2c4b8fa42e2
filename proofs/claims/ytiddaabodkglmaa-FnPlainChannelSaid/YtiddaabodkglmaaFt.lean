import Derived.Test.YtiddaabodkglmaaFs
namespace Go.Fx
open Ieee
set_option linter.unusedVariables false
set_option linter.unusedSimpArgs false

/-! what is written hangs on the exact amount alone; what is there already is written as it is -/

theorem cut_shift (n d x : Nat) : Toward.even.cut false (n * 2 ^ d) (x + d) = Toward.even.cut false n x := by
  by_cases hn : n = 0
  · subst hn
    unfold Toward.cut
    simp only [Nat.zero_mul, Nat.zero_mod, Nat.zero_div, Nat.shiftLeft_eq, Nat.one_mul, Nat.mul_zero]
    have h1 := Nat.two_pow_pos (min (x + d) (Nat.log2 0 + 2))
    have h2 := Nat.two_pow_pos (min x (Nat.log2 0 + 2))
    have e1 : (2 ^ min (x + d) (Nat.log2 0 + 2) == 0) = false := by simp; 
    have e2 : (2 ^ min x (Nat.log2 0 + 2) == 0) = false := by simp; 
    rw [e1, e2]
    have e3 : decide (2 ^ min (x + d) (Nat.log2 0 + 2) < 0) = false := by simp
    have e4 : decide (2 ^ min x (Nat.log2 0 + 2) < 0) = false := by simp
    rw [e3, e4]
  · unfold Toward.cut
    simp only [Nat.shiftLeft_eq, Nat.one_mul]
    rw [log2_mul_pow hn]
    have hm : min (x + d) (n.log2 + d + 2) = min x (n.log2 + 2) + d := by omega
    rw [hm]
    generalize min x (n.log2 + 2) = y
    have hp := Nat.two_pow_pos d
    have hdiv : n * 2 ^ d / 2 ^ (y + d) = n / 2 ^ y := by
      rw [Nat.pow_add]; exact Nat.mul_div_mul_right _ _ hp
    have hmod : n * 2 ^ d % 2 ^ (y + d) = n % 2 ^ y * 2 ^ d := by
      rw [Nat.pow_add]; exact Nat.mul_mod_mul_right _ _ _
    rw [hdiv, hmod]
    have e1 : decide (2 ^ (y + d) < 2 * (n % 2 ^ y * 2 ^ d)) = decide (2 ^ y < 2 * (n % 2 ^ y)) := by
      rw [Nat.pow_add, ← Nat.mul_assoc]
      exact decide_eq_decide.2 (Nat.mul_lt_mul_right hp)
    have e2 : (2 ^ (y + d) == 2 * (n % 2 ^ y * 2 ^ d)) = (2 ^ y == 2 * (n % 2 ^ y)) := by
      rw [Nat.pow_add, ← Nat.mul_assoc, Bool.eq_iff_iff, beq_iff_eq, beq_iff_eq]
      exact ⟨fun h => Nat.eq_of_mul_eq_mul_right hp h, fun h => congrArg (· * 2 ^ d) h⟩
    rw [e1, e2]
theorem rungOf_shift (f : Format) (m d : Nat) (p q : Int) (hp : p = q + d) : rungOf f (m * 2 ^ d) q = rungOf f m p := by
  by_cases hm : m = 0
  · subst hm; rw [Nat.zero_mul, rungOf_zero, rungOf_zero]
  · have hm2 : m * 2 ^ d ≠ 0 := Nat.mul_ne_zero hm (by have := Nat.two_pow_pos d; omega)
    unfold rungOf
    rw [if_neg hm, if_neg hm2, log2_mul_pow hm]
    simp only []
    have hl : q + ((m.log2 + d : Nat) : Int) = p + m.log2 := by omega
    rw [hl]
    generalize hlast : max (p + (m.log2 : Int) - f.fractionBits) f.leastPlace = last
    have hcut : Toward.even.cut false ((m * 2 ^ d) <<< (q - last).toNat) (last - q).toNat = Toward.even.cut false (m <<< (p - last).toNat) (last - p).toNat := by
      by_cases h : p ≤ last
      · have e1 : (q - last).toNat = 0 := by omega
        have e2 : (p - last).toNat = 0 := by omega
        have e3 : (last - q).toNat = (last - p).toNat + d := by omega
        rw [e1, e2, e3, Nat.shiftLeft_zero, Nat.shiftLeft_zero, cut_shift]
      · have e2 : (last - p).toNat = 0 := by omega
        rw [e2, Nat.shiftLeft_eq, Nat.shiftLeft_eq]
        have hc0 : ∀ n, Toward.even.cut false n 0 = n := fun n => by
          rw [cut_exact _ _ _ 0 (by omega) (by simp)]; simp
        rw [hc0]
        by_cases h2 : q ≤ last
        · have e1 : (q - last).toNat = 0 := by omega
          rw [e1, Nat.pow_zero, Nat.mul_one]
          have e4 : d = (p - last).toNat + (last - q).toNat := by omega
          have e5 : m * 2 ^ d = (m * 2 ^ (p - last).toNat) * 2 ^ (last - q).toNat := by rw [Nat.mul_assoc, ← Nat.pow_add, ← e4]
          rw [e5]
          have := cut_shift (m * 2 ^ (p - last).toNat) (last - q).toNat 0
          rw [Nat.zero_add] at this
          rw [this, hc0]
        · have e3 : (last - q).toNat = 0 := by omega
          rw [e3, hc0, Nat.mul_assoc, ← Nat.pow_add]
          congr 2
          omega
    rw [hcut]
/-- what is written of the amount v at the place B -/
def RB (k : FloatKind) (B : Int) (v : Int) : Option Int := fk k (k.format.word (decide (v < 0)) (rungOf k.format v.natAbs B))
theorem RB_neg (k : FloatKind) (B v : Int) : RB k B (-v) = (RB k B v).map (- ·) := by
  unfold RB
  obtain ⟨u, h0, hz, hu⟩ := fk_word k (rungOf_le k.format v.natAbs B)
  rw [Int.natAbs_neg, hu, hu]
  by_cases h : v = 0
  · subst h
    have : u = 0 := hz.2 (rungOf_zero _ _)
    subst this; simp
  · by_cases h1 : v < 0
    · have h2 : ¬ (-v < 0) := by omega
      rw [decide_eq_true h1, decide_eq_false h2]; simp [sg]
    · have h2 : -v < 0 := by omega
      rw [decide_eq_false h1, decide_eq_true h2]; simp [sg]
theorem fk_of_amount (k : FloatKind) (B : Int) (s : Bool) (m : Nat) (p : Int) (h : B ≤ p) : fk k (k.format.write (.number s m p)) = RB k B (sg s * (m : Int) * tp (p - B).toNat) := by
  show fk k (k.format.nearest s m p) = _
  rw [nearest_rung, ← rungOf_shift k.format m (p - B).toNat p B (by omega)]
  unfold RB
  have hn : (sg s * (m : Int) * tp (p - B).toNat).natAbs = m * 2 ^ (p - B).toNat := by
    rw [Int.natAbs_mul, Int.natAbs_mul]
    have : (sg s).natAbs = 1 := by cases s <;> rfl
    rw [this, Nat.one_mul]
    show ((m : Int)).natAbs * (((2 ^ (p - B).toNat : Nat) : Int)).natAbs = _
    rw [Int.natAbs_natCast, Int.natAbs_natCast]
  rw [hn]
  by_cases hm : m = 0
  · subst hm
    rw [Nat.zero_mul, rungOf_zero]
    obtain ⟨u, h0, hz, hu⟩ := fk_word k (rung := 0) (Nat.zero_le _)
    have : u = 0 := hz.2 rfl
    rw [hu, hu, this]; simp
  · have ht : 0 < (m : Int) * tp (p - B).toNat := Int.mul_pos (by omega) (tp_pos _)
    cases s
    · have : ¬ (sg false * (m : Int) * tp (p - B).toNat < 0) := by simp only [sg, Bool.false_eq_true, if_false, Int.one_mul]; omega
      rw [decide_eq_false this]
    · have : sg true * (m : Int) * tp (p - B).toNat < 0 := by simp only [sg, if_true, Int.neg_mul, Int.one_mul]; omega
      rw [decide_eq_true this]
/-- a finite number of this amount (in least places) -/
def Val (k : FloatKind) (x : Nat) (a : Int) : Prop := ∃ s m p, k.format.read x = .number s m p ∧ k.format.leastPlace ≤ p ∧ sg s * (m : Int) * tp (p - k.format.leastPlace).toNat = a
theorem Val.fk {k : FloatKind} {x : Nat} {a : Int} (h : Val k x a) : fk k x = some a := by
  obtain ⟨s, m, p, hr, -, rfl⟩ := h
  unfold Fx.fk; rw [hr]; rfl
theorem Val.not {k : FloatKind} {x : Nat} {a : Int} (h : Val k x a) : isN k x = false := by
  cases e : isN k x
  · rfl
  · have := fk_none.2 e; rw [h.fk] at this; cases this
theorem val_of_bd {k : FloatKind} {N x : Nat} {a : Int} (h : Bd k N x) (hN : N ≤ k.format.fractionBits + 1 + 2 ^ k.format.exponentBits) (ha : Fx.fk k x = some a) : Val k x a := by
  obtain ⟨s, m, p, hr, hp, -⟩ := h.number hN
  refine ⟨s, m, p, hr, hp, ?_⟩
  unfold Fx.fk at ha; rw [hr] at ha; exact Option.some.inj ha
theorem Val.uniq {k : FloatKind} {x : Nat} {a b : Int} (h : Val k x a) (hb : Fx.fk k x = some b) : b = a := by rw [h.fk] at hb; exact (Option.some.inj hb).symm
theorem val_cn {k : FloatKind} {x : Nat} {a : Int} : Val k (cn k x) a ↔ Val k x a := by
  cases e : isN k x
  · rw [cn_of_not e]
  · constructor
    · intro h; have := h.not; rw [isN_cn, e] at this; cases this
    · intro h; have := h.not; rw [e] at this; cases this
theorem val_fneg {k : FloatKind} {x : Nat} {a : Int} (h : Val k x a) : Val k (fneg k x) (-a) := by
  unfold fneg
  rw [val_cn]
  obtain ⟨s, m, p, hr, hp, rfl⟩ := h
  refine ⟨!s, m, p, by rw [read_neg, hr]; rfl, hp, ?_⟩
  rw [sg_not, Int.neg_mul, Int.neg_mul]
theorem fop_sub_eq (k : FloatKind) (x y : Nat) : fop .sub k x y = fop .add k x (fneg k y) := by
  unfold fneg
  rw [fop_cn_r]
  unfold fop floatBits
  simp only [Format.add, Format.sub]
  rw [read_neg]
/-- a sum hangs on the amounts alone -/
theorem fk_add_val {k : FloatKind} {x y : Nat} {a b : Int} (hx : Val k x a) (hy : Val k y b) : fk k (fop .add k x y) = RB k k.format.leastPlace (a + b) := by
  obtain ⟨s, m, i, hr, hi, rfl⟩ := hx
  obtain ⟨t, n, j, hr', hj, rfl⟩ := hy
  unfold fop floatBits
  simp only [Format.add]
  rw [hr, hr']
  simp only [Datum.sum, Option.map_some, Option.getD_some]
  rw [fk_of_amount k k.format.leastPlace _ _ _ (by omega)]
  congr 1
  rw [signed_eq, signed_eq]
  change sg _ * ((sg s * (m : Int) * tp (i - min i j).toNat + sg t * (n : Int) * tp (j - min i j).toNat).natAbs : Int) * tp (min i j - k.format.leastPlace).toNat = _
  rw [show (if sg s * (m : Int) * ((2 ^ (i - min i j).toNat : Nat) : Int) + sg t * (n : Int) * ((2 ^ (j - min i j).toNat : Nat) : Int) = 0 then s && t else decide (sg s * (m : Int) * ((2 ^ (i - min i j).toNat : Nat) : Int) + sg t * (n : Int) * ((2 ^ (j - min i j).toNat : Nat) : Int) < 0)) = (if sg s * (m : Int) * tp (i - min i j).toNat + sg t * (n : Int) * tp (j - min i j).toNat = 0 then s && t else decide (sg s * (m : Int) * tp (i - min i j).toNat + sg t * (n : Int) * tp (j - min i j).toNat < 0)) from rfl]
  rw [sg_abs, Int.add_mul, Int.mul_assoc, Int.mul_assoc (sg t * (n : Int)), ← tp_add, ← tp_add]
  have e1 : (i - min i j).toNat + (min i j - k.format.leastPlace).toNat = (i - k.format.leastPlace).toNat := by omega
  have e2 : (j - min i j).toNat + (min i j - k.format.leastPlace).toNat = (j - k.format.leastPlace).toNat := by omega
  rw [e1, e2]
theorem fk_sub_val {k : FloatKind} {x y : Nat} {a b : Int} (hx : Val k x a) (hy : Val k y b) : fk k (fop .sub k x y) = RB k k.format.leastPlace (a - b) := by
  rw [fop_sub_eq, fk_add_val hx (val_fneg hy), Int.sub_eq_add_neg]
/-- a product hangs on the amounts alone -/
theorem fk_mul_val {k : FloatKind} {x y : Nat} {a b : Int} (hx : Val k x a) (hy : Val k y b) : fk k (fop .mul k x y) = RB k (k.format.leastPlace + k.format.leastPlace) (a * b) := by
  obtain ⟨s, m, i, hr, hi, rfl⟩ := hx
  obtain ⟨t, n, j, hr', hj, rfl⟩ := hy
  unfold fop floatBits
  simp only [Format.mul]
  rw [hr, hr']
  simp only [Datum.product, Option.map_some, Option.getD_some]
  rw [fk_of_amount k (k.format.leastPlace + k.format.leastPlace) _ _ _ (by omega)]
  congr 1
  have e1 : tp (i + j - (k.format.leastPlace + k.format.leastPlace)).toNat = tp (i - k.format.leastPlace).toNat * tp (j - k.format.leastPlace).toNat := by rw [← tp_add]; congr 1; omega
  rw [e1, sg_xor, Int.natCast_mul]
  grind
theorem read_fit (f : Format) {b : Nat} {s : Bool} {m : Nat} {p : Int} (h : f.read b = .number s m p) (hf : 2 ≤ f.exponentBits) : m ≠ 0 → p + m.log2 + 1 < f.leastPlace + f.fractionBits + 2 ^ f.exponentBits - 1 := by
  intro hm
  have hmag := read_mag f h
  have hl := log2_lt_of hm hmag
  have hbin : 0 < f.binade := Nat.two_pow_pos _
  have hpe : ((2 ^ f.exponentBits : Nat) : Int) = 2 ^ f.exponentBits := by simp
  have h4 : 2 ^ 2 ≤ 2 ^ f.exponentBits := Nat.pow_le_pow_right (by omega) hf
  unfold Format.read at h
  simp only [] at h
  split at h
  · simp only [Datum.number.injEq] at h
    obtain ⟨-, -, rfl⟩ := h
    omega
  · rename_i hnb
    split at h
    · rename_i hr
      simp only [Datum.number.injEq] at h
      obtain ⟨-, -, rfl⟩ := h
      have : b % f.signWeight / f.binade < 2 ^ f.exponentBits - 1 := by
        rw [Nat.div_lt_iff_lt_mul hbin]; exact hr
      omega
    · split at h <;> cases h
/-- what is there is written as it is -/
theorem RB_keep {k : FloatKind} {x : Nat} {a : Int} (h : Val k x a) : RB k k.format.leastPlace a = some a := by
  obtain ⟨s, m, p, hr, hp, rfl⟩ := h
  rw [← fk_of_amount k k.format.leastPlace s m p hp]
  show fk k (k.format.nearest s m p) = _
  have h2 : 2 ≤ k.format.exponentBits := by cases k <;> decide
  obtain ⟨m', p', hr', hp', he⟩ := read_nearest k.format (good k) s m 0 p (read_mag _ hr) (by omega) (fun h0 => by have := read_fit _ hr h2 h0; simpa using this)
  rw [Nat.pow_zero, Nat.mul_one] at hr'
  unfold fk
  rw [hr']
  simp only [dk]
  congr 1
  rw [Int.mul_assoc, Int.mul_assoc]
  congr 1
  have : ((m' * 2 ^ (p' - k.format.leastPlace).toNat : Nat) : Int) = ((m * 2 ^ (p + (0 : Nat) - k.format.leastPlace).toNat : Nat) : Int) := by rw [he]
  rw [Int.natCast_mul, Int.natCast_mul] at this
  simpa [tp] using this
theorem fk_add_zero {k : FloatKind} {x z : Nat} {a : Int} (hx : Val k x a) (hz : Val k z 0) : fk k (fop .add k x z) = some a := by
  rw [fk_add_val hx hz, Int.add_zero, RB_keep hx]
theorem fk_zero_add {k : FloatKind} {x z : Nat} {a : Int} (hx : Val k x a) (hz : Val k z 0) : fk k (fop .add k z x) = some a := by
  rw [fk_add_val hz hx, Int.zero_add, RB_keep hx]
theorem fk_sub_zero {k : FloatKind} {x z : Nat} {a : Int} (hx : Val k x a) (hz : Val k z 0) : fk k (fop .sub k x z) = some a := by
  rw [fk_sub_val hx hz, Int.sub_zero, RB_keep hx]
theorem fk_zero_sub {k : FloatKind} {x z : Nat} {a : Int} (hx : Val k x a) (hz : Val k z 0) : fk k (fop .sub k z x) = some (-a) := by
  rw [fk_sub_val hz hx, Int.zero_sub, RB_neg, RB_keep hx]; rfl
theorem RB_zero (k : FloatKind) (B : Int) : RB k B 0 = some 0 := by
  unfold RB
  obtain ⟨u, h0, hz, hu⟩ := fk_word k (rungOf_le k.format (0 : Int).natAbs B)
  have : u = 0 := hz.2 (rungOf_zero _ _)
  rw [hu, this]; simp
theorem fk_mul_zero {k : FloatKind} {x z : Nat} {a : Int} (hx : Val k x a) (hz : Val k z 0) : fk k (fop .mul k x z) = some 0 := by
  rw [fk_mul_val hx hz, Int.mul_zero, RB_zero]
/-- a product with 2^j, written as a whole number of places, is what it was -/
theorem fk_mul_one {k : FloatKind} {x y : Nat} {a : Int} (hx : Val k x a) {j : Nat} (hy : k.format.read y = .number false (2 ^ j) (-(j : Int))) : fk k (fop .mul k x y) = some a := by
  obtain ⟨s, m, p, hr, hp, rfl⟩ := hx
  unfold fop floatBits
  simp only [Format.mul]
  rw [hr, hy]
  simp only [Datum.product, Option.map_some, Option.getD_some, Bool.xor_false]
  show fk k (k.format.nearest s (m * 2 ^ j) (p + -(j : Int))) = _
  have h2 : 2 ≤ k.format.exponentBits := by cases k <;> decide
  obtain ⟨m', p', hr', hp', he⟩ := read_nearest k.format (good k) s m j (p + -(j : Int)) (read_mag _ hr) (by omega) (fun h0 => by have := read_fit _ hr h2 h0; omega)
  unfold fk
  rw [hr']
  simp only [dk]
  congr 1
  rw [Int.mul_assoc, Int.mul_assoc]
  congr 1
  have e3 : (p + -(j : Int) + (j : Int) - k.format.leastPlace).toNat = (p - k.format.leastPlace).toNat := by omega
  rw [e3] at he
  have : ((m' * 2 ^ (p' - k.format.leastPlace).toNat : Nat) : Int) = ((m * 2 ^ (p - k.format.leastPlace).toNat : Nat) : Int) := by rw [he]
  rw [Int.natCast_mul, Int.natCast_mul] at this
  simpa [tp] using this
/-! bounds of products and quotients -/
theorem bd_mul {k : FloatKind} {N M L x y : Nat} (hx : Bd k N x) (hy : Bd k M y) (hN : N ≤ k.format.fractionBits + 1 + 2 ^ k.format.exponentBits) (hM : M ≤ k.format.fractionBits + 1 + 2 ^ k.format.exponentBits)
    (hL : (N : Int) + M + k.format.leastPlace ≤ L) (hL0 : k.format.fractionBits < L) (hL1 : L + 4 < k.format.fractionBits + 2 ^ k.format.exponentBits) : Bd k (L + 2) (fop .mul k x y) := by
  obtain ⟨s, m, i, hr, hi, hm⟩ := hx.number hN
  obtain ⟨t, n, j, hr', hj, hn⟩ := hy.number hM
  unfold fop floatBits
  simp only [Format.mul]
  rw [hr, hr']
  simp only [Datum.product, Option.map_some, Option.getD_some]
  have hE : (3 : Int) < 2 ^ k.format.exponentBits := by cases k <;> decide
  have hpe : ((2 ^ k.format.exponentBits : Nat) : Int) = 2 ^ k.format.exponentBits := by simp
  obtain ⟨m', p', hr2, hp2, hb2⟩ := nearest_bd k.format (s ^^ t) (m * n) (i + j) (L + k.format.leastPlace + 1) (fun h0 => by
    have hm0 : m ≠ 0 := fun e => h0 (by rw [e, Nat.zero_mul])
    have hn0 : n ≠ 0 := fun e => h0 (by rw [e, Nat.mul_zero])
    have l1 : m.log2 + (i - k.format.leastPlace).toNat < N := by rw [← log2_mul_pow hm0]; exact log2_lt_of (Nat.mul_ne_zero hm0 (by have := Nat.two_pow_pos (i - k.format.leastPlace).toNat; omega)) hm
    have l2 : n.log2 + (j - k.format.leastPlace).toNat < M := by rw [← log2_mul_pow hn0]; exact log2_lt_of (Nat.mul_ne_zero hn0 (by have := Nat.two_pow_pos (j - k.format.leastPlace).toNat; omega)) hn
    have l3 : (m * n).log2 < m.log2 + 1 + (n.log2 + 1) := log2_lt_of h0 (by
      rw [Nat.pow_add]; exact Nat.mul_lt_mul'' (lt_pow_log2 m) (lt_pow_log2 n))
    omega) (by omega) (by omega) hE
  exact bd_number (k := k) hr2 (fun h0 => by have := hb2 h0; omega)
theorem quo_pow (k : FloatKind) {x y : Nat} {s t : Bool} {m c : Nat} {i j : Int} (hx : k.format.read x = .number s m i) (hy : k.format.read y = .number t (2 ^ c) j) :
    ∃ d : Nat, fop .quo k x y = k.format.nearest (s ^^ t) (m * 2 ^ d) (i - j - c - d) := by
  have hc0 : 2 ^ c ≠ 0 := by have := Nat.two_pow_pos c; omega
  unfold fop floatBits
  simp only [Format.div]
  rw [hx, hy]
  simp only [Datum.quotient, if_neg hc0, Option.map_some, Option.getD_some, Nat.log2_two_pow]
  by_cases hm : m = 0
  · subst hm
    refine ⟨0, ?_⟩
    show k.format.nearest _ _ _ = _
    unfold Format.nearest
    simp
  · have hmag := read_mag _ hx
    have hl := log2_lt_of hm hmag
    generalize hmo : k.format.fractionBits + 2 + c - m.log2 = more
    have hsh : m <<< more = m * 2 ^ (more - c) * 2 ^ c := by rw [Nat.shiftLeft_eq, Nat.mul_assoc, ← Nat.pow_add]; congr 2; omega
    refine ⟨more - c + 1, ?_⟩
    show k.format.nearest _ _ _ = _
    rw [hsh, Nat.mul_div_cancel _ (Nat.two_pow_pos c), Nat.mul_mod_left]
    have e1 : 2 * (m * 2 ^ (more - c)) + ((0 : Nat) != 0).toNat = m * 2 ^ (more - c + 1) := by
      rw [Nat.pow_succ]; simp; grind
    have e2 : i - j - (more : Int) - 1 = i - j - c - ((more - c + 1 : Nat) : Int) := by omega
    rw [e1, e2]
/-- a quotient by a power of two hangs on the amount alone -/
theorem fk_quo_val {k : FloatKind} {x y : Nat} {a : Int} (hx : Val k x a) {t : Bool} {c : Nat} {j : Int} (hy : k.format.read y = .number t (2 ^ c) j) : fk k (fop .quo k x y) = RB k (k.format.leastPlace - (j + c)) (sg t * a) := by
  obtain ⟨s, m, i, hr, hi, rfl⟩ := hx
  obtain ⟨d, hd⟩ := quo_pow k hr hy
  rw [hd]
  have h1 : fk k (k.format.nearest (s ^^ t) (m * 2 ^ d) (i - j - c - d)) = fk k (k.format.write (.number (s ^^ t) m (i - j - c))) := by
    show fk k (k.format.nearest (s ^^ t) (m * 2 ^ d) (i - j - c - d)) = fk k (k.format.nearest (s ^^ t) m (i - j - c))
    rw [nearest_rung, nearest_rung, rungOf_shift k.format m d (i - j - c) _ (by omega)]
  rw [h1, fk_of_amount k (k.format.leastPlace - (j + c)) _ _ _ (by omega)]
  congr 1
  have e : (i - j - c - (k.format.leastPlace - (j + c))).toNat = (i - k.format.leastPlace).toNat := by omega
  rw [e, sg_xor]
  grind
theorem bd_quo {k : FloatKind} {N x y : Nat} (hx : Bd k N x) (hN0 : k.format.fractionBits < N) (hN1 : N + 4 < k.format.fractionBits + 2 ^ k.format.exponentBits) {t : Bool} {c : Nat} {j : Int} (hy : k.format.read y = .number t (2 ^ c) j) (hj : 0 ≤ j + c) : Bd k (N + 2) (fop .quo k x y) := by
  obtain ⟨s, m, i, hr, hi, hm⟩ := hx.number (by omega)
  obtain ⟨d, hd⟩ := quo_pow k hr hy
  rw [hd]
  have hE : (3 : Int) < 2 ^ k.format.exponentBits := by cases k <;> decide
  have hpe : ((2 ^ k.format.exponentBits : Nat) : Int) = 2 ^ k.format.exponentBits := by simp
  obtain ⟨m', p', hr2, hp2, hb2⟩ := nearest_bd k.format (s ^^ t) (m * 2 ^ d) (i - j - c - d) (N + k.format.leastPlace + 1) (fun h0 => by
    have hm0 : m ≠ 0 := fun e => h0 (by rw [e, Nat.zero_mul])
    have l1 : m.log2 + (i - k.format.leastPlace).toNat < N := by rw [← log2_mul_pow hm0]; exact log2_lt_of (Nat.mul_ne_zero hm0 (by have := Nat.two_pow_pos (i - k.format.leastPlace).toNat; omega)) hm
    rw [log2_mul_pow hm0]
    omega) (by omega) (by omega) hE
  exact bd_number (k := k) hr2 (fun h0 => by have := hb2 h0; omega)
end Go.Fx
