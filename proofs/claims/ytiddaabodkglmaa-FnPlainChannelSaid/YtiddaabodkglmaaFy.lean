import Derived.Laws.FloatArith
import Derived.Deep.Draws
import Derived.Test.YtiddaabodkglmaaFx
namespace Go.Fx
open Ieee

/-! NaNs as one -/

/-- the word of a NaN that stands for all -/
def qn : FloatKind → Nat
  | .f32 => 0x7fc00000
  | .f64 => 0x7ff8000000000000

def isN (k : FloatKind) (b : Nat) : Bool := (k.format.read b).isNaN

/-- the bits, all NaNs made one -/
def cn (k : FloatKind) (b : Nat) : Nat := if isN k b then qn k else b

theorem good (k : FloatKind) : Good k.format := by cases k; exact good_single; exact good_double

theorem isN_qn (k : FloatKind) : isN k (qn k) = true := by cases k <;> decide +kernel

theorem isN_cn (k : FloatKind) (b : Nat) : isN k (cn k b) = isN k b := by
  unfold cn
  split
  · rename_i h; rw [isN_qn, h]
  · rfl

theorem cn_cn (k : FloatKind) (b : Nat) : cn k (cn k b) = cn k b := by
  unfold cn
  by_cases h : isN k b = true
  · rw [if_pos h, if_pos (isN_qn k)]
  · rw [if_neg h, if_neg h]

theorem cn_of_not {k : FloatKind} {b : Nat} (h : isN k b = false) : cn k b = b := by simp [cn, h]
theorem cn_of_nan {k : FloatKind} {b : Nat} (h : isN k b = true) : cn k b = qn k := by simp [cn, h]

theorem binade_pos (f : Format) : 0 < f.binade := Nat.two_pow_pos _
theorem read_word_le (f : Format) (neg : Bool) {rung : Nat} (h : rung ≤ f.infRung) : (f.read (f.word neg rung)).isNaN = false := by
  have hir := f.infRung_lt
  rw [read_word f neg (by omega)]
  split
  · rfl
  · split
    · rfl
    · rw [if_pos (by omega)]; rfl

theorem read_write_not (f : Format) {d : Datum} (h : d.isNaN = false) : (f.read (f.write d)).isNaN = false := by
  cases d with
  | nan s m => cases h
  | infinity s => exact read_word_le f s (Nat.le_refl _)
  | number s m p =>
    unfold Format.write Format.nearest
    simp only
    split
    · exact read_word_le f s (Nat.zero_le _)
    · exact read_word_le f s (Nat.min_le_right ..)

theorem sum_not {d e r : Datum} (h : d.sum e = some r) : r.isNaN = false := by
  cases d <;> cases e <;> simp only [Datum.sum] at h <;> (try split at h) <;> cases h <;> rfl
theorem product_not {d e r : Datum} (h : d.product e = some r) : r.isNaN = false := by
  cases d <;> cases e <;> simp only [Datum.product] at h <;> (try split at h) <;> cases h <;> rfl
theorem quotient_not {n : Nat} {d e r : Datum} (h : d.quotient n e = some r) : r.isNaN = false := by
  cases d <;> cases e <;> simp only [Datum.quotient] at h <;> (try split at h) <;> (try split at h) <;> cases h <;> rfl

theorem floatBits_not {op : BinOp} {k : FloatKind} {x y r : Nat} (h : floatBits op k x y = some r) : isN k r = false := by
  unfold isN
  have key : ∀ o : Option Datum, (∀ d, o = some d → d.isNaN = false) → o.map k.format.write = some r → (k.format.read r).isNaN = false := by
    intro o ho hr
    cases o with
    | none => cases hr
    | some d => cases hr; exact read_write_not _ (ho d rfl)
  unfold floatBits at h
  split at h
  · exact key _ (fun d hd => sum_not hd) h
  · exact key _ (fun d hd => sum_not hd) h
  · exact key _ (fun d hd => product_not hd) h
  · exact key _ (fun d hd => quotient_not hd) h
  · cases h

/-- the operation, its NaNs made one -/
def fop (op : BinOp) (k : FloatKind) (x y : Nat) : Nat := (floatBits op k x y).getD (qn k)

theorem cn_fop (op : BinOp) (k : FloatKind) (x y : Nat) : cn k (fop op k x y) = fop op k x y := by
  unfold fop
  cases h : floatBits op k x y with
  | none => simp [cn_of_nan (isN_qn k)]
  | some r => simp [cn_of_not (floatBits_not h)]

/-- what operations see of a word -/
theorem read_cn (k : FloatKind) (b : Nat) : k.format.read (cn k b) = k.format.read b ∨ ((k.format.read (cn k b)).isNaN = true ∧ (k.format.read b).isNaN = true) := by
  by_cases h : isN k b = true
  · right
    rw [cn_of_nan h]
    exact ⟨isN_qn k, h⟩
  · left
    rw [cn_of_not (by simpa using h)]

theorem sum_nan_l {d e : Datum} (h : d.isNaN = true) : d.sum e = none := by cases d <;> first | rfl | cases h
theorem sum_nan_r {d e : Datum} (h : e.isNaN = true) : d.sum e = none := by cases e <;> first | (cases d <;> rfl) | cases h
theorem product_nan_l {d e : Datum} (h : d.isNaN = true) : d.product e = none := by cases d <;> first | rfl | cases h
theorem product_nan_r {d e : Datum} (h : e.isNaN = true) : d.product e = none := by cases e <;> first | (cases d <;> rfl) | cases h
theorem quotient_nan_l {n : Nat} {d e : Datum} (h : d.isNaN = true) : d.quotient n e = none := by cases d <;> first | rfl | cases h
theorem quotient_nan_r {n : Nat} {d e : Datum} (h : e.isNaN = true) : d.quotient n e = none := by cases e <;> first | (cases d <;> rfl) | cases h
theorem order_nan_l {d e : Datum} (h : d.isNaN = true) : d.order e = none := by cases d <;> first | rfl | cases h
theorem order_nan_r {d e : Datum} (h : e.isNaN = true) : d.order e = none := by cases e <;> first | (cases d <;> rfl) | cases h
theorem opposite_nan {d : Datum} : d.opposite.isNaN = d.isNaN := by cases d <;> rfl

theorem floatBits_cn_l (op : BinOp) (k : FloatKind) (x y : Nat) : floatBits op k (cn k x) y = floatBits op k x y := by
  rcases read_cn k x with h | ⟨h1, h2⟩
  · unfold floatBits Format.add Format.sub Format.mul Format.div
    simp only [h]
  · unfold floatBits Format.add Format.sub Format.mul Format.div
    simp only [sum_nan_l h1, sum_nan_l h2, product_nan_l h1, product_nan_l h2, quotient_nan_l h1, quotient_nan_l h2]
theorem floatBits_cn_r (op : BinOp) (k : FloatKind) (x y : Nat) : floatBits op k x (cn k y) = floatBits op k x y := by
  rcases read_cn k y with h | ⟨h1, h2⟩
  · unfold floatBits Format.add Format.sub Format.mul Format.div
    simp only [h]
  · have g1 := h1; have g2 := h2
    rw [← opposite_nan] at g1 g2
    unfold floatBits Format.add Format.sub Format.mul Format.div
    simp only [sum_nan_r h1, sum_nan_r h2, sum_nan_r g1, sum_nan_r g2, product_nan_r h1, product_nan_r h2, quotient_nan_r h1, quotient_nan_r h2]

theorem fop_cn_l (op : BinOp) (k : FloatKind) (x y : Nat) : fop op k (cn k x) y = fop op k x y := by unfold fop; rw [floatBits_cn_l]
theorem fop_cn_r (op : BinOp) (k : FloatKind) (x y : Nat) : fop op k x (cn k y) = fop op k x y := by unfold fop; rw [floatBits_cn_r]
theorem order_cn_l (k : FloatKind) (x y : Nat) : k.format.order (cn k x) y = k.format.order x y := by
  rcases read_cn k x with h | ⟨h1, h2⟩
  · unfold Format.order; rw [h]
  · unfold Format.order; rw [order_nan_l h1, order_nan_l h2]
theorem order_cn_r (k : FloatKind) (x y : Nat) : k.format.order x (cn k y) = k.format.order x y := by
  rcases read_cn k y with h | ⟨h1, h2⟩
  · unfold Format.order; rw [h]
  · unfold Format.order; rw [order_nan_r h1, order_nan_r h2]

/-! the sign turned -/
theorem xor_pow (b n : Nat) : (b ^^^ 2 ^ n) % 2 ^ n = b % 2 ^ n ∧ (b ^^^ 2 ^ n) / 2 ^ n % 2 = (b / 2 ^ n + 1) % 2 := by
  constructor
  · rw [Nat.xor_mod_two_pow]; simp
  · rw [← Nat.shiftRight_eq_div_pow, ← Nat.shiftRight_eq_div_pow, Nat.shiftRight_xor_distrib]
    have : 2 ^ n >>> n = 1 := by rw [Nat.shiftRight_eq_div_pow]; exact Nat.div_self (Nat.two_pow_pos n)
    rw [this]
    have h1 := Nat.xor_mod_two_pow (a := b >>> n) (b := 1) (n := 1)
    simp only [Nat.pow_one] at h1
    rw [h1]
    rcases Nat.mod_two_eq_zero_or_one (b >>> n) with h | h <;> rw [h] <;> simp <;> omega

theorem read_neg (k : FloatKind) (b : Nat) : k.format.read (Op.negFloat k b) = (k.format.read b).opposite := by
  obtain ⟨h1, h2⟩ := xor_pow b (k.format.exponentBits + k.format.fractionBits)
  have hs : (Op.negFloat k b / k.format.signWeight % 2 == 1) = !(b / k.format.signWeight % 2 == 1) := by
    unfold Op.negFloat Format.signWeight
    rw [h2]
    rcases Nat.mod_two_eq_zero_or_one (b / 2 ^ (k.format.exponentBits + k.format.fractionBits)) with h | h
    · rw [h]; rw [show (b / 2 ^ (k.format.exponentBits + k.format.fractionBits) + 1) % 2 = 1 by omega]; rfl
    · rw [h]; rw [show (b / 2 ^ (k.format.exponentBits + k.format.fractionBits) + 1) % 2 = 0 by omega]; rfl
  have hm : Op.negFloat k b % k.format.signWeight = b % k.format.signWeight := h1
  unfold Format.read
  simp only [hs, hm]
  split
  · rfl
  · split
    · rfl
    · split <;> rfl

theorem isN_neg (k : FloatKind) (b : Nat) : isN k (Op.negFloat k b) = isN k b := by unfold isN; rw [read_neg, opposite_nan]

/-- '-x', its NaNs made one -/
def fneg (k : FloatKind) (b : Nat) : Nat := cn k (Op.negFloat k b)
theorem cn_neg (k : FloatKind) (b : Nat) : cn k (Op.negFloat k b) = fneg k (cn k b) := by
  unfold fneg
  by_cases h : isN k b = true
  · rw [cn_of_nan (by rw [isN_neg]; exact h), cn_of_nan h, cn_of_nan (by rw [isN_neg]; exact isN_qn k)]
  · rw [cn_of_not (k := k) (b := b) (by simpa using h)]
theorem cn_fneg (k : FloatKind) (b : Nat) : cn k (fneg k b) = fneg k b := cn_cn _ _

theorem isV_neg {k : FloatKind} {b : Nat} {m : Int} {e : Nat} (h : IsV k.format b m e) : IsV k.format (Op.negFloat k b) (-m) e := by
  obtain ⟨s, a, i, hr, hi, hv⟩ := h
  refine ⟨!s, a, i, by rw [read_neg, hr]; rfl, hi, ?_⟩
  rw [sg_not, Int.neg_mul, Int.neg_mul, Int.neg_mul, hv, Int.neg_mul]
theorem isV_not {k : FloatKind} {b : Nat} {m : Int} {e : Nat} (h : IsV k.format b m e) : isN k b = false := by
  obtain ⟨s, a, i, hr, _⟩ := h
  unfold isN; rw [hr]; rfl
theorem isV_cn {k : FloatKind} {b : Nat} {m : Int} {e : Nat} : IsV k.format (cn k b) m e ↔ IsV k.format b m e := by
  constructor
  · intro h
    have := isV_not h
    rw [isN_cn] at this
    rwa [cn_of_not this] at h
  · intro h; rwa [cn_of_not (isV_not h)]
theorem isV_fneg {k : FloatKind} {b : Nat} {m : Int} {e : Nat} (h : IsV k.format b m e) : IsV k.format (fneg k b) (-m) e := isV_cn.2 (isV_neg h)

theorem fop_add {k : FloatKind} {x y : Nat} {m n : Int} {e : Nat} (hx : IsV k.format x m e) (hy : IsV k.format y n e) (he : (e : Int) ≤ -k.format.leastPlace) (hm : (m + n).natAbs ≤ 2 ^ (k.format.fractionBits + 1)) : IsV k.format (fop .add k x y) (m + n) e := by
  obtain ⟨r, h, hv⟩ := isV_add (good k) hx hy he hm
  unfold fop floatBits; simp only [h]; exact hv
theorem fop_sub {k : FloatKind} {x y : Nat} {m n : Int} {e : Nat} (hx : IsV k.format x m e) (hy : IsV k.format y n e) (he : (e : Int) ≤ -k.format.leastPlace) (hm : (m - n).natAbs ≤ 2 ^ (k.format.fractionBits + 1)) : IsV k.format (fop .sub k x y) (m - n) e := by
  obtain ⟨r, h, hv⟩ := isV_sub (good k) hx hy he hm
  unfold fop floatBits; simp only [h]; exact hv
theorem fop_mul {k : FloatKind} {x y : Nat} {m n : Int} {e g : Nat} (hx : IsV k.format x m e) (hy : IsV k.format y n g) (he : ((e + g : Nat) : Int) ≤ -k.format.leastPlace) (hm : (m * n).natAbs ≤ 2 ^ (k.format.fractionBits + 1)) : IsV k.format (fop .mul k x y) (m * n) (e + g) := by
  obtain ⟨r, h, hv⟩ := isV_mul (good k) hx hy he hm
  unfold fop floatBits; simp only [h]; exact hv

/-! the order -/
theorem compare_scale {a b c : Int} (hc : 0 < c) : compare (a * c) (b * c) = compare a b := by
  simp only [compare, compareOfLessAndEq]
  by_cases h : a < b
  · rw [if_pos h, if_pos (Int.mul_lt_mul_of_pos_right h hc)]
  · have h' : ¬ a * c < b * c := fun x => h (Int.lt_of_mul_lt_mul_right x (Int.le_of_lt hc))
    rw [if_neg h, if_neg h']
    by_cases he : a = b
    · subst he; simp
    · have : a * c ≠ b * c := fun x => he (Int.eq_of_mul_eq_mul_right (by omega) x)
      rw [if_neg he, if_neg this]

theorem isV_order {f : Format} {x y : Nat} {m n : Int} {e : Nat} (hx : IsV f x m e) (hy : IsV f y n e) : f.order x y = some (compare m n) := by
  obtain ⟨s, a, i, hr, hi, hv⟩ := hx
  obtain ⟨t, b, j, hr', hj, hv'⟩ := hy
  unfold Format.order
  rw [hr, hr']
  unfold Datum.order
  simp only [signed_eq]
  congr 1
  change compare (sg s * (a : Int) * tp (i - min i j).toNat) (sg t * (b : Int) * tp (j - min i j).toNat) = compare m n
  change sg s * (a : Int) * tp (i - f.leastPlace).toNat * tp e = m * tp (-f.leastPlace).toNat at hv
  change sg t * (b : Int) * tp (j - f.leastPlace).toNat * tp e = n * tp (-f.leastPlace).toNat at hv'
  have e1 : tp (i - f.leastPlace).toNat = tp (i - min i j).toNat * tp (min i j - f.leastPlace).toNat := by rw [← tp_add]; congr 1; omega
  have e2 : tp (j - f.leastPlace).toNat = tp (j - min i j).toNat * tp (min i j - f.leastPlace).toNat := by rw [← tp_add]; congr 1; omega
  have hp : 0 < tp (min i j - f.leastPlace).toNat * tp e := Int.mul_pos (tp_pos _) (tp_pos _)
  rw [← compare_scale hp, ← compare_scale (a := m) (b := n) (tp_pos (-f.leastPlace).toNat), ← hv, ← hv', e1, e2]
  congr 1 <;> grind

theorem isV_eq {f : Format} {x y : Nat} {m n : Int} {e : Nat} (hx : IsV f x m e) (hy : IsV f y n e) : (f.order x y == some .eq) = decide (m = n) := by
  rw [isV_order hx hy]
  simp only [compare, compareOfLessAndEq]
  by_cases h : m < n
  · rw [if_pos h]; have : m ≠ n := by omega
    simp [this]
  · rw [if_neg h]
    by_cases he : m = n
    · subst he; simp
    · rw [if_neg he]; simp [he]
theorem isV_lt {f : Format} {x y : Nat} {m n : Int} {e : Nat} (hx : IsV f x m e) (hy : IsV f y n e) : (f.order x y == some .lt) = decide (m < n) := by
  rw [isV_order hx hy]
  simp only [compare, compareOfLessAndEq]
  by_cases h : m < n
  · rw [if_pos h]; simp [h]
  · rw [if_neg h]
    by_cases he : m = n
    · subst he; simp
    · rw [if_neg he]; simp [h]
theorem isV_gt {f : Format} {x y : Nat} {m n : Int} {e : Nat} (hx : IsV f x m e) (hy : IsV f y n e) : (f.order x y == some .gt) = decide (n < m) := by
  rw [isV_order hx hy]
  simp only [compare, compareOfLessAndEq]
  by_cases h : m < n
  · rw [if_pos h]; have : ¬ n < m := by omega
    simp [this]
  · rw [if_neg h]
    by_cases he : m = n
    · subst he; simp
    · have : n < m := by omega
      rw [if_neg he]; simp [this]

end Go.Fx
