import Derived.Test.YtiddaabodkglmaaFz
namespace Go.Fx
open Ieee

/-! every word that is no NaN as a whole number: the order of words is the order of these -/

def big (f : Format) : Int := tp (f.fractionBits + 1 + 2 ^ f.exponentBits)

def dk (f : Format) : Datum → Option Int
  | .nan .. => none
  | .infinity s => some (sg s * big f)
  | .number s m p => some (sg s * (m : Int) * tp (p - f.leastPlace).toNat)

def fk (k : FloatKind) (b : Nat) : Option Int := dk k.format (k.format.read b)

theorem fk_none {k : FloatKind} {b : Nat} : fk k b = none ↔ isN k b = true := by
  unfold fk isN dk
  split <;> rename_i h <;> rw [h] <;> simp [Datum.isNaN]

theorem fk_cn (k : FloatKind) (b : Nat) : fk k (cn k b) = fk k b := by
  rcases read_cn k b with h | ⟨h1, h2⟩
  · unfold fk; rw [h]
  · have a : fk k (cn k b) = none := fk_none.2 h1
    have c : fk k b = none := fk_none.2 h2
    rw [a, c]

theorem dk_opposite (f : Format) (d : Datum) : dk f d.opposite = (dk f d).map (- ·) := by
  cases d <;> simp [dk, Datum.opposite, sg_not, Int.neg_mul]

theorem fk_neg (k : FloatKind) (b : Nat) : fk k (Op.negFloat k b) = (fk k b).map (- ·) := by
  unfold fk; rw [read_neg, dk_opposite]
theorem fk_fneg (k : FloatKind) (b : Nat) : fk k (fneg k b) = (fk k b).map (- ·) := by
  unfold fneg; rw [fk_cn, fk_neg]

theorem read_top (f : Format) {b : Nat} {s : Bool} {m : Nat} {p : Int} (h : f.read b = .number s m p) : (p - f.leastPlace).toNat ≤ 2 ^ f.exponentBits := by
  have hb : 0 < f.binade := Nat.two_pow_pos _
  unfold Format.read at h
  simp only at h
  split at h
  · cases h; simp
  · split at h
    · rename_i h2
      cases h
      unfold Format.infRung at h2
      have h3 : b % f.signWeight / f.binade < 2 ^ f.exponentBits - 1 := by
        rw [Nat.div_lt_iff_lt_mul hb]; exact h2
      generalize b % f.signWeight / f.binade = z at *
      generalize 2 ^ f.exponentBits = zz at *
      omega
    · split at h <;> cases h

theorem number_lt (f : Format) {b : Nat} {s : Bool} {m : Nat} {p : Int} (h : f.read b = .number s m p) : (m : Int) * tp (p - f.leastPlace).toNat < big f := by
  have h1 := read_mag f h
  have h2 := read_top f h
  have h3 : m * 2 ^ (p - f.leastPlace).toNat < 2 ^ (f.fractionBits + 1) * 2 ^ (2 ^ f.exponentBits) :=
    Nat.lt_of_lt_of_le (Nat.mul_lt_mul_of_pos_right h1 (Nat.two_pow_pos _)) (Nat.mul_le_mul_left _ (Nat.pow_le_pow_right (by omega) h2))
  rw [← Nat.pow_add] at h3
  unfold big tp
  rw [← Int.natCast_mul]
  exact Int.ofNat_lt.2 h3

theorem cmp_lt {a b : Int} (h : a < b) : compare a b = .lt := by simp [compare, compareOfLessAndEq, h]
theorem cmp_gt {a b : Int} (h : b < a) : compare a b = .gt := by
  have h1 : ¬ a < b := by omega
  have h2 : a ≠ b := by omega
  simp [compare, compareOfLessAndEq, h1, h2]
theorem cmp_eq {a b : Int} (h : a = b) : compare a b = .eq := by simp [compare, compareOfLessAndEq, h]

theorem order_fk (k : FloatKind) (x y : Nat) : k.format.order x y = (fk k x).bind fun a => (fk k y).map fun b => compare a b := by
  unfold fk Format.order
  have hbig : 0 < big k.format := tp_pos _
  have bd : ∀ (z : Nat) (s : Bool) (m : Nat) (p : Int), k.format.read z = .number s m p → -(big k.format) < sg s * (m : Int) * tp (p - k.format.leastPlace).toNat ∧ sg s * (m : Int) * tp (p - k.format.leastPlace).toNat < big k.format := by
    intro z s m p h
    have h1 := number_lt _ h
    have h2 : 0 ≤ (m : Int) * tp (p - k.format.leastPlace).toNat := Int.mul_nonneg (by omega) (Int.le_of_lt (tp_pos _))
    rw [Int.mul_assoc]
    cases s <;> simp only [sg, if_true, Bool.false_eq_true, if_false] <;> omega
  cases hx : k.format.read x with
  | nan s m => simp [dk, Datum.order]
  | infinity s =>
    cases hy : k.format.read y with
    | nan t n => simp [dk, Datum.order]
    | infinity t =>
      simp only [dk, Datum.order, Option.bind_some, Option.map_some]
      congr 1
      cases s <;> cases t <;> simp only [sg, if_true, Bool.false_eq_true, if_false]
      · rw [cmp_eq rfl]; rfl
      · rw [cmp_gt (by omega)]; rfl
      · rw [cmp_lt (by omega)]; rfl
      · rw [cmp_eq rfl]; rfl
    | number t n q =>
      have := bd y t n q hy
      generalize hv : sg t * (n : Int) * tp (q - k.format.leastPlace).toNat = v at this
      simp only [dk, Datum.order, Option.bind_some, Option.map_some]
      rw [hv]
      congr 1
      cases s <;> simp only [sg, if_true, Bool.false_eq_true, if_false]
      · rw [cmp_gt (by omega)]
      · rw [cmp_lt (by omega)]
  | number s m p =>
    have hxb := bd x s m p hx
    cases hy : k.format.read y with
    | nan t n => simp [dk, Datum.order]
    | infinity t =>
      generalize hv : sg s * (m : Int) * tp (p - k.format.leastPlace).toNat = v at hxb
      simp only [dk, Datum.order, Option.bind_some, Option.map_some]
      rw [hv]
      congr 1
      cases t <;> simp only [sg, if_true, Bool.false_eq_true, if_false]
      · rw [cmp_lt (by omega)]
      · rw [cmp_gt (by omega)]
    | number t n q =>
      simp only [dk, Datum.order, Option.bind_some, Option.map_some, signed_eq]
      congr 1
      have hp := read_place _ hx
      have hq := read_place _ hy
      have e1 : tp (p - k.format.leastPlace).toNat = tp (p - min p q).toNat * tp (min p q - k.format.leastPlace).toNat := by rw [← tp_add]; congr 1; omega
      have e2 : tp (q - k.format.leastPlace).toNat = tp (q - min p q).toNat * tp (min p q - k.format.leastPlace).toNat := by rw [← tp_add]; congr 1; omega
      rw [e1, e2, ← Int.mul_assoc, ← Int.mul_assoc, compare_scale (tp_pos _)]

/-! the six comparisons as Bools -/
def feq (k : FloatKind) (x y : Nat) : Bool := k.format.order x y == some .eq
def flt (k : FloatKind) (x y : Nat) : Bool := k.format.order x y == some .lt
def fle (k : FloatKind) (x y : Nat) : Bool := k.format.order x y == some .lt || k.format.order x y == some .eq
def fgt (k : FloatKind) (x y : Nat) : Bool := k.format.order x y == some .gt
def fge (k : FloatKind) (x y : Nat) : Bool := k.format.order x y == some .gt || k.format.order x y == some .eq

theorem feq_fk {k : FloatKind} {x y : Nat} {a b : Int} (hx : fk k x = some a) (hy : fk k y = some b) : feq k x y = decide (a = b) := by
  unfold feq; rw [order_fk, hx, hy]
  simp only [Option.bind_some, Option.map_some]
  rcases Int.lt_trichotomy a b with h | h | h
  · rw [cmp_lt h]; have : a ≠ b := by omega
    simp [this]
  · rw [cmp_eq h]; simp [h]
  · rw [cmp_gt h]; have : a ≠ b := by omega
    simp [this]
theorem flt_fk {k : FloatKind} {x y : Nat} {a b : Int} (hx : fk k x = some a) (hy : fk k y = some b) : flt k x y = decide (a < b) := by
  unfold flt; rw [order_fk, hx, hy]
  simp only [Option.bind_some, Option.map_some]
  rcases Int.lt_trichotomy a b with h | h | h
  · rw [cmp_lt h]; simp [h]
  · rw [cmp_eq h]; simp [h]
  · rw [cmp_gt h]; have : ¬ a < b := by omega
    simp [this]
theorem fgt_fk {k : FloatKind} {x y : Nat} {a b : Int} (hx : fk k x = some a) (hy : fk k y = some b) : fgt k x y = decide (b < a) := by
  unfold fgt; rw [order_fk, hx, hy]
  simp only [Option.bind_some, Option.map_some]
  rcases Int.lt_trichotomy a b with h | h | h
  · rw [cmp_lt h]; have : ¬ b < a := by omega
    simp [this]
  · rw [cmp_eq h]; simp [h]
  · rw [cmp_gt h]; simp [h]
theorem fle_fk {k : FloatKind} {x y : Nat} {a b : Int} (hx : fk k x = some a) (hy : fk k y = some b) : fle k x y = decide (a ≤ b) := by
  have h1 := flt_fk hx hy
  have h2 := feq_fk hx hy
  unfold flt at h1; unfold feq at h2; unfold fle
  rw [h1, h2, ← Bool.decide_or]
  congr 1
  rw [eq_iff_iff]; omega
theorem fge_fk {k : FloatKind} {x y : Nat} {a b : Int} (hx : fk k x = some a) (hy : fk k y = some b) : fge k x y = decide (b ≤ a) := by
  have h1 := fgt_fk hx hy
  have h2 := feq_fk hx hy
  unfold fgt at h1; unfold feq at h2; unfold fge
  rw [h1, h2, ← Bool.decide_or]
  congr 1
  rw [eq_iff_iff]; omega
theorem order_nan {k : FloatKind} {x y : Nat} (h : fk k x = none ∨ fk k y = none) : k.format.order x y = none := by
  rw [order_fk]
  rcases h with h | h
  · rw [h]; rfl
  · rw [h]; cases fk k x <;> rfl
theorem cmp_nan {k : FloatKind} {x y : Nat} (h : fk k x = none ∨ fk k y = none) : feq k x y = false ∧ flt k x y = false ∧ fle k x y = false ∧ fgt k x y = false ∧ fge k x y = false := by
  have := order_nan h
  simp [feq, flt, fle, fgt, fge, this]

theorem feq_cn_l (k : FloatKind) (x y : Nat) : feq k (cn k x) y = feq k x y := by unfold feq; rw [order_cn_l]
theorem feq_cn_r (k : FloatKind) (x y : Nat) : feq k x (cn k y) = feq k x y := by unfold feq; rw [order_cn_r]
theorem flt_cn_l (k : FloatKind) (x y : Nat) : flt k (cn k x) y = flt k x y := by unfold flt; rw [order_cn_l]
theorem flt_cn_r (k : FloatKind) (x y : Nat) : flt k x (cn k y) = flt k x y := by unfold flt; rw [order_cn_r]
theorem fle_cn_l (k : FloatKind) (x y : Nat) : fle k (cn k x) y = fle k x y := by unfold fle; rw [order_cn_l]
theorem fle_cn_r (k : FloatKind) (x y : Nat) : fle k x (cn k y) = fle k x y := by unfold fle; rw [order_cn_r]
theorem fgt_cn_l (k : FloatKind) (x y : Nat) : fgt k (cn k x) y = fgt k x y := by unfold fgt; rw [order_cn_l]
theorem fgt_cn_r (k : FloatKind) (x y : Nat) : fgt k x (cn k y) = fgt k x y := by unfold fgt; rw [order_cn_r]
theorem fge_cn_l (k : FloatKind) (x y : Nat) : fge k (cn k x) y = fge k x y := by unfold fge; rw [order_cn_l]
theorem fge_cn_r (k : FloatKind) (x y : Nat) : fge k x (cn k y) = fge k x y := by unfold fge; rw [order_cn_r]

/-! the amount of a number against a bound -/
/-- 'amount' as the program reckons it -/
def amt (x : Nat) : Nat := if flt .f32 x 0 then fneg .f32 x else cn .f32 x

theorem fk_zero : fk .f32 0 = some 0 := by decide +kernel

theorem amt_le (x c : Nat) (C : Int) (hc : fk .f32 c = some C) (h0 : 0 ≤ C) : fle .f32 (amt x) c = (fge .f32 x (Op.negFloat .f32 c) && fle .f32 x c) := by
  have hn : fk .f32 (Op.negFloat .f32 c) = some (-C) := by rw [fk_neg, hc]; rfl
  unfold amt
  cases hx : fk .f32 x with
  | none =>
    have h1 := cmp_nan (k := .f32) (x := x) (y := 0) (.inl hx)
    have h2 := cmp_nan (k := .f32) (x := x) (y := c) (.inl hx)
    have h3 := cmp_nan (k := .f32) (x := x) (y := Op.negFloat .f32 c) (.inl hx)
    simp [h1, h2, h3, fle_cn_l]
  | some a =>
    rw [flt_fk hx fk_zero]
    by_cases h : a < 0
    · have e1 : fk .f32 (fneg .f32 x) = some (-a) := by rw [fk_fneg, hx]; rfl
      simp only [h, decide_true, if_true]
      rw [fle_fk e1 hc, fge_fk hx hn, fle_fk hx hc, ← Bool.decide_and]
      congr 1; rw [eq_iff_iff]; omega
    · simp only [h, decide_false, Bool.false_eq_true, if_false, fle_cn_l]
      rw [fge_fk hx hn, fle_fk hx hc, ← Bool.decide_and]
      congr 1; rw [eq_iff_iff]; omega

end Go.Fx
