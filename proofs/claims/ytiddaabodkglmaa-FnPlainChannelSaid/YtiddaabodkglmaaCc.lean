import Derived.Test.YtiddaabodkglmaaCb
namespace Go.Proofs.Ytiddaabodkglmaa
open Go.RowKit Go.Fx Ieee
set_option linter.unusedVariables false
set_option linter.unusedSimpArgs false

theorem feq_self {k : FloatKind} {a : Nat} (h : isN k a = false) : feq k a a = true := by
  cases ha : fk k a with
  | none => rw [fk_none.1 ha] at h; cases h
  | some x => rw [feq_fk ha ha]; simp
theorem feq_nan {k : FloatKind} {a : Nat} (b : Nat) (h : isN k a = true) : feq k a b = false := (cmp_nan (.inl (fk_none.2 h))).1
theorem cn_same {k : FloatKind} {a b : Nat} (h : cn k a = cn k b) : (isN k a = true ∧ isN k b = true) ∨ (isN k a = false ∧ a = b) := by
  have h1 : isN k a = isN k b := by rw [← isN_cn k a, ← isN_cn k b, h]
  cases ha : isN k a with
  | true => left; exact ⟨rfl, by rw [← h1, ha]⟩
  | false => right; exact ⟨rfl, by rwa [cn_of_not ha, cn_of_not (by rw [← h1, ha])] at h⟩
theorem fgt_same {k : FloatKind} {a b : Nat} (c : Nat) (h : cn k a = cn k b) : fgt k a c = fgt k b c := by rw [← fgt_cn_l, h, fgt_cn_l]

theorem inv_gt {k : FloatKind} {p q X : Nat} {c : Nat} (hp : cn k p = X) (hq : cn k q = X) : (fgt k p c == fgt k q c) = true := by
  rw [fgt_same c (hp.trans hq.symm)]; simp
theorem inv_self {k : FloatKind} {a z : Nat} (h : isN k a = false) (ha : feq k a 0 = true) (hz : isN k (fop .quo k z (Op.negFloat k 0)) = false) (hz' : isN k (fop .quo k z 0) = false) : isN k (fop .quo k z a) = false := by
  cases hk : fk k a with
  | none => rw [fk_none.1 hk] at h; cases h
  | some x =>
    have h0 : fk k 0 = some 0 := by cases k <;> decide +kernel
    rw [feq_fk hk h0] at ha
    have hx : x = 0 := of_decide_eq_true ha
    subst hx
    -- the quotient by a number of which the datum is a zero is no NaN, as by 0 or -0
    unfold fk at hk
    have hd : ∃ s p, k.format.read a = .number s 0 p := by
      cases hr : k.format.read a with
      | nan s m => rw [hr] at hk; cases hk
      | infinity s =>
        rw [hr] at hk
        have ht := tp_ne (k.format.fractionBits + 1 + 2 ^ k.format.exponentBits)
        simp only [dk, big, Option.some.injEq] at hk
        rcases Int.mul_eq_zero.1 hk with h | h
        · cases s <;> simp [sg] at h
        · exact absurd h ht
      | number s m p =>
        rw [hr] at hk
        simp only [dk, Option.some.injEq] at hk
        have ht := tp_ne (p - k.format.leastPlace).toNat
        have hm : sg s * (m : Int) = 0 := by
          rcases Int.mul_eq_zero.1 hk with h | h
          · exact h
          · exact absurd h ht
        have : m = 0 := by cases s <;> simp [sg] at hm <;> omega
        subst this
        exact ⟨s, p, rfl⟩
    obtain ⟨s, p, hr⟩ := hd
    have h0r : ∃ q, k.format.read 0 = .number false 0 q := ⟨k.format.leastPlace, by cases k <;> decide +kernel⟩
    obtain ⟨q, h0r⟩ := h0r
    unfold fop floatBits Format.div at hz' ⊢
    simp only [h0r] at hz'
    simp only [hr]
    cases hzr : k.format.read z with
    | nan t m => rw [hzr] at hz'; simp [Datum.quotient, isN_qn] at hz'
    | infinity t => simp only [Datum.quotient, Option.map_some, Option.getD_some]; unfold isN; exact read_write_not _ rfl
    | number t m r =>
      rw [hzr] at hz'
      simp only [Datum.quotient, if_true] at hz' ⊢
      by_cases hm : m = 0
      · rw [if_pos hm] at hz'; simp [isN_qn] at hz'
      · rw [if_neg hm]; simp only [Option.map_some, Option.getD_some]; unfold isN; exact read_write_not _ rfl
theorem inv_eq {p q X : Nat} (hp : cn .f64 p = X) (hq : cn .f64 q = X) (hX : isN .f64 X = false) : feq .f64 p q = true := by
  rw [← feq_cn_l, ← feq_cn_r, hp, hq]
  exact feq_self hX
theorem one_quo {a : Nat} (h : isN .f64 a = false) (ha : feq .f64 a 0 = true) : isN .f64 (fop .quo .f64 (cn .f64 4607182418800017408) (cn .f64 a)) = false := by
  rw [fop_cn_l, fop_cn_r]
  exact inv_self h ha (by decide +kernel) (by decide +kernel)
theorem sameFloat_any (a b : Nat) (h : cn .f64 a = cn .f64 b) (w : World) : Calls Try.prog 67 #[.float .f64 a, .float .f64 b] w fun e w' => e = .returned (.bool true) ∧ ∃ n, w' = w.drewN n := by
  rcases cn_same h with ⟨ha, hb⟩ | ⟨ha, rfl⟩
  · have h1 := feq_nan a ha
    have h2 := feq_nan b hb
    clear h
    go_enter Try.func67, Try.ntmps67
    go_wp2
    all_goals go_ret
    exact ⟨rfl, 0, rfl⟩
  · have h1 := feq_self ha
    clear h
    go_enter Try.func67, Try.ntmps67
    go_wp2_with (with_reducible first | (refine upon_add ?_; intro b n hb) | (refine upon_sub ?_; intro b n hb) | (refine upon_mul ?_; intro b n hb) | (refine upon_quo ?_; intro b n hb))
    all_goals go_ret
    · refine ⟨?_, _, rfl⟩
      rw [inv_gt (by assumption) (by assumption)]; rfl
    all_goals exact ⟨rfl, 0, rfl⟩
theorem same64_any (a b : Nat) (h : cn .f64 a = cn .f64 b) (w : World) : Calls Try.prog 183 #[.float .f64 a, .float .f64 b] w fun e w' => e = .returned (.bool true) ∧ ∃ n, w' = w.drewN n := by
  rcases cn_same h with ⟨ha, hb⟩ | ⟨ha, rfl⟩
  · have h1 := feq_nan a ha
    have h2 := feq_nan b hb
    clear h
    go_enter Try.func183, Try.ntmps183
    go_wp2
    all_goals go_ret
    exact ⟨rfl, 0, rfl⟩
  · have h1 := feq_self ha
    clear h
    go_enter Try.func183, Try.ntmps183
    go_wp2_with (with_reducible first | (refine upon_add ?_; intro b n hb) | (refine upon_sub ?_; intro b n hb) | (refine upon_mul ?_; intro b n hb) | (refine upon_quo ?_; intro b n hb))
    all_goals go_ret
    · refine ⟨?_, _, rfl⟩
      rw [inv_eq (by assumption) (by assumption) (one_quo ha (by assumption))]; rfl
    all_goals exact ⟨rfl, 0, rfl⟩
theorem sameComplex_any (a b x y : Nat) (h : cn .f64 a = cn .f64 x) (h' : cn .f64 b = cn .f64 y) (w : World) : Calls Try.prog 228 #[.complex .f64 a b, .complex .f64 x y] w fun e w' => e = .returned (.bool true) ∧ ∃ n, w' = w.drewN n := by
  have H := Lib.hid h
  have H' := Lib.hid h'
  clear h h'
  go_enter Try.func228, Try.ntmps228
  go_wp2_with fail
  refine (sameFloat_any _ _ H.out _).mono ?_
  rintro e w1 ⟨rfl, n1, rfl⟩
  go_wp2_with fail
  refine (sameFloat_any _ _ H'.out _).mono ?_
  rintro e w1 ⟨rfl, n2, rfl⟩
  go_wp2_with fail
  go_ret
  exact ⟨rfl, _, rfl⟩
theorem same32_any (a b : Nat) (h : cn .f32 a = cn .f32 b) (w : World) : Calls Try.prog 99 #[.float .f32 a, .float .f32 b] w fun e w' => e = .returned (.bool true) ∧ ∃ n, w' = w.drewN n := by
  have H := Lib.hid h
  clear h
  go_enter Try.func99, Try.ntmps99
  go_wp2_with (with_reducible refine upon_wide Try.underlying29 Try.underlying68 ?_; intro b n hb)
  refine (same64_any _ _ (by simp only [*, H.out]) _).mono ?_
  rintro e w1 ⟨rfl, n1, rfl⟩
  go_wp2_with fail
  go_ret
  exact ⟨rfl, _, rfl⟩
theorem sameColour_any (a b x y : Nat) (h : cn .f32 a = cn .f32 x) (h' : cn .f32 b = cn .f32 y) (w : World) : Calls Try.prog 216 #[.complex .f32 a b, .complex .f32 x y] w fun e w' => e = .returned (.bool true) ∧ ∃ n, w' = w.drewN n := by
  have H := Lib.hid h
  have H' := Lib.hid h'
  clear h h'
  go_enter Try.func216, Try.ntmps216
  go_wp2_with fail
  refine (same32_any _ _ H.out _).mono ?_
  rintro e w1 ⟨rfl, n1, rfl⟩
  go_wp2_with fail
  refine (same32_any _ _ H'.out _).mono ?_
  rintro e w1 ⟨rfl, n2, rfl⟩
  go_wp2_with fail
  go_ret
  exact ⟨rfl, _, rfl⟩
theorem eqCell_any (c d : Cel) (h : c.cn = d.cn) (w : World) : Calls Try.prog 187 #[.agg #[.float .f32 c.y, .complex .f32 c.re c.im], .agg #[.float .f32 d.y, .complex .f32 d.re d.im]] w fun e w' => e = .returned (.bool true) ∧ Below w.heap.size w w' := by
  obtain ⟨y, re, im⟩ := c
  obtain ⟨y', re', im'⟩ := d
  simp only [Cel.cn, Cel.mk.injEq] at h
  obtain ⟨h1, h2, h3⟩ := h
  have H1 := Lib.hid h1
  have H2 := Lib.hid h2
  have H3 := Lib.hid h3
  clear h1 h2 h3
  go_enter Try.func187, Try.ntmps187
  go_wp2_with (with_reducible refine upon_wide Try.underlying29 Try.underlying68 ?_; intro b n hb)
  refine (sameFloat_any _ _ (by simp only [*, H1.out]) _).mono ?_
  rintro e w1 ⟨rfl, n1, rfl⟩
  go_wp2_with (with_reducible refine upon_wideC Try.underlying30 Try.underlying167 ?_; intro b c n hb hc)
  refine (sameComplex_any _ _ _ _ (by simp only [*, H2.out]) (by simp only [*, H3.out]) _).mono ?_
  rintro e w1 ⟨rfl, n1, rfl⟩
  go_wp2_with fail
  go_ret
  exact ⟨rfl, by (repeat (first | exact Below.refl _ _ | assumption | refine below_drewN ?_ _ | refine Below.drew ?_ | refine Below.alloc ?_ (by first | exact Nat.le_refl _ | (simp; done) | (simp; omega)) _ | refine Below.setCell ?_ (by first | exact Nat.le_refl _ | (simp; done) | (simp; omega)) _))⟩
theorem eqRun_any (a b : Int) (w : World) : Calls Try.prog 157 #[.agg #[.int .i64 a, .int .i64 b], .agg #[.int .i64 a, .int .i64 b]] w fun e w' => e = .returned (.bool true) ∧ Below w.heap.size w w' := by
  go_enter Try.func157, Try.ntmps157
  go_wp2_with fail
  go_ret
  exact ⟨rfl, by (repeat (first | exact Below.refl _ _ | assumption | refine below_drewN ?_ _ | refine Below.drew ?_ | refine Below.alloc ?_ (by first | exact Nat.le_refl _ | (simp; done) | (simp; omega)) _ | refine Below.setCell ?_ (by first | exact Nat.le_refl _ | (simp; done) | (simp; omega)) _))⟩
end Go.Proofs.Ytiddaabodkglmaa
