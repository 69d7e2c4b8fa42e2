import Derived.Test.YtiddaabodkglmaaK1
import Derived.Test.YtiddaabodkglmaaProg
section
namespace Go.Proofs.Ytiddaabodkglmaa
open Go.RowKit Go.Fx
set_option linter.unusedVariables false
set_option linter.unusedSimpArgs false

theorem amt_pos {x : Nat} (h : flt .f32 x 0 = true) : cn .f32 (Op.negFloat .f32 x) = amt x := by
  unfold amt; rw [h]; rfl
theorem amt_neg {x : Nat} (h : flt .f32 x 0 = false) : cn .f32 x = amt x := by unfold amt; rw [h]; rfl
theorem neg_256 : Op.negFloat .f32 1132462080 = 3279945728 := by decide
theorem amount_any (x : Nat) (w : World) : Calls Try.prog 153 #[.float .f32 x] w fun e w' => (∃ b, e = .returned (.float .f32 b) ∧ cn .f32 b = amt x) ∧ w = w' := by
  go_enter Try.func153, Try.ntmps153
  go_wp2
  all_goals go_ret
  · exact ⟨⟨_, rfl, amt_pos (by assumption)⟩, rfl⟩
  · exact ⟨⟨_, rfl, amt_neg (by assumption)⟩, rfl⟩

theorem sCellOk_any (y re im : Nat) (w : World) : Calls Try.prog 83 #[.agg #[.float .f32 y, .complex .f32 re im]] w fun e w' => e = .returned (.bool (cellOk ⟨y, re, im⟩)) ∧ Below w.heap.size w w' := by
  go_enter Try.func83, Try.ntmps83
  go_wp2
  all_goals go_ret
  all_goals refine ⟨?_, by (repeat (first | exact Below.refl _ _ | assumption | refine below_drewN ?_ _ | refine Below.drew ?_ | refine Below.alloc ?_ (by first | exact Nat.le_refl _ | (simp; done) | (simp; omega)) _ | refine Below.setCell ?_ (by first | exact Nat.le_refl _ | (simp; done) | (simp; omega)) _))⟩
  all_goals simp_all [cellOk, within32, neg_256]

/-- of a number of which only the bits behind 'amount' are known -/
theorem fle_amt {b x c : Nat} (h : cn .f32 b = amt x) : fle .f32 b c = fle .f32 (amt x) c := by rw [← h, fle_cn_l]
theorem iCellOk_any (y re im : Nat) (w : World) : Calls Try.prog 210 #[.agg #[.float .f32 y, .complex .f32 re im]] w fun e w' => e = .returned (.bool (cellOk ⟨y, re, im⟩)) ∧ Below w.heap.size w w' := by
  go_enter Try.func210, Try.ntmps210
  go_wp2_with (first | (go_at_call 153; refine (amount_any _ _).mono ?_; rintro e w1 ⟨⟨b, rfl, hb⟩, rfl⟩; replace hb := fun c => (fle_amt (c := c) hb)))
  all_goals go_ret
  all_goals refine ⟨?_, by (repeat (first | exact Below.refl _ _ | assumption | refine below_drewN ?_ _ | refine Below.drew ?_ | refine Below.alloc ?_ (by first | exact Nat.le_refl _ | (simp; done) | (simp; omega)) _ | refine Below.setCell ?_ (by first | exact Nat.le_refl _ | (simp; done) | (simp; omega)) _))⟩
  all_goals simp_all [cellOk, amt_256]

theorem conj_any (re im : Nat) (w : World) : Calls Try.prog 201 #[.complex .f32 re im] w fun e w' => e = .returned (.complex .f32 re (Op.negFloat .f32 im)) ∧ w = w' := by
  go_enter Try.func201, Try.ntmps201
  go_wp2
  all_goals go_ret
  exact ⟨rfl, rfl⟩
theorem half_any (x y : Nat) (w : World) : Calls Try.prog 233 #[.float .f32 x, .float .f32 y] w fun e w' => (∃ b, e = .returned (.float .f32 b) ∧ cn .f32 b = half32 (cn .f32 x) (cn .f32 y)) ∧ ∃ n, w' = w.drewN n := by
  go_enter Try.func233, Try.ntmps233
  go_wp2_with (with_reducible first | (refine upon_add ?_; intro b n hb) | (refine upon_sub ?_; intro b n hb) | (refine upon_mul ?_; intro b n hb) | (refine upon_quo ?_; intro b n hb))
  all_goals go_ret
  refine ⟨⟨_, rfl, ?_⟩, _, rfl⟩
  simp_all [half32, fop_cn_r]
theorem mean_any (a b x y : Nat) (w : World) : Calls Try.prog 200 #[.complex .f32 a b, .complex .f32 x y] w fun e w' => (∃ re im, e = .returned (.complex .f32 re im) ∧ cn .f32 re = half32 (cn .f32 a) (cn .f32 x) ∧ cn .f32 im = half32 (cn .f32 b) (cn .f32 y)) ∧ ∃ n, w' = w.drewN n := by
  go_enter Try.func200, Try.ntmps200
  go_wp2_with (first | (go_at_call 233; refine (half_any _ _ _).mono ?_; rintro e w1 ⟨⟨b, rfl, hb⟩, n, rfl⟩))
  all_goals go_ret
  refine ⟨⟨_, _, rfl, ?_, ?_⟩, _, rfl⟩ <;> assumption
theorem plus_any (a b x y : Nat) (w : World) : Calls Try.prog 197 #[.complex .f32 a b, .complex .f32 x y] w fun e w' => (∃ re im, e = .returned (.complex .f32 re im) ∧ cn .f32 re = add32 (cn .f32 a) (cn .f32 x) ∧ cn .f32 im = add32 (cn .f32 b) (cn .f32 y)) ∧ ∃ n, w' = w.drewN n := by
  go_enter Try.func197, Try.ntmps197
  go_wp2_with (with_reducible first | (refine upon_add ?_; intro b n hb) | (refine upon_sub ?_; intro b n hb) | (refine upon_mul ?_; intro b n hb) | (refine upon_quo ?_; intro b n hb))
  all_goals go_ret
  refine ⟨⟨_, _, rfl, ?_, ?_⟩, _, rfl⟩ <;> assumption
theorem minus_any (a b x y : Nat) (w : World) : Calls Try.prog 198 #[.complex .f32 a b, .complex .f32 x y] w fun e w' => (∃ re im, e = .returned (.complex .f32 re im) ∧ cn .f32 re = sub32 (cn .f32 a) (cn .f32 x) ∧ cn .f32 im = sub32 (cn .f32 b) (cn .f32 y)) ∧ ∃ n, w' = w.drewN n := by
  go_enter Try.func198, Try.ntmps198
  go_wp2_with (with_reducible first | (refine upon_add ?_; intro b n hb) | (refine upon_sub ?_; intro b n hb) | (refine upon_mul ?_; intro b n hb) | (refine upon_quo ?_; intro b n hb))
  all_goals go_ret
  refine ⟨⟨_, _, rfl, ?_, ?_⟩, _, rfl⟩ <;> assumption
theorem iTimes_any (a b x y : Nat) (w : World) : Calls Try.prog 82 #[.complex .f32 a b, .complex .f32 x y] w fun e w' => (∃ re im, e = .returned (.complex .f32 re im) ∧ cn .f32 re = timesRe (cn .f32 a) (cn .f32 b) (cn .f32 x) (cn .f32 y) ∧ cn .f32 im = timesIm (cn .f32 a) (cn .f32 b) (cn .f32 x) (cn .f32 y)) ∧ ∃ n, w' = w.drewN n := by
  go_enter Try.func82, Try.ntmps82
  go_wp2_with (with_reducible first | (refine upon_add ?_; intro b n hb) | (refine upon_sub ?_; intro b n hb) | (refine upon_mul ?_; intro b n hb) | (refine upon_quo ?_; intro b n hb))
  all_goals go_ret
  refine ⟨⟨_, _, rfl, ?_, ?_⟩, _, rfl⟩ <;> simp_all [timesRe, timesIm]
theorem sTimes_any (a b x y : Nat) (w : World) : Calls Try.prog 248 #[.complex .f32 a b, .complex .f32 x y] w fun e w' => (∃ re im, e = .returned (.complex .f32 re im) ∧ cn .f32 re = timesRe (cn .f32 a) (cn .f32 b) (cn .f32 x) (cn .f32 y) ∧ cn .f32 im = timesIm (cn .f32 a) (cn .f32 b) (cn .f32 x) (cn .f32 y)) ∧ ∃ n, w' = w.drewN n := by
  go_enter Try.func248, Try.ntmps248
  go_wp2_with (with_reducible first | (refine upon_add ?_; intro b n hb) | (refine upon_sub ?_; intro b n hb) | (refine upon_mul ?_; intro b n hb) | (refine upon_quo ?_; intro b n hb))
  all_goals go_ret
  refine ⟨⟨_, _, rfl, ?_, ?_⟩, _, rfl⟩ <;> simp_all [timesRe, timesIm]
theorem power_any (a b : Nat) (w : World) : Calls Try.prog 51 #[.complex .f32 a b] w fun e w' => (∃ r, e = .returned (.float .f32 r) ∧ cn .f32 r = power (cn .f32 a) (cn .f32 b)) ∧ ∃ n, w' = w.drewN n := by
  go_enter Try.func51, Try.ntmps51
  go_wp2_with (with_reducible first | (refine upon_add ?_; intro b n hb) | (refine upon_sub ?_; intro b n hb) | (refine upon_mul ?_; intro b n hb) | (refine upon_quo ?_; intro b n hb))
  all_goals go_ret
  refine ⟨⟨_, rfl, ?_⟩, _, rfl⟩
  simp_all [power]
theorem sHalf_any (x y : Nat) (w : World) : Calls Try.prog 204 #[.float .f32 x, .float .f32 y] w fun e w' => (∃ b, e = .returned (.float .f32 b) ∧ cn .f32 b = half32 (cn .f32 x) (cn .f32 y)) ∧ ∃ n, w' = w.drewN n := by
  go_enter Try.func204, Try.ntmps204
  go_wp2_with (with_reducible first | (refine upon_add ?_; intro b n hb) | (refine upon_sub ?_; intro b n hb) | (refine upon_mul ?_; intro b n hb) | (refine upon_quo ?_; intro b n hb))
  all_goals go_ret
  refine ⟨⟨_, rfl, ?_⟩, _, rfl⟩
  simp_all [half32, fop_cn_r]
theorem sConj_any (re im : Nat) (w : World) : Calls Try.prog 203 #[.complex .f32 re im] w fun e w' => e = .returned (.complex .f32 re (Op.negFloat .f32 im)) ∧ w = w' := by
  go_enter Try.func203, Try.ntmps203
  go_wp2
  all_goals go_ret
  exact ⟨rfl, rfl⟩
theorem within_any (n a b : Int) (w : World) : Calls Try.prog 137 #[.int .i64 n, .int .i64 a, .int .i64 b] w fun e w' => e = .returned (.bool (decide (a ≤ n) && decide (n ≤ b))) ∧ w = w' := by
  go_enter Try.func137, Try.ntmps137
  go_wp2
  all_goals go_ret
  all_goals refine ⟨?_, rfl⟩
  all_goals (simp_all <;> omega)
theorem sIn_any (n a b : Int) (w : World) : Calls Try.prog 135 #[.int .i64 n, .int .i64 a, .int .i64 b] w fun e w' => e = .returned (.bool (decide (a ≤ n) && decide (n ≤ b))) ∧ w = w' := by
  go_enter Try.func135, Try.ntmps135
  go_wp2
  all_goals go_ret
  all_goals refine ⟨?_, rfl⟩
  all_goals (simp_all <;> omega)
theorem lengthOk_any (n : Int) (w : World) : Calls Try.prog 163 #[.int .i64 n] w fun e w' => e = .returned (.bool (decide (28 ≤ n) && decide (n ≤ 280))) ∧ w = w' := by
  go_enter Try.func163, Try.ntmps163
  go_wp2_with (go_at_call 137; refine (within_any _ _ _ _).mono ?_; rintro e w1 ⟨rfl, rfl⟩)
  all_goals go_ret
  exact ⟨rfl, rfl⟩
theorem l05In_any (x c : Nat) (w : World) : Calls Try.prog 151 #[.float .f32 x, .float .f32 c] w fun e w' => e = .returned (.bool (within32 x c)) ∧ w = w' := by
  go_enter Try.func151, Try.ntmps151
  go_wp2
  all_goals go_ret
  all_goals refine ⟨?_, rfl⟩
  all_goals simp_all [within32]
end Go.Proofs.Ytiddaabodkglmaa
end
section
namespace Go.Proofs.Ytiddaabodkglmaa
open Go.RowKit Go.Fx
set_option linter.unusedVariables false
set_option linter.unusedSimpArgs false

theorem mod4_any (n : Int) (h0 : 0 ≤ n) (h4 : n < 4) (w : World) : Calls Try.prog 225 #[.int .i64 n] w fun e w' => e = .returned (.int .i64 n) ∧ w = w' := by
  go_enter Try.func225, Try.ntmps225
  go_wp2
  all_goals go_ret
  refine ⟨?_, rfl⟩
  simp
  omega
theorem l03Mod_any (n : Int) (h0 : 0 ≤ n) (h4 : n < 4) (w : World) : Calls Try.prog 250 #[.int .i64 n] w fun e w' => e = .returned (.int .i64 n) ∧ w = w' := by
  go_enter Try.func250, Try.ntmps250
  go_wp2
  all_goals go_ret
  refine ⟨?_, rfl⟩
  simp
  omega
theorem iCarried_any (re im : Nat) (n : Int) (h0 : 0 ≤ n) (h4 : n < 4) (w : World) : Calls Try.prog 176 #[.complex .f32 re im, .int .i64 n] w fun e w' => e = .returned (.float .f32 (carriedB re im n)) ∧ w = w' := by
  go_enter Try.func176, Try.ntmps176
  go_wp2_with (go_at_call 225; refine (mod4_any _ h0 h4 _).mono ?_; rintro e w1 ⟨rfl, rfl⟩)
  all_goals go_ret
  all_goals refine ⟨?_, rfl⟩
  all_goals simp_all [carriedB]
  all_goals (intro h; exfalso; omega)
theorem sCarried_any (re im : Nat) (n : Int) (h0 : 0 ≤ n) (h4 : n < 4) (w : World) : Calls Try.prog 249 #[.complex .f32 re im, .int .i64 n] w fun e w' => e = .returned (.float .f32 (carriedB re im n)) ∧ w = w' := by
  go_enter Try.func249, Try.ntmps249
  go_wp2_with (go_at_call 250; refine (l03Mod_any _ h0 h4 _).mono ?_; rintro e w1 ⟨rfl, rfl⟩)
  all_goals go_ret
  all_goals refine ⟨?_, rfl⟩
  all_goals simp_all [carriedB]

theorem iChannelOk_any (a off re im : Nat) (w : World) : Calls Try.prog 171 #[.agg #[.float .f32 a, .float .f32 off, .complex .f32 re im]] w fun e w' => e = .returned (.bool (chnOk ⟨a, off, re, im⟩)) ∧ Below w.heap.size w w' := by
  go_enter Try.func171, Try.ntmps171
  go_wp2_with (first | (go_at_call 153; refine (amount_any _ _).mono ?_; rintro e w1 ⟨⟨b, rfl, hb⟩, rfl⟩; replace hb := fun c => (fle_amt (c := c) hb)))
  all_goals go_ret
  all_goals refine ⟨?_, by (repeat (first | exact Below.refl _ _ | assumption | refine below_drewN ?_ _ | refine Below.drew ?_ | refine Below.alloc ?_ (by first | exact Nat.le_refl _ | (simp; done) | (simp; omega)) _ | refine Below.setCell ?_ (by first | exact Nat.le_refl _ | (simp; done) | (simp; omega)) _))⟩
  all_goals simp_all [chnOk, amt_16, amt_64]
theorem sChannelOk_any (a off re im : Nat) (w : World) : Calls Try.prog 247 #[.agg #[.float .f32 a, .float .f32 off, .complex .f32 re im]] w fun e w' => e = .returned (.bool (chnOk ⟨a, off, re, im⟩)) ∧ Below w.heap.size w w' := by
  go_enter Try.func247, Try.ntmps247
  go_wp2_with (first | (go_at_call 151; refine (l05In_any _ _ _).mono ?_; rintro e w1 ⟨rfl, rfl⟩))
  all_goals go_ret
  all_goals refine ⟨?_, by (repeat (first | exact Below.refl _ _ | assumption | refine below_drewN ?_ _ | refine Below.drew ?_ | refine Below.alloc ?_ (by first | exact Nat.le_refl _ | (simp; done) | (simp; omega)) _ | refine Below.setCell ?_ (by first | exact Nat.le_refl _ | (simp; done) | (simp; omega)) _))⟩
  all_goals simp_all [chnOk]

theorem iSetOk_any (cells rows : Int) (slice least sat : Nat) (A : Option Addr) (n c : Nat) (hn : n ≤ 9223372036854775807) (w : World) :
    Calls Try.prog 55 #[.agg #[.int .i64 cells, .int .i64 rows, .float .f32 slice, .float .f32 least, .float .f32 sat, .slice A n c]] w fun e w' => e = .returned (.bool (setOk cells rows slice least sat n)) ∧ Below w.heap.size w w' := by
  go_enter Try.func55, Try.ntmps55
  go_wp2_with (first | (go_at_call 153; refine (amount_any _ _).mono ?_; rintro e w1 ⟨⟨b, rfl, hb⟩, rfl⟩; replace hb := fun c => (fle_amt (c := c) hb)) | (go_at_call 137; refine (within_any _ _ _ _).mono ?_; rintro e w1 ⟨rfl, rfl⟩))
  all_goals go_ret
  all_goals refine ⟨?_, by (repeat (first | exact Below.refl _ _ | assumption | refine below_drewN ?_ _ | refine Below.drew ?_ | refine Below.alloc ?_ (by first | exact Nat.le_refl _ | (simp; done) | (simp; omega)) _ | refine Below.setCell ?_ (by first | exact Nat.le_refl _ | (simp; done) | (simp; omega)) _))⟩
  all_goals first | (simp_all [setOk, amt_1024]; done) | (simp_all [setOk, amt_1024]; omega)
theorem sSetOk_any (cells rows : Int) (slice least sat : Nat) (A : Option Addr) (n c : Nat) (hn : n ≤ 9223372036854775807) (w : World) :
    Calls Try.prog 53 #[.agg #[.int .i64 cells, .int .i64 rows, .float .f32 slice, .float .f32 least, .float .f32 sat, .slice A n c]] w fun e w' => e = .returned (.bool (setOk cells rows slice least sat n)) ∧ Below w.heap.size w w' := by
  go_enter Try.func53, Try.ntmps53
  go_wp2_with (first | (go_at_call 151; refine (l05In_any _ _ _).mono ?_; rintro e w1 ⟨rfl, rfl⟩) | (go_at_call 135; refine (sIn_any _ _ _ _).mono ?_; rintro e w1 ⟨rfl, rfl⟩))
  all_goals go_ret
  all_goals refine ⟨?_, by (repeat (first | exact Below.refl _ _ | assumption | refine below_drewN ?_ _ | refine Below.drew ?_ | refine Below.alloc ?_ (by first | exact Nat.le_refl _ | (simp; done) | (simp; omega)) _ | refine Below.setCell ?_ (by first | exact Nat.le_refl _ | (simp; done) | (simp; omega)) _))⟩
  all_goals first | (simp_all [setOk]; done) | (simp_all [setOk]; omega)
end Go.Proofs.Ytiddaabodkglmaa
end
section
namespace Go.Proofs.Ytiddaabodkglmaa
open Go.RowKit Go.Fx Ieee
set_option linter.unusedVariables false
set_option linter.unusedSimpArgs false

theorem feq_self {k : FloatKind} {a : Nat} (h : isN k a = false) : feq k a a = true := by
  cases ha : fk k a with
  | none => rw [fk_none.1 ha] at h; cases h
  | some x => rw [feq_fk ha ha]; simp
theorem feq_nan {k : FloatKind} {a : Nat} (b : Nat) (h : isN k a = true) : feq k a b = false := (cmp_nan (.inl (fk_none.2 h))).1
theorem cn_same {k : FloatKind} {a b : Nat} (h : cn k a = cn k b) : (isN k a = true ∧ isN k b = true) ∨ (isN k a = false ∧ a = b) := by
  have h1 : isN k a = isN k b := by rw [← isN_cn k a, ← isN_cn k b, h]
  cases ha : isN k a with
  | true => left; exact ⟨rfl, by rw [← h1, ha]⟩
  | false => right; exact ⟨rfl, by rwa [cn_of_not ha, cn_of_not (by rw [← h1, ha])] at h⟩
theorem fgt_same {k : FloatKind} {a b : Nat} (c : Nat) (h : cn k a = cn k b) : fgt k a c = fgt k b c := by rw [← fgt_cn_l, h, fgt_cn_l]

theorem inv_gt {k : FloatKind} {p q X : Nat} {c : Nat} (hp : cn k p = X) (hq : cn k q = X) : (fgt k p c == fgt k q c) = true := by
  rw [fgt_same c (hp.trans hq.symm)]; simp
theorem inv_self {k : FloatKind} {a z : Nat} (h : isN k a = false) (ha : feq k a 0 = true) (hz : isN k (fop .quo k z (Op.negFloat k 0)) = false) (hz' : isN k (fop .quo k z 0) = false) : isN k (fop .quo k z a) = false := by
  cases hk : fk k a with
  | none => rw [fk_none.1 hk] at h; cases h
  | some x =>
    have h0 : fk k 0 = some 0 := by cases k <;> decide +kernel
    rw [feq_fk hk h0] at ha
    have hx : x = 0 := of_decide_eq_true ha
    subst hx
    -- the quotient by a number of which the datum is a zero is no NaN, as by 0 or -0
    unfold fk at hk
    have hd : ∃ s p, k.format.read a = .number s 0 p := by
      cases hr : k.format.read a with
      | nan s m => rw [hr] at hk; cases hk
      | infinity s =>
        rw [hr] at hk
        have ht := tp_ne (k.format.fractionBits + 1 + 2 ^ k.format.exponentBits)
        simp only [dk, big, Option.some.injEq] at hk
        rcases Int.mul_eq_zero.1 hk with h | h
        · cases s <;> simp [sg] at h
        · exact absurd h ht
      | number s m p =>
        rw [hr] at hk
        simp only [dk, Option.some.injEq] at hk
        have ht := tp_ne (p - k.format.leastPlace).toNat
        have hm : sg s * (m : Int) = 0 := by
          rcases Int.mul_eq_zero.1 hk with h | h
          · exact h
          · exact absurd h ht
        have : m = 0 := by cases s <;> simp [sg] at hm <;> omega
        subst this
        exact ⟨s, p, rfl⟩
    obtain ⟨s, p, hr⟩ := hd
    have h0r : ∃ q, k.format.read 0 = .number false 0 q := ⟨k.format.leastPlace, by cases k <;> decide +kernel⟩
    obtain ⟨q, h0r⟩ := h0r
    unfold fop floatBits Format.div at hz' ⊢
    simp only [h0r] at hz'
    simp only [hr]
    cases hzr : k.format.read z with
    | nan t m => rw [hzr] at hz'; simp [Datum.quotient, isN_qn] at hz'
    | infinity t => simp only [Datum.quotient, Option.map_some, Option.getD_some]; unfold isN; exact read_write_not _ rfl
    | number t m r =>
      rw [hzr] at hz'
      simp only [Datum.quotient, if_true] at hz' ⊢
      by_cases hm : m = 0
      · rw [if_pos hm] at hz'; simp [isN_qn] at hz'
      · rw [if_neg hm]; simp only [Option.map_some, Option.getD_some]; unfold isN; exact read_write_not _ rfl
theorem inv_eq {p q X : Nat} (hp : cn .f64 p = X) (hq : cn .f64 q = X) (hX : isN .f64 X = false) : feq .f64 p q = true := by
  rw [← feq_cn_l, ← feq_cn_r, hp, hq]
  exact feq_self hX
theorem one_quo {a : Nat} (h : isN .f64 a = false) (ha : feq .f64 a 0 = true) : isN .f64 (fop .quo .f64 (cn .f64 4607182418800017408) (cn .f64 a)) = false := by
  rw [fop_cn_l, fop_cn_r]
  exact inv_self h ha (by decide +kernel) (by decide +kernel)
theorem sameFloat_any (a b : Nat) (h : cn .f64 a = cn .f64 b) (w : World) : Calls Try.prog 67 #[.float .f64 a, .float .f64 b] w fun e w' => e = .returned (.bool true) ∧ ∃ n, w' = w.drewN n := by
  rcases cn_same h with ⟨ha, hb⟩ | ⟨ha, rfl⟩
  · have h1 := feq_nan a ha
    have h2 := feq_nan b hb
    clear h
    go_enter Try.func67, Try.ntmps67
    go_wp2
    all_goals go_ret
    exact ⟨rfl, 0, rfl⟩
  · have h1 := feq_self ha
    clear h
    go_enter Try.func67, Try.ntmps67
    go_wp2_with (with_reducible first | (refine upon_add ?_; intro b n hb) | (refine upon_sub ?_; intro b n hb) | (refine upon_mul ?_; intro b n hb) | (refine upon_quo ?_; intro b n hb))
    all_goals go_ret
    · refine ⟨?_, _, rfl⟩
      rw [inv_gt (by assumption) (by assumption)]; rfl
    all_goals exact ⟨rfl, 0, rfl⟩
theorem same64_any (a b : Nat) (h : cn .f64 a = cn .f64 b) (w : World) : Calls Try.prog 183 #[.float .f64 a, .float .f64 b] w fun e w' => e = .returned (.bool true) ∧ ∃ n, w' = w.drewN n := by
  rcases cn_same h with ⟨ha, hb⟩ | ⟨ha, rfl⟩
  · have h1 := feq_nan a ha
    have h2 := feq_nan b hb
    clear h
    go_enter Try.func183, Try.ntmps183
    go_wp2
    all_goals go_ret
    exact ⟨rfl, 0, rfl⟩
  · have h1 := feq_self ha
    clear h
    go_enter Try.func183, Try.ntmps183
    go_wp2_with (with_reducible first | (refine upon_add ?_; intro b n hb) | (refine upon_sub ?_; intro b n hb) | (refine upon_mul ?_; intro b n hb) | (refine upon_quo ?_; intro b n hb))
    all_goals go_ret
    · refine ⟨?_, _, rfl⟩
      rw [inv_eq (by assumption) (by assumption) (one_quo ha (by assumption))]; rfl
    all_goals exact ⟨rfl, 0, rfl⟩
theorem sameComplex_any (a b x y : Nat) (h : cn .f64 a = cn .f64 x) (h' : cn .f64 b = cn .f64 y) (w : World) : Calls Try.prog 228 #[.complex .f64 a b, .complex .f64 x y] w fun e w' => e = .returned (.bool true) ∧ ∃ n, w' = w.drewN n := by
  have H := Lib.hid h
  have H' := Lib.hid h'
  clear h h'
  go_enter Try.func228, Try.ntmps228
  go_wp2_with fail
  refine (sameFloat_any _ _ H.out _).mono ?_
  rintro e w1 ⟨rfl, n1, rfl⟩
  go_wp2_with fail
  refine (sameFloat_any _ _ H'.out _).mono ?_
  rintro e w1 ⟨rfl, n2, rfl⟩
  go_wp2_with fail
  go_ret
  exact ⟨rfl, _, rfl⟩
theorem same32_any (a b : Nat) (h : cn .f32 a = cn .f32 b) (w : World) : Calls Try.prog 99 #[.float .f32 a, .float .f32 b] w fun e w' => e = .returned (.bool true) ∧ ∃ n, w' = w.drewN n := by
  have H := Lib.hid h
  clear h
  go_enter Try.func99, Try.ntmps99
  go_wp2_with (with_reducible refine upon_wide Try.underlying29 Try.underlying68 ?_; intro b n hb)
  refine (same64_any _ _ (by simp only [*, H.out]) _).mono ?_
  rintro e w1 ⟨rfl, n1, rfl⟩
  go_wp2_with fail
  go_ret
  exact ⟨rfl, _, rfl⟩
theorem sameColour_any (a b x y : Nat) (h : cn .f32 a = cn .f32 x) (h' : cn .f32 b = cn .f32 y) (w : World) : Calls Try.prog 216 #[.complex .f32 a b, .complex .f32 x y] w fun e w' => e = .returned (.bool true) ∧ ∃ n, w' = w.drewN n := by
  have H := Lib.hid h
  have H' := Lib.hid h'
  clear h h'
  go_enter Try.func216, Try.ntmps216
  go_wp2_with fail
  refine (same32_any _ _ H.out _).mono ?_
  rintro e w1 ⟨rfl, n1, rfl⟩
  go_wp2_with fail
  refine (same32_any _ _ H'.out _).mono ?_
  rintro e w1 ⟨rfl, n2, rfl⟩
  go_wp2_with fail
  go_ret
  exact ⟨rfl, _, rfl⟩
theorem eqCell_any (c d : Cel) (h : c.cn = d.cn) (w : World) : Calls Try.prog 187 #[.agg #[.float .f32 c.y, .complex .f32 c.re c.im], .agg #[.float .f32 d.y, .complex .f32 d.re d.im]] w fun e w' => e = .returned (.bool true) ∧ Below w.heap.size w w' := by
  obtain ⟨y, re, im⟩ := c
  obtain ⟨y', re', im'⟩ := d
  simp only [Cel.cn, Cel.mk.injEq] at h
  obtain ⟨h1, h2, h3⟩ := h
  have H1 := Lib.hid h1
  have H2 := Lib.hid h2
  have H3 := Lib.hid h3
  clear h1 h2 h3
  go_enter Try.func187, Try.ntmps187
  go_wp2_with (with_reducible refine upon_wide Try.underlying29 Try.underlying68 ?_; intro b n hb)
  refine (sameFloat_any _ _ (by simp only [*, H1.out]) _).mono ?_
  rintro e w1 ⟨rfl, n1, rfl⟩
  go_wp2_with (with_reducible refine upon_wideC Try.underlying30 Try.underlying167 ?_; intro b c n hb hc)
  refine (sameComplex_any _ _ _ _ (by simp only [*, H2.out]) (by simp only [*, H3.out]) _).mono ?_
  rintro e w1 ⟨rfl, n1, rfl⟩
  go_wp2_with fail
  go_ret
  exact ⟨rfl, by (repeat (first | exact Below.refl _ _ | assumption | refine below_drewN ?_ _ | refine Below.drew ?_ | refine Below.alloc ?_ (by first | exact Nat.le_refl _ | (simp; done) | (simp; omega)) _ | refine Below.setCell ?_ (by first | exact Nat.le_refl _ | (simp; done) | (simp; omega)) _))⟩
theorem eqRun_any (a b : Int) (w : World) : Calls Try.prog 157 #[.agg #[.int .i64 a, .int .i64 b], .agg #[.int .i64 a, .int .i64 b]] w fun e w' => e = .returned (.bool true) ∧ Below w.heap.size w w' := by
  go_enter Try.func157, Try.ntmps157
  go_wp2_with fail
  go_ret
  exact ⟨rfl, by (repeat (first | exact Below.refl _ _ | assumption | refine below_drewN ?_ _ | refine Below.drew ?_ | refine Below.alloc ?_ (by first | exact Nat.le_refl _ | (simp; done) | (simp; omega)) _ | refine Below.setCell ?_ (by first | exact Nat.le_refl _ | (simp; done) | (simp; omega)) _))⟩
end Go.Proofs.Ytiddaabodkglmaa
end
section
namespace Go.Proofs.Ytiddaabodkglmaa
open Go.RowKit Go.Fx
set_option linter.unusedVariables false
set_option linter.unusedSimpArgs false

theorem info_f32 : (Try.prog.info? 29).map (fun i => (i.zero, i.size, i.bytes)) = some (some (.float .f32 0), 1, 4) := by kernel_rfl
theorem info_int : (Try.prog.info? 3).map (fun i => (i.zero, i.size, i.bytes)) = some (some (.int .i64 0), 1, 8) := by kernel_rfl

/-- a fresh row of singles -/
abbrev OF (w : World) (base : Nat) (v : Value) (rs : List Nat) : Prop := w.ownsRow base 29 1 v rs.length (rs.map fl)

theorem toF_any (A : Option Addr) (c : Nat) (rs : List Nat) (w : World) (h : Rd w A (rs.map fl)) (hn : rs.length ≤ 1048576) :
    Calls Try.prog 36 #[.slice A rs.length c] w fun e w' => (∃ v, e = .returned v ∧ OF w' w.heap.size v rs) ∧ Ext w w' := by
  obtain ⟨i0, hi, hz0, hz1, hz2⟩ := info_parts info_f32
  go_enter Try.func36, Try.ntmps36
  go_wp2_with (at_make; refine wpList_make_full _ rfl _ _ 22 rfl w.heap.size 29 i0 _ 1 Try.underlying22 hi hz0 hz1 _ _ _ _ rs.length rfl rfl rfl rfl (by rw [hz2]; omega) (by unfold maxLen; omega) (Nat.le_refl _) ?_; intro w1 hown hg)
  have hb1 := grown_none hg
  have hlen := hown.1
  go_loopw [4] (fun i wr => ∃ (k : Nat) (xs : List Value), k ≤ rs.length ∧ i = .int .i64 k ∧ Upto k xs (rs.map fl) ∧ wr.ownsRow w.heap.size 29 1 (.slice (some ⟨w.heap.size, 0, none⟩) rs.length rs.length) rs.length xs ∧ Ext w wr) (fun i _ => rs.length - (intOf i).toNat)
  case atStart => exact ⟨0, _, Nat.zero_le _, rfl, Upto.zero (by simpa using hlen), hown, hb1⟩
  case round =>
    obtain ⟨k, xs, hk, rfl, hu, ho, hb⟩ := hrel
    clear hlen
    by_cases hlt : k < rs.length
    · obtain ⟨b, off, rfl, hbw, hc⟩ := rf_at (h.ext hb) hlt
      have hf := own_frozen ho k
      have hl : k < xs.length := by have := hu.1; simp at this; omega
      have hcell : ∃ u, wr.cell? ⟨w.heap.size, k, none⟩ = some u := ⟨_, own_cell ho (List.getElem?_eq_getElem hl)⟩
      obtain ⟨u0, hcell⟩ := hcell
      go_wp2
      go_roundw
      case rel => exact ⟨k + 1, _, by omega, by go_num, hu.step (by simp [hlt]), own_set ho _, by (repeat (first | exact Below.refl _ _ | assumption | refine below_drewN ?_ _ | refine Below.drew ?_ | refine Below.alloc ?_ (by first | exact Nat.le_refl _ | (simp; done) | (simp; omega)) _ | refine Below.setCell ?_ (by first | exact Nat.le_refl _ | (simp; done) | (simp; omega)) _))⟩
      case measure => simp [intOf]; omega
    · go_wp2
      go_ret
      obtain rfl : k = rs.length := by omega
      have := Upto.all (ys := rs.map fl) (by simpa using hu)
      subst this
      exact ⟨⟨_, rfl, ho⟩, hb⟩

/-- the widening, in whatever world -/
theorem widen_run (x : Nat) (W : World) : (convert 29 68 (.float .f32 x)).run Try.prog W = .ok (.float .f64 (cvbits W .f32 .f64 x)) (W.drewN (cvcnt .f32 .f64 x)) :=
  run_convert_ff W _ _ .f32 .f64 x (by rw [Try.underlying29]; rfl) Try.underlying68

theorem cns_at {rs ss : List Nat} (h : cns rs = cns ss) {k : Nat} (h1 : k < rs.length) (h2 : k < ss.length) : cn .f32 rs[k] = cn .f32 ss[k] := by
  have := congrArg (fun l => l[k]?) h
  simpa [h1, h2] using this
set_option maxRecDepth 100000 in
set_option maxHeartbeats 4000000 in
theorem eqF_any (A B : Option Addr) (c d : Nat) (rs ss : List Nat) (w : World) (h : Rd w A (rs.map fl)) (h' : Rd w B (ss.map fl)) (hn : rs.length ≤ maxLen) (he : cns rs = cns ss) :
    Calls Try.prog 38 #[.slice A rs.length c, .slice B ss.length d] w fun e w' => e = .returned (.bool true) ∧ ∃ n, w' = w.drewN n := by
  have hl : rs.length = ss.length := by simpa using congrArg List.length he
  have HE := Lib.hid he
  unfold maxLen at hn
  rw [← hl]
  have HL := Lib.hid hl
  clear he hl
  go_enter Try.func38, Try.ntmps38
  go_wp2
  go_loopw [5] (fun i wr => ∃ (k : Nat), k ≤ rs.length ∧ i = .int .i64 k ∧ ∃ n, wr = w.drewN n) (fun i _ => rs.length - (intOf i).toNat)
  case atStart => exact ⟨0, Nat.zero_le _, rfl, 0, rfl⟩
  case round =>
    obtain ⟨k, hk, rfl, n, rfl⟩ := hrel
    by_cases hlt : k < rs.length
    · obtain ⟨b, off, rfl, hbw, hc⟩ := rf_at h hlt
      obtain ⟨b', off', rfl, hbw', hc'⟩ := rf_at h' (by rw [← HL.out]; exact hlt)
      have hlt' : k < ss.length := by rw [← HL.out]; exact hlt
      have HK := Lib.hid (cns_at HE.out hlt hlt')
      have w1 := widen_run rs[k]
      have w2 := widen_run ss[k]
      go_wp2_with fail
      go_region_with (go_at_call 67; refine (sameFloat_any _ _ (by rw [cn_widened, cn_widened, HK.out]) _).mono ?_; rintro e w1 ⟨rfl, n1, rfl⟩)
      all_goals go_wp2
      all_goals go_roundw
      all_goals first | exact ⟨k + 1, by omega, by go_num, _, rfl⟩ | (simp [intOf]; omega)
    · go_wp2
      go_ret
      exact ⟨rfl, n, rfl⟩

theorem notNaN_int (k : FloatKind) (n : Int) : isN k (floatOfInt k n) = false := by
  unfold isN floatOfInt FloatKind.nearest FloatKind.encode; exact read_write_not _ rfl
abbrev marksF (k0 : Int) (n : Nat) : List Value := (List.range n).map fun (j : Nat) => fl (floatOfInt .f32 (k0 + j))
theorem marksF_at (k0 : Int) {n k : Nat} (h : k < n) : (marksF k0 n)[k]? = some (fl (floatOfInt .f32 (k0 + k))) := by simp [h]

theorem markF_any (A : Option Addr) (c n : Nat) (k0 : Int) (hn : n ≤ 1099511627776) (hk0 : 0 ≤ k0) (hk1 : k0 ≤ 1099511627776) (xs : List Value) (base : Nat) (w : World) (h : w.ownsRow base 29 1 (.slice A n c) n xs) :
    Calls Try.prog 48 #[.slice A n c, .int .i64 k0] w fun e w' => e = .returned (.int .i64 (k0 + n)) ∧ w'.ownsRow base 29 1 (.slice A n c) n (marksF k0 n) ∧ w.grownBy w' (Value.slice A n c).ownBlock := by
  have hlen := h.1
  go_enter Try.func48, Try.ntmps48
  go_wp2
  go_loopw [1, 5] (fun q i wr => ∃ (k : Nat) (ys : List Value), k ≤ n ∧ i = .int .i64 k ∧ q = .int .i64 (k0 + k) ∧ Upto k ys (marksF k0 n) ∧ wr.ownsRow base 29 1 (.slice A n c) n ys ∧ w.grownBy wr (Value.slice A n c).ownBlock) (fun _ i _ => n - (intOf i).toNat)
  case atStart => exact ⟨0, xs, Nat.zero_le _, rfl, by simp, Upto.zero (by simpa using hlen), h, grown_refl _ _⟩
  case round =>
    obtain ⟨k, ys, hk, rfl, rfl, hu, ho, hg⟩ := hrel
    clear hlen
    by_cases hlt : k < n
    · obtain ⟨g, rfl, hb, hgs⟩ := own_at ho (by omega)
      have hf := own_frozen ho k
      have hl : k < ys.length := by have := hu.1; simp at this; omega
      have hcell : ∃ u, wr.cell? ⟨g, k, none⟩ = some u := ⟨_, own_cell ho (List.getElem?_eq_getElem hl)⟩
      obtain ⟨u0, hcell⟩ := hcell
      go_wp2
      go_roundw
      case rel => exact ⟨k + 1, _, by omega, by go_num, by go_num, hu.step (marksF_at k0 hlt), own_set ho _, grown_set (p := ⟨g, k, none⟩) hg (.inl rfl) _⟩
      case measure => simp [intOf]; omega
    · go_wp2
      go_ret
      obtain rfl : k = n := by omega
      have := Upto.all (ys := marksF k0 k) (by simpa using hu)
      subst this
      exact ⟨rfl, ho, hg⟩
theorem heldF_any (A : Option Addr) (c n : Nat) (k0 : Int) (hn : n ≤ 1099511627776) (hk0 : 0 ≤ k0) (hk1 : k0 ≤ 1099511627776) (w : World) (h : Rd w A (marksF k0 n)) :
    Calls Try.prog 49 #[.slice A n c, .int .i64 k0] w fun e w' => e = .returned (.int .i64 (k0 + n)) ∧ w = w' := by
  go_enter Try.func49, Try.ntmps49
  go_wp2
  go_loop [1, 5] (fun q i => ∃ (k : Nat), k ≤ n ∧ i = .int .i64 k ∧ q = .int .i64 (k0 + k)) (fun _ i => n - (intOf i).toNat)
  case atStart => exact ⟨0, Nat.zero_le _, rfl, by simp⟩
  case round =>
    obtain ⟨k, hk, rfl, rfl⟩ := hrel
    by_cases hlt : k < n
    · obtain ⟨b, off, rfl, hbw, hc⟩ : ∃ b off, A = some ⟨b, off, none⟩ ∧ b < w.heap.size ∧ w.cell? ⟨b, off + k, none⟩ = some (fl (floatOfInt .f32 (k0 + k))) := by
        rcases h with h | ⟨b, off, hA, hb, hc⟩
        · have := congrArg List.length h; simp at this; omega
        · exact ⟨b, off, hA, hb, hc k _ (marksF_at k0 hlt)⟩
      have hs := feq_self (notNaN_int .f32 (k0 + k))
      go_wp2
      go_round
      case rel => exact ⟨k + 1, by omega, by go_num, by go_num⟩
      case measure => simp [intOf]; omega
    · go_wp2
      go_ret
      obtain rfl : k = n := by omega
      exact ⟨rfl, rfl⟩

end Go.Proofs.Ytiddaabodkglmaa
end
section
namespace Go.Proofs.Ytiddaabodkglmaa
open Go.RowKit Go.Fx
set_option linter.unusedVariables false
set_option linter.unusedSimpArgs false

/-! whole numbers -/
abbrev OI (w : World) (base : Nat) (v : Value) (rs : List Int) : Prop := w.ownsRow base 3 1 v rs.length (rs.map it)

theorem toI_any (A : Option Addr) (c : Nat) (rs : List Int) (w : World) (h : Rd w A (rs.map it)) (hn : rs.length ≤ 1048576) :
    Calls Try.prog 69 #[.slice A rs.length c] w fun e w' => (∃ v, e = .returned v ∧ OI w' w.heap.size v rs) ∧ Ext w w' := by
  obtain ⟨i0, hi, hz0, hz1, hz2⟩ := info_parts info_int
  go_enter Try.func69, Try.ntmps69
  go_wp2_with (at_make; refine wpList_make_full _ rfl _ _ 69 rfl w.heap.size 3 i0 _ 1 Try.underlying69 hi hz0 hz1 _ _ _ _ rs.length rfl rfl rfl rfl (by rw [hz2]; omega) (by unfold maxLen; omega) (Nat.le_refl _) ?_; intro w1 hown hg)
  have hb1 := grown_none hg
  have hlen := hown.1
  go_loopw [4] (fun i wr => ∃ (k : Nat) (xs : List Value), k ≤ rs.length ∧ i = .int .i64 k ∧ Upto k xs (rs.map it) ∧ wr.ownsRow w.heap.size 3 1 (.slice (some ⟨w.heap.size, 0, none⟩) rs.length rs.length) rs.length xs ∧ Ext w wr) (fun i _ => rs.length - (intOf i).toNat)
  case atStart => exact ⟨0, _, Nat.zero_le _, rfl, Upto.zero (by simpa using hlen), hown, hb1⟩
  case round =>
    obtain ⟨k, xs, hk, rfl, hu, ho, hb⟩ := hrel
    clear hlen
    by_cases hlt : k < rs.length
    · obtain ⟨b, off, rfl, hbw, hc⟩ := ri_at (h.ext hb) hlt
      have hf := own_frozen ho k
      have hl : k < xs.length := by have := hu.1; simp at this; omega
      have hcell : ∃ u, wr.cell? ⟨w.heap.size, k, none⟩ = some u := ⟨_, own_cell ho (List.getElem?_eq_getElem hl)⟩
      obtain ⟨u0, hcell⟩ := hcell
      go_wp2
      go_roundw
      case rel => exact ⟨k + 1, _, by omega, by go_num, hu.step (by simp [hlt]), own_set ho _, by (repeat (first | exact Below.refl _ _ | assumption | refine below_drewN ?_ _ | refine Below.drew ?_ | refine Below.alloc ?_ (by first | exact Nat.le_refl _ | (simp; done) | (simp; omega)) _ | refine Below.setCell ?_ (by first | exact Nat.le_refl _ | (simp; done) | (simp; omega)) _))⟩
      case measure => simp [intOf]; omega
    · go_wp2
      go_ret
      obtain rfl : k = rs.length := by omega
      have := Upto.all (ys := rs.map it) (by simpa using hu)
      subst this
      exact ⟨⟨_, rfl, ho⟩, hb⟩

theorem eqI_any (A B : Option Addr) (c d : Nat) (rs : List Int) (w : World) (h : Rd w A (rs.map it)) (h' : Rd w B (rs.map it)) (hn : rs.length ≤ maxLen) :
    Calls Try.prog 72 #[.slice A rs.length c, .slice B rs.length d] w fun e w' => e = .returned (.bool true) ∧ ∃ n, w' = w.drewN n := by
  unfold maxLen at hn
  go_enter Try.func72, Try.ntmps72
  go_wp2
  go_loopw [5] (fun i wr => ∃ (k : Nat), k ≤ rs.length ∧ i = .int .i64 k ∧ ∃ n, wr = w.drewN n) (fun i _ => rs.length - (intOf i).toNat)
  case atStart => exact ⟨0, Nat.zero_le _, rfl, 0, rfl⟩
  case round =>
    obtain ⟨k, hk, rfl, n, rfl⟩ := hrel
    by_cases hlt : k < rs.length
    · obtain ⟨b, off, rfl, hbw, hc⟩ := ri_at h hlt
      obtain ⟨b', off', rfl, hbw', hc'⟩ := ri_at h' hlt
      go_wp2_with fail
      go_quiet (fail)
      go_wp2
      go_roundw
      case rel => exact ⟨k + 1, by omega, by go_num, _, rfl⟩
      case measure => simp [intOf]; omega
    · go_wp2
      go_ret
      exact ⟨rfl, n, rfl⟩
abbrev marksI (k0 : Int) (n : Nat) : List Value := (List.range n).map fun (j : Nat) => it (k0 + j)
theorem marksI_at (k0 : Int) {n k : Nat} (h : k < n) : (marksI k0 n)[k]? = some (it (k0 + k)) := by simp [h]

theorem markI_any (A : Option Addr) (c n : Nat) (k0 : Int) (hn : n ≤ 1099511627776) (hk0 : 0 ≤ k0) (hk1 : k0 ≤ 1099511627776) (xs : List Value) (base : Nat) (w : World) (h : w.ownsRow base 3 1 (.slice A n c) n xs) :
    Calls Try.prog 73 #[.slice A n c, .int .i64 k0] w fun e w' => e = .returned (.int .i64 (k0 + n)) ∧ w'.ownsRow base 3 1 (.slice A n c) n (marksI k0 n) ∧ w.grownBy w' (Value.slice A n c).ownBlock := by
  have hlen := h.1
  go_enter Try.func73, Try.ntmps73
  go_wp2
  go_loopw [1, 5] (fun q i wr => ∃ (k : Nat) (ys : List Value), k ≤ n ∧ i = .int .i64 k ∧ q = .int .i64 (k0 + k) ∧ Upto k ys (marksI k0 n) ∧ wr.ownsRow base 3 1 (.slice A n c) n ys ∧ w.grownBy wr (Value.slice A n c).ownBlock) (fun _ i _ => n - (intOf i).toNat)
  case atStart => exact ⟨0, xs, Nat.zero_le _, rfl, by simp, Upto.zero (by simpa using hlen), h, grown_refl _ _⟩
  case round =>
    obtain ⟨k, ys, hk, rfl, rfl, hu, ho, hg⟩ := hrel
    clear hlen
    by_cases hlt : k < n
    · obtain ⟨g, rfl, hb, hgs⟩ := own_at ho (by omega)
      have hf := own_frozen ho k
      have hl : k < ys.length := by have := hu.1; simp at this; omega
      have hcell : ∃ u, wr.cell? ⟨g, k, none⟩ = some u := ⟨_, own_cell ho (List.getElem?_eq_getElem hl)⟩
      obtain ⟨u0, hcell⟩ := hcell
      go_wp2
      go_roundw
      case rel => exact ⟨k + 1, _, by omega, by go_num, by go_num, hu.step (marksI_at k0 hlt), own_set ho _, grown_set (p := ⟨g, k, none⟩) hg (.inl rfl) _⟩
      case measure => simp [intOf]; omega
    · go_wp2
      go_ret
      obtain rfl : k = n := by omega
      have := Upto.all (ys := marksI k0 k) (by simpa using hu)
      subst this
      exact ⟨rfl, ho, hg⟩
theorem heldI_any (A : Option Addr) (c n : Nat) (k0 : Int) (hn : n ≤ 1099511627776) (hk0 : 0 ≤ k0) (hk1 : k0 ≤ 1099511627776) (w : World) (h : Rd w A (marksI k0 n)) :
    Calls Try.prog 93 #[.slice A n c, .int .i64 k0] w fun e w' => e = .returned (.int .i64 (k0 + n)) ∧ w = w' := by
  go_enter Try.func93, Try.ntmps93
  go_wp2
  go_loop [1, 5] (fun q i => ∃ (k : Nat), k ≤ n ∧ i = .int .i64 k ∧ q = .int .i64 (k0 + k)) (fun _ i => n - (intOf i).toNat)
  case atStart => exact ⟨0, Nat.zero_le _, rfl, by simp⟩
  case round =>
    obtain ⟨k, hk, rfl, rfl⟩ := hrel
    by_cases hlt : k < n
    · obtain ⟨b, off, rfl, hbw, hc⟩ : ∃ b off, A = some ⟨b, off, none⟩ ∧ b < w.heap.size ∧ w.cell? ⟨b, off + k, none⟩ = some (it (k0 + k)) := by
        rcases h with h | ⟨b, off, hA, hb, hc⟩
        · have := congrArg List.length h; simp at this; omega
        · exact ⟨b, off, hA, hb, hc k _ (marksI_at k0 hlt)⟩
      go_wp2
      go_round
      case rel => exact ⟨k + 1, by omega, by go_num, by go_num⟩
      case measure => simp [intOf]; omega
    · go_wp2
      go_ret
      obtain rfl : k = n := by omega
      exact ⟨rfl, rfl⟩

/-! runs: a place and a length -/
abbrev rcells (rs : List (Int × Int)) : List Value := cells2 (fun r => it r.1) (fun r => it r.2) rs
theorem rr_at {w : World} {A : Option Addr} {cs : List (Int × Int)} (h : Rd w A (rcells cs)) {i : Nat} (hi : i < cs.length) :
    ∃ b off, A = some ⟨b, off, none⟩ ∧ b < w.heap.size ∧ w.cell? ⟨b, off + i * 2, none⟩ = some (.int .i64 cs[i].1) ∧ w.cell? ⟨b, off + i * 2 + 1, none⟩ = some (.int .i64 cs[i].2) := by
  rcases h with h | ⟨b, off, hA, hb, hc⟩
  · have h2 : (rcells cs).length = cs.length * 2 := cells2_len _ _ _
    rw [h] at h2; simp at h2; omega
  · obtain ⟨h1, h2⟩ := cells2_at (fun (r : Int × Int) => it r.1) (fun r => it r.2) cs hi
    exact ⟨b, off, hA, hb, hc _ _ h1, by have := hc _ _ h2; rwa [← Nat.add_assoc] at this⟩
theorem eqR_any (A B : Option Addr) (c d : Nat) (rs : List (Int × Int)) (w : World) (h : Rd w A (rcells rs)) (h' : Rd w B (rcells rs)) (hn : rs.length ≤ maxLen) :
    Calls Try.prog 62 #[.slice A rs.length c, .slice B rs.length d] w fun e w' => e = .returned (.bool true) ∧ Ext w w' := by
  unfold maxLen at hn
  go_enter Try.func62, Try.ntmps62
  go_wp2
  go_loopw [5] (fun i wr => ∃ (k : Nat), k ≤ rs.length ∧ i = .int .i64 k ∧ Ext w wr) (fun i _ => rs.length - (intOf i).toNat)
  case atStart => exact ⟨0, Nat.zero_le _, rfl, Ext.refl _⟩
  case round =>
    obtain ⟨k, hk, rfl, hb⟩ := hrel
    by_cases hlt : k < rs.length
    · obtain ⟨b, off, rfl, hbw, hc, hc1⟩ := rr_at (h.ext hb) hlt
      obtain ⟨b', off', rfl, hbw', hc', hc1'⟩ := rr_at (h'.ext hb) hlt
      go_wp2_with fail
      go_region_with (go_at_call 157; refine (eqRun_any _ _ _).mono ?_; rintro e w1 ⟨rfl, hb1⟩)
      all_goals go_wp2
      all_goals go_roundw
      all_goals first | exact ⟨k + 1, by omega, by go_num, Ext.step hb ⟨_, rfl⟩ hb1⟩ | (simp [intOf]; omega)
    · go_wp2
      go_ret
      exact ⟨rfl, hb⟩
abbrev marks2 (f g : Int → Value) (k0 : Int) (n : Nat) : List Value := cells2 (fun (j : Nat) => f (k0 + 2 * j)) (fun (j : Nat) => g (k0 + 2 * j + 1)) (List.range n)
theorem marks2_len (f g : Int → Value) (k0 : Int) (n : Nat) : (marks2 f g k0 n).length = n * 2 := by rw [cells2_len]; simp
theorem marks2_at (f g : Int → Value) (k0 : Int) {n k : Nat} (h : k < n) : (marks2 f g k0 n)[k * 2]? = some (f (k0 + 2 * k)) ∧ (marks2 f g k0 n)[k * 2 + 1]? = some (g (k0 + 2 * k + 1)) := by
  obtain ⟨h1, h2⟩ := cells2_at (fun (j : Nat) => f (k0 + 2 * j)) (fun (j : Nat) => g (k0 + 2 * j + 1)) (List.range n) (i := k) (by simpa using h)
  simp only [List.getElem_range] at h1 h2
  exact ⟨h1, h2⟩
theorem marks2_read {w : World} {A : Option Addr} {f g : Int → Value} {k0 : Int} {n k : Nat} (h : Rd w A (marks2 f g k0 n)) (hlt : k < n) : ∃ b off, A = some ⟨b, off, none⟩ ∧ b < w.heap.size ∧ w.cell? ⟨b, off + k * 2, none⟩ = some (f (k0 + 2 * k)) ∧ w.cell? ⟨b, off + k * 2 + 1, none⟩ = some (g (k0 + 2 * k + 1)) := by
  rcases h with h | ⟨b, off, hA, hb, hc⟩
  · have := congrArg List.length h; rw [marks2_len] at this; simp at this; omega
  · obtain ⟨h1, h2⟩ := marks2_at f g k0 hlt
    exact ⟨b, off, hA, hb, hc _ _ h1, by have := hc _ _ h2; rwa [← Nat.add_assoc] at this⟩

theorem markR_any (A : Option Addr) (c n : Nat) (k0 : Int) (hn : n ≤ 1099511627776) (hk0 : 0 ≤ k0) (hk1 : k0 ≤ 1099511627776) (xs : List Value) (base : Nat) (w : World) (h : w.ownsRow base 105 2 (.slice A n c) n xs) :
    Calls Try.prog 63 #[.slice A n c, .int .i64 k0] w fun e w' => e = .returned (.int .i64 (k0 + 2 * n)) ∧ w'.ownsRow base 105 2 (.slice A n c) n (marks2 it it k0 n) ∧ w.grownBy w' (Value.slice A n c).ownBlock := by
  have hlen := h.1
  go_enter Try.func63, Try.ntmps63
  go_wp2
  go_loopw [1, 5] (fun q i wr => ∃ (k : Nat) (ys : List Value), k ≤ n ∧ i = .int .i64 k ∧ q = .int .i64 (k0 + 2 * k) ∧ Upto (k * 2) ys (marks2 it it k0 n) ∧ wr.ownsRow base 105 2 (.slice A n c) n ys ∧ w.grownBy wr (Value.slice A n c).ownBlock) (fun _ i _ => n - (intOf i).toNat)
  case atStart => exact ⟨0, xs, Nat.zero_le _, rfl, by simp, Upto.zero (by rw [marks2_len]; exact hlen), h, grown_refl _ _⟩
  case round =>
    obtain ⟨k, ys, hk, rfl, rfl, hu, ho, hg⟩ := hrel
    clear hlen
    by_cases hlt : k < n
    · obtain ⟨g, rfl, hb, hgs⟩ := own_at ho (by omega)
      obtain ⟨m1, m2⟩ := marks2_at it it k0 hlt
      have hf := own_frozen ho (k * 2)
      have hf1 := own_frozen ho (k * 2 + 1)
      have hl : k * 2 + 1 < ys.length := by have := hu.1; rw [marks2_len] at this; omega
      have hcell : ∃ u, wr.cell? ⟨g, k * 2, none⟩ = some u := ⟨_, own_cell ho (List.getElem?_eq_getElem (by omega))⟩
      have hcell1 : ∃ u, wr.cell? ⟨g, k * 2 + 1, none⟩ = some u := ⟨_, own_cell ho (List.getElem?_eq_getElem hl)⟩
      obtain ⟨u0, hcell⟩ := hcell
      obtain ⟨u1, hcell1⟩ := hcell1
      have M1 := Lib.hid m1
      have M2 := Lib.hid m2
      clear m1 m2
      go_wp2
      go_roundw
      case rel => exact ⟨k + 1, _, by omega, by go_num, by go_num, by rw [Nat.add_mul]; exact (hu.step M1.out).step (by rw [M2.out]), own_set (own_set ho _) _, grown_set (p := ⟨g, k * 2 + 1, none⟩) (grown_set (p := ⟨g, k * 2, none⟩) hg (.inl rfl) _) (.inl rfl) _⟩
      case measure => simp [intOf]; omega
    · go_wp2
      go_ret
      obtain rfl : k = n := by omega
      have := Upto.all (ys := marks2 it it k0 k) (by rw [marks2_len]; exact hu)
      subst this
      exact ⟨rfl, ho, hg⟩
theorem heldR_any (A : Option Addr) (c n : Nat) (k0 : Int) (hn : n ≤ 1099511627776) (hk0 : 0 ≤ k0) (hk1 : k0 ≤ 1099511627776) (w : World) (h : Rd w A (marks2 it it k0 n)) :
    Calls Try.prog 64 #[.slice A n c, .int .i64 k0] w fun e w' => e = .returned (.int .i64 (k0 + 2 * n)) ∧ w = w' := by
  go_enter Try.func64, Try.ntmps64
  go_wp2
  go_loop [1, 5] (fun q i => ∃ (k : Nat), k ≤ n ∧ i = .int .i64 k ∧ q = .int .i64 (k0 + 2 * k)) (fun _ i => n - (intOf i).toNat)
  case atStart => exact ⟨0, Nat.zero_le _, rfl, by simp⟩
  case round =>
    obtain ⟨k, hk, rfl, rfl⟩ := hrel
    by_cases hlt : k < n
    · obtain ⟨b, off, rfl, hbw, hc, hc1⟩ := marks2_read h hlt
      go_wp2
      go_round
      case rel => exact ⟨k + 1, by omega, by go_num, by go_num⟩
      case measure => simp [intOf]; omega
    · go_wp2
      go_ret
      obtain rfl : k = n := by omega
      exact ⟨rfl, rfl⟩
end Go.Proofs.Ytiddaabodkglmaa
end
section
namespace Go.Proofs.Ytiddaabodkglmaa
open Go.RowKit Go.Fx
set_option linter.unusedVariables false
set_option linter.unusedSimpArgs false

theorem neg_1024 : Op.negFloat .f32 1149239296 = 3296722944 := by decide
theorem sFine_any (A : Option Addr) (c : Nat) (rs : List Nat) (w : World) (h : Rd w A (rs.map fl)) (hn : rs.length ≤ maxLen) :
    Calls Try.prog 136 #[.slice A rs.length c] w fun e w' => e = .returned (.bool (fine rs)) ∧ w = w' := by
  unfold maxLen at hn
  go_enter Try.func136, Try.ntmps136
  go_wp2
  go_loop [3] (fun i => ∃ (k : Nat), k ≤ rs.length ∧ i = .int .i64 k ∧ Hid ((rs.take k).all (fun x => within32 x 1149239296) = true)) (fun i => rs.length - (intOf i).toNat)
  case atStart => exact ⟨0, Nat.zero_le _, rfl, Lib.hid (by simp)⟩
  case round =>
    obtain ⟨k, hk, rfl, H⟩ := hrel
    by_cases hlt : k < rs.length
    · obtain ⟨b, off, rfl, hbw, hc⟩ := rf_at h hlt
      by_cases hp : within32 rs[k] 1149239296 = true
      · have H' := Lib.hid (all_take_step (fun x => within32 x 1149239296) hlt H.out hp)
        simp only [within32, neg_1024, Bool.and_eq_true] at hp
        obtain ⟨h1, h2⟩ := hp
        go_wp2
        go_round
        case rel => exact ⟨k + 1, by omega, by go_num, H'⟩
        case measure => simp [intOf]; omega
      · have hp' : within32 rs[k] 1149239296 = false := by simpa using hp
        have H' := Lib.hid (all_not (fun x => within32 x 1149239296) hlt hp')
        simp only [within32, neg_1024] at hp'
        clear hp
        by_cases h1 : fge .f32 rs[k] 3296722944 = true
        · have h2 : fle .f32 rs[k] 1149239296 = false := by simpa [h1] using hp'
          clear hp'
          go_wp2
          go_ret
          exact ⟨by rw [fine, H'.out]; rfl, rfl⟩
        · have h2 : fge .f32 rs[k] 3296722944 = false := by simpa using h1
          clear hp' h1
          go_wp2
          go_ret
          exact ⟨by rw [fine, H'.out]; rfl, rfl⟩
    · go_wp2
      go_ret
      obtain rfl : k = rs.length := by omega
      have := H.out
      rw [List.take_length] at this
      exact ⟨by rw [fine, this]; rfl, rfl⟩
theorem sSamplesOk_any (A : Option Addr) (c : Nat) (rs : List Nat) (w : World) (h : Rd w A (rs.map fl)) (hn : rs.length ≤ maxLen) :
    Calls Try.prog 35 #[.slice A rs.length c] w fun e w' => e = .returned (.bool (samplesOk rs)) ∧ w = w' := by
  have hn' := hn
  unfold maxLen at hn'
  have H := Lib.hid h
  clear h
  go_enter Try.func35, Try.ntmps35
  go_wp2_with (first | (go_at_call 135; refine (sIn_any _ _ _ _).mono ?_; rintro e w1 ⟨rfl, rfl⟩) | (go_at_call 136; refine (sFine_any _ _ _ _ H.out hn).mono ?_; rintro e w1 ⟨rfl, rfl⟩))
  all_goals go_ret
  all_goals refine ⟨?_, rfl⟩
  all_goals first | (simp_all [samplesOk]; done) | (simp_all [samplesOk]; omega)
theorem bounded1_any (x : Nat) (w : World) : Calls Try.prog 218 #[.float .f32 x] w fun e w' => e = .returned (.bool (!within32 x 1149239296)) ∧ w = w' := by
  go_enter Try.func218, Try.ntmps218
  go_wp2_with (first | (go_at_call 153; refine (amount_any _ _).mono ?_; rintro e w1 ⟨⟨b, rfl, hb⟩, rfl⟩; replace hb := fun c => (fle_amt (c := c) hb)))
  all_goals go_ret
  refine ⟨?_, rfl⟩
  simp_all [amt_1024]
theorem indexF_any (A : Option Addr) (c : Nat) (rs : List Nat) (w : World) (h : Rd w A (rs.map fl)) (hn : rs.length ≤ maxLen) :
    Calls Try.prog 239 #[.slice A rs.length c, .func (.func 218) #[] #[]] w fun e w' => (∃ k : Int, e = .returned (.int .i64 k) ∧ decide (0 ≤ k) = !(fine rs)) ∧ w = w' := by
  unfold maxLen at hn
  go_enter Try.func239, Try.ntmps239
  go_wp2
  go_loop [8] (fun i => ∃ (k : Nat), k ≤ rs.length ∧ i = .int .i64 k ∧ Hid ((rs.take k).all (fun x => within32 x 1149239296) = true)) (fun i => rs.length - (intOf i).toNat)
  case atStart => exact ⟨0, Nat.zero_le _, rfl, Lib.hid (by simp)⟩
  case round =>
    obtain ⟨k, hk, rfl, H⟩ := hrel
    by_cases hlt : k < rs.length
    · obtain ⟨b, off, rfl, hbw, hc⟩ := rf_at h hlt
      by_cases hp : within32 rs[k] 1149239296 = true
      · have H' := Lib.hid (all_take_step (fun x => within32 x 1149239296) hlt H.out hp)
        go_wp2_with (first | (go_at_call 218; refine (bounded1_any _ _).mono ?_; rintro e w1 ⟨rfl, rfl⟩))
        go_round
        case rel => exact ⟨k + 1, by omega, by go_num, H'⟩
        case measure => simp [intOf]; omega
      · have hp' : within32 rs[k] 1149239296 = false := by simpa using hp
        have H' := Lib.hid (all_not (fun x => within32 x 1149239296) hlt hp')
        clear hp
        go_wp2_with (first | (go_at_call 218; refine (bounded1_any _ _).mono ?_; rintro e w1 ⟨rfl, rfl⟩))
        go_ret
        exact ⟨⟨_, rfl, by rw [fine, H'.out]; simp⟩, rfl⟩
    · go_wp2
      go_ret
      obtain rfl : k = rs.length := by omega
      have := H.out
      rw [List.take_length] at this
      exact ⟨⟨_, rfl, by rw [fine, this]; rfl⟩, rfl⟩
theorem bounded_any (A : Option Addr) (c : Nat) (rs : List Nat) (w : World) (h : Rd w A (rs.map fl)) (hn : rs.length ≤ maxLen) :
    Calls Try.prog 138 #[.slice A rs.length c] w fun e w' => e = .returned (.bool (fine rs)) ∧ w = w' := by
  have H := Lib.hid h
  have HN := Lib.hid hn
  clear h hn
  go_enter Try.func138, Try.ntmps138
  go_wp2_with fail
  go_enter Try.func217, Try.ntmps217
  go_wp2_with (first | (go_at_call 239; refine (indexF_any _ _ _ _ H.out HN.out).mono ?_; rintro e w1 ⟨⟨k, rfl, hk⟩, rfl⟩))
  go_ret
  refine ⟨?_, rfl⟩
  simp_all
theorem iSamplesOk_any (A : Option Addr) (c : Nat) (rs : List Nat) (w : World) (h : Rd w A (rs.map fl)) (hn : rs.length ≤ maxLen) :
    Calls Try.prog 37 #[.slice A rs.length c] w fun e w' => e = .returned (.bool (samplesOk rs)) ∧ w = w' := by
  have hn' := hn
  unfold maxLen at hn'
  have H := Lib.hid h
  clear h
  go_enter Try.func37, Try.ntmps37
  go_wp2_with (first | (go_at_call 137; refine (within_any _ _ _ _).mono ?_; rintro e w1 ⟨rfl, rfl⟩) | (go_at_call 138; refine (bounded_any _ _ _ _ H.out hn).mono ?_; rintro e w1 ⟨rfl, rfl⟩))
  all_goals go_ret
  all_goals refine ⟨?_, rfl⟩
  all_goals first | (simp_all [samplesOk]; done) | (simp_all [samplesOk]; omega)
end Go.Proofs.Ytiddaabodkglmaa
end
section
namespace Go.Proofs.Ytiddaabodkglmaa
open Go.RowKit Go.Fx
set_option linter.unusedVariables false
set_option linter.unusedSimpArgs false

@[go_sem] theorem eql_nil_f32 (w : World) (a : Option Addr) (n c : Nat) : (binOp .eql 22 (.slice a n c) (.slice none 0 0)).run Try.prog w = .ok (.bool a.isNone) w := Lib.run_eql_slice_nil w _ _ a n c 0 0 Try.underlying22

set_option maxRecDepth 100000 in
theorem cloneF_any (A : Option Addr) (c : Nat) (rs : List Nat) (w : World) (h : Rd w A (rs.map fl)) (hA : A = none → rs.length = 0) (hn : rs.length ≤ 1048576) :
    Calls Try.prog 148 #[.slice A rs.length c] w fun e w' => (∃ v, e = .returned v ∧ OF w' w.heap.size v rs) ∧ Ext w w' := by
  cases A with
  | none =>
    have h0 := List.eq_nil_of_length_eq_zero (hA rfl)
    subst h0
    go_enter Try.func148, Try.ntmps148
    go_wp2
    go_ret
    exact ⟨⟨_, rfl, World.ownsRow_nil _ _ _ _⟩, Ext.refl _⟩
  | some ad =>
    go_enter Try.func148, Try.ntmps148
    go_wp2_with (at_builtin; refine wpList_app rfl _ _ 22 rfl w.heap.size 29 _ 1 4 Try.underlying22 info_f32 rfl (by omega) (.slice (some ⟨w.heap.size, 0, none⟩) 0 0) 0 [] rfl (own_new w _ _ 1 (Nat.le_refl _)) (some ad) rs.length c (rs.map fl) rfl (h.ext (by (repeat (first | exact Below.refl _ _ | assumption | refine below_drewN ?_ _ | refine Below.drew ?_ | refine Below.alloc ?_ (by first | exact Nat.le_refl _ | (simp; done) | (simp; omega)) _ | refine Below.setCell ?_ (by first | exact Nat.le_refl _ | (simp; done) | (simp; omega)) _)))) (by simp) (fun h => by cases h) oneCell_fl (by unfold maxLen; omega) (by omega) (by simp) ?_; intro v1 w1 hown hg hat)
    go_ret
    refine ⟨⟨_, rfl, by simpa using hown⟩, ext_grow (E := 29) (size := 1) (base := w.heap.size) (by (repeat (first | exact Below.refl _ _ | assumption | refine below_drewN ?_ _ | refine Below.drew ?_ | refine Below.alloc ?_ (by first | exact Nat.le_refl _ | (simp; done) | (simp; omega)) _ | refine Below.setCell ?_ (by first | exact Nat.le_refl _ | (simp; done) | (simp; omega)) _))) (own_new w _ _ 1 (Nat.le_refl _)) (Nat.le_refl _) hg⟩

set_option maxRecDepth 100000 in
theorem sErase_any (A : Option Addr) (c : Nat) (rs : List Nat) (at_ n : Int) (w : World) (h : Rd w A (rs.map fl)) (hA : A = none → rs.length = 0) (hn : rs.length ≤ 1048576) (hat1 : -9223372036854775808 ≤ at_) (hat2 : at_ ≤ 9223372036854775807) :
    Calls Try.prog 46 #[.slice A rs.length c, .int .i64 at_, .int .i64 n] w fun e w' => (∃ v, e = .returned v ∧ OF w' w.heap.size v (erase rs at_ n)) ∧ Ext w w' := by
  by_cases hN : 0 ≤ n ∧ n ≤ 280
  · obtain ⟨hN1, hN2⟩ := hN
    go_enter Try.func46, Try.ntmps46
    go_wp2_with (at_builtin; refine wpList_app rfl _ _ 22 rfl w.heap.size 29 _ 1 4 Try.underlying22 info_f32 rfl (by omega) (.slice (some ⟨w.heap.size, 0, none⟩) 0 0) 0 [] rfl (own_new w _ _ 1 (Nat.le_refl _)) A rs.length c (rs.map fl) rfl (h.ext (by (repeat (first | exact Below.refl _ _ | assumption | refine below_drewN ?_ _ | refine Below.drew ?_ | refine Below.alloc ?_ (by first | exact Nat.le_refl _ | (simp; done) | (simp; omega)) _ | refine Below.setCell ?_ (by first | exact Nat.le_refl _ | (simp; done) | (simp; omega)) _)))) (by simp) (by simpa using hA) oneCell_fl (by unfold maxLen; omega) (by omega) (by simp) ?_; intro v1 w1 hown hg hat)
    have hb1 := ext_grow (E := 29) (size := 1) (base := w.heap.size) (w0 := w) (by (repeat (first | exact Below.refl _ _ | assumption | refine below_drewN ?_ _ | refine Below.drew ?_ | refine Below.alloc ?_ (by first | exact Nat.le_refl _ | (simp; done) | (simp; omega)) _ | refine Below.setCell ?_ (by first | exact Nat.le_refl _ | (simp; done) | (simp; omega)) _))) (own_new w _ _ 1 (Nat.le_refl _)) (Nat.le_refl _) hg
    simp only [Nat.zero_add, List.nil_append] at hown
    clear hg hat
    obtain ⟨A1, c1, rfl, _, _⟩ := own_slice hown
    have HN := Lib.hid (show 0 ≤ n ∧ n ≤ 280 from ⟨hN1, hN2⟩)
    have hls : (((erase rs at_ n).map fl)).length = (rs.map fl).length := by simp [erase_len]
    go_loopw [8] (fun i wr => ∃ (k : Nat) (ys : List Value), k ≤ rs.length ∧ i = .int .i64 k ∧ Mix k ys ((erase rs at_ n).map fl) (rs.map fl) ∧ wr.ownsRow w.heap.size 29 1 (.slice A1 rs.length c1) rs.length ys ∧ Ext w wr) (fun i _ => rs.length - (intOf i).toNat)
    case atStart => exact ⟨0, _, Nat.zero_le _, rfl, Mix.start 0 hls (fun j hj => by omega), hown, hb1⟩
    case round =>
      obtain ⟨k, ys, hk, rfl, hu, ho, hb⟩ := hrel
      clear hls hown
      by_cases hlt : k < rs.length
      · obtain ⟨g, rfl, hbw, hgs⟩ := own_at ho (by omega)
        have hf := own_frozen ho k
        have hl : k < ys.length := by have := hu.len; simp at this; omega
        have hcell : ∃ u, wr.cell? ⟨g, k, none⟩ = some u := ⟨_, own_cell ho (List.getElem?_eq_getElem hl)⟩
        obtain ⟨u0, hcell⟩ := hcell
        have HE := Lib.hid (erase_at (at_ := at_) HN.out hlt)
        by_cases hin : at_ ≤ k ∧ k < at_ + n
        · obtain ⟨hi1, hi2⟩ := hin
          have HE' := HE.out
          rw [if_pos ⟨hi1, hi2⟩] at HE'
          have HM := Lib.hid (hu.set HE')
          clear HE'
          go_wp2_with (first | (go_at_call 135; refine (sIn_any _ _ _ _).mono ?_; rintro e w1 ⟨rfl, rfl⟩))
          go_roundw
          case rel => exact ⟨k + 1, _, by omega, by go_num, HM.out, own_set ho _, by (repeat (first | exact Below.refl _ _ | assumption | refine below_drewN ?_ _ | refine Below.drew ?_ | refine Below.alloc ?_ (by first | exact Nat.le_refl _ | (simp; done) | (simp; omega)) _ | refine Below.setCell ?_ (by first | exact Nat.le_refl _ | (simp; done) | (simp; omega)) _))⟩
          case measure => simp [intOf]; omega
        · have HE' := HE.out
          rw [if_neg hin] at HE'
          have HM := Lib.hid (hu.keep (by rw [HE']; simp [hlt]))
          clear HE'
          by_cases hi1 : at_ ≤ k
          · have hi2 : ¬ (k : Int) < at_ + n := fun h => hin ⟨hi1, h⟩
            clear hin
            go_wp2_with (first | (go_at_call 135; refine (sIn_any _ _ _ _).mono ?_; rintro e w1 ⟨rfl, rfl⟩))
            go_roundw
            case rel => exact ⟨k + 1, _, by omega, by go_num, HM.out, ho, by (repeat (first | exact Below.refl _ _ | assumption | refine below_drewN ?_ _ | refine Below.drew ?_ | refine Below.alloc ?_ (by first | exact Nat.le_refl _ | (simp; done) | (simp; omega)) _ | refine Below.setCell ?_ (by first | exact Nat.le_refl _ | (simp; done) | (simp; omega)) _))⟩
            case measure => simp [intOf]; omega
          · clear hin
            go_wp2_with (first | (go_at_call 135; refine (sIn_any _ _ _ _).mono ?_; rintro e w1 ⟨rfl, rfl⟩))
            go_roundw
            case rel => exact ⟨k + 1, _, by omega, by go_num, HM.out, ho, by (repeat (first | exact Below.refl _ _ | assumption | refine below_drewN ?_ _ | refine Below.drew ?_ | refine Below.alloc ?_ (by first | exact Nat.le_refl _ | (simp; done) | (simp; omega)) _ | refine Below.setCell ?_ (by first | exact Nat.le_refl _ | (simp; done) | (simp; omega)) _))⟩
            case measure => simp [intOf]; omega
      · go_wp2_with (first | (go_at_call 135; refine (sIn_any _ _ _ _).mono ?_; rintro e w1 ⟨rfl, rfl⟩))
        go_ret
        obtain rfl : k = rs.length := by omega
        have hd := hu.done (fun j hj => by rw [List.getElem?_eq_none (by simp [erase_len]; omega), List.getElem?_eq_none (by simp; omega)])
        subst hd
        refine ⟨⟨.slice A1 rs.length c1, rfl, ?_⟩, hb⟩
        unfold OF
        rw [erase_len]
        exact ho
  · rw [erase_none hN]
    have hN' : (decide (0 ≤ n) && decide (n ≤ 280)) = false := by
      rw [← Bool.decide_and]; simpa using hN
    clear hN
    go_enter Try.func46, Try.ntmps46
    go_wp2_with (at_builtin; refine wpList_app rfl _ _ 22 rfl w.heap.size 29 _ 1 4 Try.underlying22 info_f32 rfl (by omega) (.slice (some ⟨w.heap.size, 0, none⟩) 0 0) 0 [] rfl (own_new w _ _ 1 (Nat.le_refl _)) A rs.length c (rs.map fl) rfl (h.ext (by (repeat (first | exact Below.refl _ _ | assumption | refine below_drewN ?_ _ | refine Below.drew ?_ | refine Below.alloc ?_ (by first | exact Nat.le_refl _ | (simp; done) | (simp; omega)) _ | refine Below.setCell ?_ (by first | exact Nat.le_refl _ | (simp; done) | (simp; omega)) _)))) (by simp) (by simpa using hA) oneCell_fl (by unfold maxLen; omega) (by omega) (by simp) ?_; intro v1 w1 hown hg hat)
    have hb1 := ext_grow (E := 29) (size := 1) (base := w.heap.size) (w0 := w) (by (repeat (first | exact Below.refl _ _ | assumption | refine below_drewN ?_ _ | refine Below.drew ?_ | refine Below.alloc ?_ (by first | exact Nat.le_refl _ | (simp; done) | (simp; omega)) _ | refine Below.setCell ?_ (by first | exact Nat.le_refl _ | (simp; done) | (simp; omega)) _))) (own_new w _ _ 1 (Nat.le_refl _)) (Nat.le_refl _) hg
    simp only [Nat.zero_add, List.nil_append] at hown
    clear hg hat
    obtain ⟨A1, c1, rfl, _, _⟩ := own_slice hown
    go_loopw [8] (fun i wr => i = .int .i64 0 ∧ wr.ownsRow w.heap.size 29 1 (.slice A1 rs.length c1) rs.length (rs.map fl) ∧ Ext w wr) (fun i _ => 0)
    case atStart => exact ⟨rfl, hown, hb1⟩
    case round =>
      obtain ⟨rfl, ho, hb⟩ := hrel
      clear hown
      by_cases hz : 0 < rs.length
      · go_wp2_with (first | (go_at_call 135; refine (sIn_any _ _ _ _).mono ?_; rintro e w1 ⟨rfl, rfl⟩))
        go_ret
        exact ⟨⟨_, rfl, ho⟩, hb⟩
      · go_wp2_with fail
        go_ret
        exact ⟨⟨_, rfl, ho⟩, hb⟩
end Go.Proofs.Ytiddaabodkglmaa
end
section
namespace Go.Proofs.Ytiddaabodkglmaa
open Go.RowKit Go.Fx
set_option linter.unusedVariables false
set_option linter.unusedSimpArgs false

theorem iLineOk_any (A : Option Addr) (c : Nat) (rs : List Nat) (w : World) (h : Rd w A (rs.map fl)) (hn : rs.length ≤ maxLen) :
    Calls Try.prog 161 #[.slice A rs.length c] w fun e w' => e = .returned (.bool (lineOk rs)) ∧ w = w' := by
  have hn' := hn
  unfold maxLen at hn'
  have H := Lib.hid h
  clear h
  go_enter Try.func161, Try.ntmps161
  go_wp2_with (first | (go_at_call 138; refine (bounded_any _ _ _ _ H.out hn).mono ?_; rintro e w1 ⟨rfl, rfl⟩))
  all_goals go_ret
  all_goals refine ⟨?_, rfl⟩
  all_goals first | (simp_all [lineOk]; done) | (simp_all [lineOk]; omega)
theorem head_any (w : World) : Calls Try.prog 191 #[] w fun e w' => e = .returned (.int .i64 24) ∧ w = w' := by
  go_enter Try.func191, Try.ntmps191
  go_wp2
  go_ret
  exact ⟨rfl, rfl⟩
theorem sLineOk_any (A : Option Addr) (c : Nat) (rs : List Nat) (w : World) (h : Rd w A (rs.map fl)) (hn : rs.length ≤ maxLen) :
    Calls Try.prog 110 #[.slice A rs.length c] w fun e w' => e = .returned (.bool (lineOk rs)) ∧ w = w' := by
  have hn' := hn
  unfold maxLen at hn'
  have H := Lib.hid h
  clear h
  have d1 : (rs.length : Int) < 24 → ((rs.length : Int) - 24).tdiv 4 ≤ 0 := fun h => by
    have e : ((rs.length : Int) - 24) = -(24 - rs.length : Int) := by omega
    rw [e, Int.neg_tdiv, Int.tdiv_eq_ediv_of_nonneg (by omega)]; omega
  have d2 : 24 ≤ (rs.length : Int) → ((rs.length : Int) - 24).tdiv 4 = ((rs.length : Int) - 24) / 4 := fun h => Int.tdiv_eq_ediv_of_nonneg (by omega)
  have d3 : 24 ≤ (rs.length : Int) → ((rs.length : Int) - 24).tmod 4 = ((rs.length : Int) - 24) % 4 := fun h => Int.tmod_eq_emod_of_nonneg (by omega)
  have D1 := Lib.hid d1
  have D2 := Lib.hid d2
  have D3 := Lib.hid d3
  clear d1 d2 d3
  go_enter Try.func110, Try.ntmps110
  go_wp2_with (first | (go_at_call 191; refine (head_any _).mono ?_; rintro e w1 ⟨rfl, rfl⟩) | (go_at_call 135; refine (sIn_any _ _ _ _).mono ?_; rintro e w1 ⟨rfl, rfl⟩) | (go_at_call 136; refine (sFine_any _ _ _ _ H.out hn).mono ?_; rintro e w1 ⟨rfl, rfl⟩))
  all_goals go_ret
  all_goals refine ⟨?_, rfl⟩
  all_goals (have d1 := D1.out; have d2 := D2.out; have d3 := D3.out)
  all_goals clear hn D1 D2 D3
  all_goals by_cases h24 : (rs.length : Int) < 24
  all_goals first | (have := d1 h24; clear d1 d2 d3) | (have e2 := d2 (by omega); have e3 := d3 (by omega); clear d1 d2 d3; simp only [e2, e3] at *; clear e2 e3)
  all_goals first | (simp_all [lineOk]; done) | (simp_all [lineOk]; omega)

theorem lineOk_len {rs : List Nat} (h : lineOk rs = true) : 28 ≤ rs.length ∧ rs.length ≤ 280 ∧ rs.length % 4 = 0 ∧ fine rs = true := by
  simp [lineOk] at h; exact ⟨h.1.1.1, h.1.1.2, h.1.2, h.2⟩
set_option maxRecDepth 100000 in
theorem iPart_any (A : Option Addr) (c : Nat) (rs : List Nat) (i n : Nat) (w : World) (h : Rd w A (rs.map fl)) (hn : rs.length ≤ maxLen) (hc : rs.length ≤ c) (hn1 : 0 < n) (hcut : lineOk rs = true → i + n ≤ rs.length) :
    Calls Try.prog 190 #[.slice A rs.length c, .int .i64 i, .int .i64 (i + n : Nat)] w fun e w' => (∃ v, e = .returned v ∧ OF w' w.heap.size v (if lineOk rs = true then cutF rs i n else [])) ∧ Ext w w' := by
  have hn' := hn
  unfold maxLen at hn'
  have H := Lib.hid h
  clear h
  by_cases hok : lineOk rs = true
  · rw [if_pos hok]
    have hl := lineOk_len hok
    have hcut := hcut hok
    obtain ⟨l1, l2, l3, l4⟩ := hl
    obtain ⟨b, off, rfl, hb⟩ := rd_some H.out (by intro e; have := List.map_eq_nil_iff.1 e; subst this; simp at l1)
    go_enter Try.func190, Try.ntmps190
    go_wp2_with (first | (go_at_call 161; refine (iLineOk_any _ _ _ _ H.out hn).mono ?_; rintro e w1 ⟨rfl, rfl⟩))
    · have hcl := cloneF_any (some ⟨b, off + i, none⟩) (c - i) (cutF rs i n) w (rd_cut H.out i n) (fun h => by cases h) (by rw [cutF_len hcut]; omega)
      rw [cutF_len hcut] at hcl
      refine hcl.mono ?_
      rintro e w1 ⟨⟨v, rfl, ho⟩, hb⟩
      go_wp2
      go_ret
      exact ⟨⟨_, rfl, ho⟩, hb⟩
  · rw [if_neg hok]
    have hok' : lineOk rs = false := by simpa using hok
    go_enter Try.func190, Try.ntmps190
    go_wp2_with (first | (go_at_call 161; refine (iLineOk_any _ _ _ _ H.out hn).mono ?_; rintro e w1 ⟨rfl, rfl⟩))
    go_ret
    exact ⟨⟨_, rfl, World.ownsRow_nil _ _ _ _⟩, Ext.refl _⟩

set_option maxRecDepth 100000 in
theorem sPart_any (A : Option Addr) (c : Nat) (rs : List Nat) (i n : Nat) (w : World) (h : Rd w A (rs.map fl)) (hn : rs.length ≤ maxLen) (hc : rs.length ≤ c) (hn1 : 0 < n) (hcut : lineOk rs = true → i + n ≤ rs.length) :
    Calls Try.prog 220 #[.slice A rs.length c, .int .i64 i, .int .i64 (i + n : Nat)] w fun e w' => (∃ v, e = .returned v ∧ OF w' w.heap.size v (if lineOk rs = true then cutF rs i n else [])) ∧ Ext w w' := by
  have hn' := hn
  unfold maxLen at hn'
  have H := Lib.hid h
  clear h
  by_cases hok : lineOk rs = true
  · rw [if_pos hok]
    have hl := lineOk_len hok
    have hcut := hcut hok
    obtain ⟨l1, l2, l3, l4⟩ := hl
    obtain ⟨b, off, rfl, hb⟩ := rd_some H.out (by intro e; have := List.map_eq_nil_iff.1 e; subst this; simp at l1)
    have hci : ¬ c = i := by omega
    have hln := cutF_len hcut
    go_enter Try.func220, Try.ntmps220
    go_wp2_with (first | (go_at_call 110; refine (sLineOk_any _ _ _ _ H.out hn).mono ?_; rintro e w1 ⟨rfl, rfl⟩) | (at_builtin; (refine wpList_app rfl _ _ 22 rfl w.heap.size 29 _ 1 4 Try.underlying22 info_f32 rfl (by omega) (.slice (some ⟨w.heap.size, 0, none⟩) 0 0) 0 [] rfl (own_new w _ _ 1 (Nat.le_refl _)) (some ⟨b, off + i, none⟩) (i + n - i) (c - i) ((cutF rs i n).map fl) rfl ((rd_cut H.out i n).ext (by (repeat (first | exact Below.refl _ _ | assumption | refine below_drewN ?_ _ | refine Below.drew ?_ | refine Below.alloc ?_ (by first | exact Nat.le_refl _ | (simp; done) | (simp; omega)) _ | refine Below.setCell ?_ (by first | exact Nat.le_refl _ | (simp; done) | (simp; omega)) _)))) (by rw [List.length_map, hln]; omega) (fun h => by cases h) oneCell_fl (by unfold maxLen; omega) (by omega) (by simp) ?_); intro v1 w1 hown hg hat))
    go_ret
    refine ⟨⟨_, rfl, ?_⟩, ext_grow (E := 29) (size := 1) (base := w.heap.size) (by (repeat (first | exact Below.refl _ _ | assumption | refine below_drewN ?_ _ | refine Below.drew ?_ | refine Below.alloc ?_ (by first | exact Nat.le_refl _ | (simp; done) | (simp; omega)) _ | refine Below.setCell ?_ (by first | exact Nat.le_refl _ | (simp; done) | (simp; omega)) _))) (own_new w _ _ 1 (Nat.le_refl _)) (Nat.le_refl _) hg⟩
    unfold OF
    rw [hln]
    simpa [Nat.add_sub_cancel_left] using hown
  · rw [if_neg hok]
    have hok' : lineOk rs = false := by simpa using hok
    go_enter Try.func220, Try.ntmps220
    go_wp2_with (first | (go_at_call 110; refine (sLineOk_any _ _ _ _ H.out hn).mono ?_; rintro e w1 ⟨rfl, rfl⟩))
    go_ret
    exact ⟨⟨_, rfl, own_new w _ _ 1 (Nat.le_refl _)⟩, by (repeat (first | exact Below.refl _ _ | assumption | refine below_drewN ?_ _ | refine Below.drew ?_ | refine Below.alloc ?_ (by first | exact Nat.le_refl _ | (simp; done) | (simp; omega)) _ | refine Below.setCell ?_ (by first | exact Nat.le_refl _ | (simp; done) | (simp; omega)) _))⟩

/-- pulse, burst and cells of a line -/
abbrev pulseOf (rs : List Nat) : List Nat := if lineOk rs = true then cutF rs 0 8 else []
abbrev burstOf (rs : List Nat) : List Nat := if lineOk rs = true then cutF rs 8 16 else []
abbrev cellsOf (rs : List Nat) : List Nat := if lineOk rs = true then cutF rs 24 (rs.length - 24) else []
theorem iPulseOf_any (A : Option Addr) (c : Nat) (rs : List Nat) (w : World) (h : Rd w A (rs.map fl)) (hn : rs.length ≤ maxLen) (hc : rs.length ≤ c) :
    Calls Try.prog 107 #[.slice A rs.length c] w fun e w' => (∃ v, e = .returned v ∧ OF w' w.heap.size v (pulseOf rs)) ∧ Ext w w' := by
  go_enter Try.func107, Try.ntmps107
  go_wp2_with (first | (go_at_call 191; refine (head_any _).mono ?_; rintro e w1 ⟨rfl, rfl⟩) | (go_at_call 190; refine (iPart_any A c rs 0 8 _ h hn hc (by omega) (fun e => by have := lineOk_len e; omega)).mono ?_; rintro e w1 ⟨⟨v, rfl, ho⟩, hb⟩))
  go_ret
  exact ⟨⟨_, rfl, ho⟩, hb⟩
theorem sPulseOf_any (A : Option Addr) (c : Nat) (rs : List Nat) (w : World) (h : Rd w A (rs.map fl)) (hn : rs.length ≤ maxLen) (hc : rs.length ≤ c) :
    Calls Try.prog 159 #[.slice A rs.length c] w fun e w' => (∃ v, e = .returned v ∧ OF w' w.heap.size v (pulseOf rs)) ∧ Ext w w' := by
  go_enter Try.func159, Try.ntmps159
  go_wp2_with (first | (go_at_call 191; refine (head_any _).mono ?_; rintro e w1 ⟨rfl, rfl⟩) | (go_at_call 220; refine (sPart_any A c rs 0 8 _ h hn hc (by omega) (fun e => by have := lineOk_len e; omega)).mono ?_; rintro e w1 ⟨⟨v, rfl, ho⟩, hb⟩))
  go_ret
  exact ⟨⟨_, rfl, ho⟩, hb⟩
theorem iBurstOf_any (A : Option Addr) (c : Nat) (rs : List Nat) (w : World) (h : Rd w A (rs.map fl)) (hn : rs.length ≤ maxLen) (hc : rs.length ≤ c) :
    Calls Try.prog 108 #[.slice A rs.length c] w fun e w' => (∃ v, e = .returned v ∧ OF w' w.heap.size v (burstOf rs)) ∧ Ext w w' := by
  go_enter Try.func108, Try.ntmps108
  go_wp2_with (first | (go_at_call 191; refine (head_any _).mono ?_; rintro e w1 ⟨rfl, rfl⟩) | (go_at_call 190; refine (iPart_any A c rs 8 16 _ h hn hc (by omega) (fun e => by have := lineOk_len e; omega)).mono ?_; rintro e w1 ⟨⟨v, rfl, ho⟩, hb⟩))
  go_ret
  exact ⟨⟨_, rfl, ho⟩, hb⟩
theorem sBurstOf_any (A : Option Addr) (c : Nat) (rs : List Nat) (w : World) (h : Rd w A (rs.map fl)) (hn : rs.length ≤ maxLen) (hc : rs.length ≤ c) :
    Calls Try.prog 160 #[.slice A rs.length c] w fun e w' => (∃ v, e = .returned v ∧ OF w' w.heap.size v (burstOf rs)) ∧ Ext w w' := by
  go_enter Try.func160, Try.ntmps160
  go_wp2_with (first | (go_at_call 191; refine (head_any _).mono ?_; rintro e w1 ⟨rfl, rfl⟩) | (go_at_call 220; refine (sPart_any A c rs 8 16 _ h hn hc (by omega) (fun e => by have := lineOk_len e; omega)).mono ?_; rintro e w1 ⟨⟨v, rfl, ho⟩, hb⟩))
  go_ret
  exact ⟨⟨_, rfl, ho⟩, hb⟩
end Go.Proofs.Ytiddaabodkglmaa
end
section
namespace Go.Proofs.Ytiddaabodkglmaa
open Go.RowKit Go.Fx
set_option linter.unusedVariables false
set_option linter.unusedSimpArgs false

set_option maxRecDepth 100000 in
theorem sSum_any (A : Option Addr) (c : Nat) (rs : List Nat) (w : World) (h : Rd w A (rs.map fl)) (hn : rs.length ≤ maxLen) (h1 : 0 < rs.length) :
    Calls Try.prog 158 #[.slice A rs.length c] w fun e w' => (∃ b, e = .returned (.float .f32 b) ∧ cn .f32 b = sumAll rs) ∧ ∃ n, w' = w.drewN n := by
  unfold maxLen at hn
  obtain ⟨b, off, rfl, hbw, hc0⟩ := rf_at h h1
  rw [Nat.add_zero] at hc0
  go_enter Try.func158, Try.ntmps158
  go_wp2
  go_loopw [3, 4] (fun s i wr => ∃ (k x : Nat), k < rs.length ∧ i = .int .i64 (k + 1) ∧ s = .float .f32 x ∧ Hid (cn .f32 x = sumN rs k) ∧ ∃ n, wr = w.drewN n) (fun _ i _ => rs.length + 1 - (intOf i).toNat)
  case atStart => exact ⟨0, _, h1, rfl, rfl, Lib.hid (by simp [sumN, h1]), 0, rfl⟩
  case round =>
    obtain ⟨k, x, hk, rfl, rfl, H, n, rfl⟩ := hrel
    clear hc0
    by_cases hlt : k + 1 < rs.length
    · obtain ⟨b', off', hbo, hbw', hc⟩ := rf_at (h.drewN n) hlt
      cases hbo
      go_wp2_with (with_reducible first | (refine upon_add ?_; intro b n hb) | (refine upon_sub ?_; intro b n hb) | (refine upon_mul ?_; intro b n hb) | (refine upon_quo ?_; intro b n hb))
      go_roundw
      case rel => exact ⟨k + 1, b, hlt, by go_num, rfl, Lib.hid (by rw [hb, H.out]; simp [sumN, hlt]), _, rfl⟩
      case measure => simp [intOf]; omega
    · go_wp2
      go_ret
      refine ⟨⟨_, rfl, ?_⟩, n, rfl⟩
      rw [H.out]
      congr 1
      omega

set_option maxRecDepth 100000 in
theorem iSum_any (A : Option Addr) (c : Nat) (rs : List Nat) (w : World) (h : Rd w A (rs.map fl)) (hn : rs.length ≤ maxLen) (h2 : 2 ≤ rs.length) (hcap : rs.length ≤ c) :
    Calls Try.prog 162 #[.slice A rs.length c] w fun e w' => (∃ b, e = .returned (.float .f32 b) ∧ cn .f32 b = sumAll rs) ∧ ∃ n, w' = w.drewN n := by
  unfold maxLen at hn
  obtain ⟨b, off, rfl, hbw, hc0⟩ := rf_at h (show 0 < rs.length by omega)
  rw [Nat.add_zero] at hc0
  go_enter Try.func162, Try.ntmps162
  go_wp2
  go_loopw [3, 12] (fun s i wr => ∃ (k x : Nat), k < rs.length ∧ i = .int .i64 k ∧ s = .float .f32 x ∧ Hid (cn .f32 x = sumN rs k) ∧ ∃ n, wr = w.drewN n) (fun _ i _ => rs.length - (intOf i).toNat)
  case atStart => exact ⟨0, _, by omega, rfl, rfl, Lib.hid (by simp [sumN, show 0 < rs.length by omega]), 0, rfl⟩
  case round =>
    obtain ⟨k, x, hk, rfl, rfl, H, n, rfl⟩ := hrel
    clear hc0
    by_cases hlt : k + 1 < rs.length
    · obtain ⟨b', off', hbo, hbw', hc⟩ := rf_at (h.drewN n) hlt
      cases hbo
      rw [show off + (k + 1) = off + 1 + k by omega] at hc
      go_wp2_with (with_reducible first | (refine upon_add ?_; intro b n hb) | (refine upon_sub ?_; intro b n hb) | (refine upon_mul ?_; intro b n hb) | (refine upon_quo ?_; intro b n hb))
      all_goals trace_state
      go_roundw
      case rel => exact ⟨k + 1, b, hlt, by go_num, rfl, Lib.hid (by rw [hb, H.out]; simp [sumN, hlt]), _, rfl⟩
      case measure => simp [intOf]; omega
    · go_wp2
      go_ret
      refine ⟨⟨_, rfl, ?_⟩, n, rfl⟩
      rw [H.out]
      congr 1
      omega
end Go.Proofs.Ytiddaabodkglmaa
end
section
namespace Go.Proofs.Ytiddaabodkglmaa
open Go.RowKit Go.Fx
set_option linter.unusedVariables false
set_option linter.unusedSimpArgs false
theorem c8 : cn .f32 1090519040 = 1090519040 := by decide +kernel
theorem c16 : cn .f32 1098907648 = 1098907648 := by decide +kernel
/-- what 'Levels' hands back -/
def LevRes (rs : List Nat) (e : Ending) : Prop :=
  ∃ p b : Nat, e = .returned (.tuple #[.float .f32 p, .float .f32 b, .bool (levelsOk rs)]) ∧ (levelsOk rs = true → cn .f32 p = lvPulse rs ∧ cn .f32 b = lvBlack rs) ∧ (levelsOk rs = false → p = 0 ∧ b = 0)
set_option maxRecDepth 100000 in
theorem iLevels_any (A : Option Addr) (c : Nat) (rs : List Nat) (w : World) (h : Rd w A (rs.map fl)) (hn : rs.length ≤ maxLen) (hc : rs.length ≤ c) :
    Calls Try.prog 66 #[.slice A rs.length c] w fun e w' => LevRes rs e ∧ Ext w w' := by
  have hn' := hn
  unfold maxLen at hn'
  have H := Lib.hid h
  clear h
  by_cases hok : lineOk rs = true
  · have hl := lineOk_len hok
    obtain ⟨l1, l2, l3, l4⟩ := hl
    have hp : pulseOf rs = cutF rs 0 8 := if_pos hok
    have hbu : burstOf rs = cutF rs 8 16 := if_pos hok
    have q1 : (cutF rs 0 8).length = 8 := cutF_len (by omega)
    have q2 : (cutF rs 8 16).length = 16 := cutF_len (by omega)
    go_enter Try.func66, Try.ntmps66
    go_wp2_with (go_at_call 161; refine (iLineOk_any _ _ _ _ H.out hn).mono ?_; rintro e w1 ⟨rfl, rfl⟩)
    refine (iPulseOf_any _ _ _ _ H.out hn hc).mono ?_
    rintro e w1 ⟨⟨v1, rfl, o1⟩, hb1⟩
    rw [hp] at o1
    unfold OF at o1
    rw [q1] at o1
    obtain ⟨A1, c1, rfl, r1, -⟩ := own_slice o1
    go_wp2_with fail
    have hs1 := iSum_any A1 c1 (cutF rs 0 8) w1 r1 (by rw [q1]; unfold maxLen; omega) (by rw [q1]; omega) (by rw [q1]; exact own_cap o1)
    rw [q1] at hs1
    refine hs1.mono ?_
    rintro e w2 ⟨⟨b1, rfl, hv1⟩, n1, rfl⟩
    go_wp2_with (with_reducible refine upon_quo ?_; intro q1' m1 hq1')
    have hb2 := Ext.trans hb1 (Ext.drewN w1 (n1 + m1))
    refine (iBurstOf_any _ _ _ _ (H.out.ext hb2) hn hc).mono ?_
    rintro e w2 ⟨⟨v2, rfl, o2⟩, hb3⟩
    rw [hbu] at o2
    unfold OF at o2
    rw [q2] at o2
    obtain ⟨A2, c2, rfl, r2, -⟩ := own_slice o2
    go_wp2_with fail
    have hs2 := iSum_any A2 c2 (cutF rs 8 16) w2 r2 (by rw [q2]; unfold maxLen; omega) (by rw [q2]; omega) (by rw [q2]; exact own_cap o2)
    rw [q2] at hs2
    refine hs2.mono ?_
    rintro e w3 ⟨⟨b2, rfl, hv2⟩, n2, rfl⟩
    have e1 : cn .f32 q1' = lvPulse rs := by rw [hq1', hv1, c8]; rfl
    have HB : Hid (Ext w (w2.drewN n2)) := Lib.hid ((hb2.trans hb3).trans (Ext.drewN w2 n2))
    have HE1 := Lib.hid e1
    clear hq1' e1 hv1 hs1 hs2 hb1 hb2 hb3 o1 o2 r1 r2
    have hgt : ∀ q2' : Nat, cn .f32 q2' = fop BinOp.quo FloatKind.f32 (cn FloatKind.f32 b2) (cn FloatKind.f32 1098907648) → fgt .f32 q2' q1' = levelsOk rs ∧ Hid (cn .f32 q2' = lvBlack rs) := fun q2' hq => by
      have e2 : cn .f32 q2' = lvBlack rs := by rw [hq, hv2, c16]; rfl
      refine ⟨?_, Lib.hid e2⟩
      unfold levelsOk
      rw [hok, Bool.true_and, ← fgt_cn_l, ← fgt_cn_r, e2, HE1.out]
    go_wp2_with (with_reducible refine upon_quo ?_; intro b n hb; obtain ⟨hgt1, HE2⟩ := hgt b hb; clear hb hgt; cases hlv : levelsOk rs <;> (have HL := Lib.hid hlv; rw [hlv] at hgt1; clear hlv))
    all_goals go_ret3
    · exact ⟨⟨0, 0, by rw [HL.out]; rfl, fun h => (by rw [HL.out] at h; cases h), fun _ => ⟨rfl, rfl⟩⟩, by have := HB.out.trans (Ext.drewN _ n); simpa using this⟩
    · exact ⟨⟨q1', b, by rw [HL.out]; rfl, fun _ => ⟨HE1.out, HE2.out⟩, fun h => (by rw [HL.out] at h; cases h)⟩, by have := HB.out.trans (Ext.drewN _ n); simpa using this⟩
  · have hok' : lineOk rs = false := by simpa using hok
    have hlv : levelsOk rs = false := by unfold levelsOk; rw [hok']; rfl
    have HL := Lib.hid hlv
    clear hlv
    go_enter Try.func66, Try.ntmps66
    go_wp2_with (go_at_call 161; refine (iLineOk_any _ _ _ _ H.out hn).mono ?_; rintro e w1 ⟨rfl, rfl⟩)
    go_ret3
    exact ⟨⟨0, 0, by rw [HL.out]; rfl, fun h => (by rw [HL.out] at h; cases h), fun _ => ⟨rfl, rfl⟩⟩, Ext.refl _⟩
set_option maxRecDepth 100000 in
theorem sLevels_any (A : Option Addr) (c : Nat) (rs : List Nat) (w : World) (h : Rd w A (rs.map fl)) (hn : rs.length ≤ maxLen) (hc : rs.length ≤ c) :
    Calls Try.prog 65 #[.slice A rs.length c] w fun e w' => LevRes rs e ∧ Ext w w' := by
  have hn' := hn
  unfold maxLen at hn'
  have H := Lib.hid h
  clear h
  by_cases hok : lineOk rs = true
  · have hl := lineOk_len hok
    obtain ⟨l1, l2, l3, l4⟩ := hl
    have hp : pulseOf rs = cutF rs 0 8 := if_pos hok
    have hbu : burstOf rs = cutF rs 8 16 := if_pos hok
    have q1 : (cutF rs 0 8).length = 8 := cutF_len (by omega)
    have q2 : (cutF rs 8 16).length = 16 := cutF_len (by omega)
    go_enter Try.func65, Try.ntmps65
    go_wp2_with (go_at_call 110; refine (sLineOk_any _ _ _ _ H.out hn).mono ?_; rintro e w1 ⟨rfl, rfl⟩)
    refine (sPulseOf_any _ _ _ _ H.out hn hc).mono ?_
    rintro e w1 ⟨⟨v1, rfl, o1⟩, hb1⟩
    rw [hp] at o1
    unfold OF at o1
    rw [q1] at o1
    obtain ⟨A1, c1, rfl, r1, -⟩ := own_slice o1
    go_wp2_with fail
    have hs1 := sSum_any A1 c1 (cutF rs 0 8) w1 r1 (by rw [q1]; unfold maxLen; omega) (by rw [q1]; omega)
    rw [q1] at hs1
    refine hs1.mono ?_
    rintro e w2 ⟨⟨b1, rfl, hv1⟩, n1, rfl⟩
    go_wp2_with (with_reducible refine upon_quo ?_; intro q1' m1 hq1')
    have hb2 := Ext.trans hb1 (Ext.drewN w1 (n1 + m1))
    refine (sBurstOf_any _ _ _ _ (H.out.ext hb2) hn hc).mono ?_
    rintro e w2 ⟨⟨v2, rfl, o2⟩, hb3⟩
    rw [hbu] at o2
    unfold OF at o2
    rw [q2] at o2
    obtain ⟨A2, c2, rfl, r2, -⟩ := own_slice o2
    go_wp2_with fail
    have hs2 := sSum_any A2 c2 (cutF rs 8 16) w2 r2 (by rw [q2]; unfold maxLen; omega) (by rw [q2]; omega)
    rw [q2] at hs2
    refine hs2.mono ?_
    rintro e w3 ⟨⟨b2, rfl, hv2⟩, n2, rfl⟩
    have e1 : cn .f32 q1' = lvPulse rs := by rw [hq1', hv1, c8]; rfl
    have HB : Hid (Ext w (w2.drewN n2)) := Lib.hid ((hb2.trans hb3).trans (Ext.drewN w2 n2))
    have HE1 := Lib.hid e1
    clear hq1' e1 hv1 hs1 hs2 hb1 hb2 hb3 o1 o2 r1 r2
    have hgt : ∀ q2' : Nat, cn .f32 q2' = fop BinOp.quo FloatKind.f32 (cn FloatKind.f32 b2) (cn FloatKind.f32 1098907648) → fle .f32 q2' q1' = (!levelsOk rs) ∧ Hid (cn .f32 q2' = lvBlack rs) := fun q2' hq => by
      have e2 : cn .f32 q2' = lvBlack rs := by rw [hq, hv2, c16]; rfl
      refine ⟨?_, Lib.hid e2⟩
      unfold levelsOk
      rw [hok, Bool.true_and, ← fle_cn_l, ← fle_cn_r, e2, HE1.out]
      exact le_of_not_gt (lv_not hok).2 (lv_not hok).1
    go_wp2_with (with_reducible refine upon_quo ?_; intro b n hb; obtain ⟨hgt1, HE2⟩ := hgt b hb; clear hb hgt; cases hlv : levelsOk rs <;> (have HL := Lib.hid hlv; rw [hlv] at hgt1; clear hlv))
    all_goals go_ret3
    · exact ⟨⟨0, 0, by rw [HL.out]; rfl, fun h => (by rw [HL.out] at h; cases h), fun _ => ⟨rfl, rfl⟩⟩, by have := HB.out.trans (Ext.drewN _ n); simpa using this⟩
    · exact ⟨⟨q1', b, by rw [HL.out]; rfl, fun _ => ⟨HE1.out, HE2.out⟩, fun h => (by rw [HL.out] at h; cases h)⟩, by have := HB.out.trans (Ext.drewN _ n); simpa using this⟩
  · have hok' : lineOk rs = false := by simpa using hok
    have hlv : levelsOk rs = false := by unfold levelsOk; rw [hok']; rfl
    have HL := Lib.hid hlv
    clear hlv
    go_enter Try.func65, Try.ntmps65
    go_wp2_with (go_at_call 110; refine (sLineOk_any _ _ _ _ H.out hn).mono ?_; rintro e w1 ⟨rfl, rfl⟩)
    go_ret3
    exact ⟨⟨0, 0, by rw [HL.out]; rfl, fun h => (by rw [HL.out] at h; cases h), fun _ => ⟨rfl, rfl⟩⟩, Ext.refl _⟩
end Go.Proofs.Ytiddaabodkglmaa
end
