import Derived.Test.YtiddaabodkglmaaFw
import Derived.Test.YtiddaabodkglmaaMo
import Derived.Test.YtiddaabodkglmaaProg
namespace Go.Proofs.Ytiddaabodkglmaa
open Go.RowKit Go.Fx
set_option linter.unusedVariables false
set_option linter.unusedSimpArgs false

theorem amt_pos {x : Nat} (h : flt .f32 x 0 = true) : cn .f32 (Op.negFloat .f32 x) = amt x := by
  unfold amt; rw [h]; rfl
theorem amt_neg {x : Nat} (h : flt .f32 x 0 = false) : cn .f32 x = amt x := by unfold amt; rw [h]; rfl
theorem neg_256 : Op.negFloat .f32 1132462080 = 3279945728 := by decide
theorem amount_any (x : Nat) (w : World) : Calls Try.prog 153 #[.float .f32 x] w fun e w' => (∃ b, e = .returned (.float .f32 b) ∧ cn .f32 b = amt x) ∧ w = w' := by
  go_enter Try.func153, Try.ntmps153
  go_wp2
  all_goals go_ret
  · exact ⟨⟨_, rfl, amt_pos (by assumption)⟩, rfl⟩
  · exact ⟨⟨_, rfl, amt_neg (by assumption)⟩, rfl⟩

theorem sCellOk_any (y re im : Nat) (w : World) : Calls Try.prog 83 #[.agg #[.float .f32 y, .complex .f32 re im]] w fun e w' => e = .returned (.bool (cellOk ⟨y, re, im⟩)) ∧ Below w.heap.size w w' := by
  go_enter Try.func83, Try.ntmps83
  go_wp2
  all_goals go_ret
  all_goals refine ⟨?_, by (repeat (first | exact Below.refl _ _ | assumption | refine below_drewN ?_ _ | refine Below.drew ?_ | refine Below.alloc ?_ (by first | exact Nat.le_refl _ | (simp; done) | (simp; omega)) _ | refine Below.setCell ?_ (by first | exact Nat.le_refl _ | (simp; done) | (simp; omega)) _))⟩
  all_goals simp_all [cellOk, within32, neg_256]

/-- of a number of which only the bits behind 'amount' are known -/
theorem fle_amt {b x c : Nat} (h : cn .f32 b = amt x) : fle .f32 b c = fle .f32 (amt x) c := by rw [← h, fle_cn_l]
theorem iCellOk_any (y re im : Nat) (w : World) : Calls Try.prog 210 #[.agg #[.float .f32 y, .complex .f32 re im]] w fun e w' => e = .returned (.bool (cellOk ⟨y, re, im⟩)) ∧ Below w.heap.size w w' := by
  go_enter Try.func210, Try.ntmps210
  go_wp2_with (first | (go_at_call 153; refine (amount_any _ _).mono ?_; rintro e w1 ⟨⟨b, rfl, hb⟩, rfl⟩; replace hb := fun c => (fle_amt (c := c) hb)))
  all_goals go_ret
  all_goals refine ⟨?_, by (repeat (first | exact Below.refl _ _ | assumption | refine below_drewN ?_ _ | refine Below.drew ?_ | refine Below.alloc ?_ (by first | exact Nat.le_refl _ | (simp; done) | (simp; omega)) _ | refine Below.setCell ?_ (by first | exact Nat.le_refl _ | (simp; done) | (simp; omega)) _))⟩
  all_goals simp_all [cellOk, amt_256]

theorem conj_any (re im : Nat) (w : World) : Calls Try.prog 201 #[.complex .f32 re im] w fun e w' => e = .returned (.complex .f32 re (Op.negFloat .f32 im)) ∧ w = w' := by
  go_enter Try.func201, Try.ntmps201
  go_wp2
  all_goals go_ret
  exact ⟨rfl, rfl⟩
theorem half_any (x y : Nat) (w : World) : Calls Try.prog 233 #[.float .f32 x, .float .f32 y] w fun e w' => (∃ b, e = .returned (.float .f32 b) ∧ cn .f32 b = half32 (cn .f32 x) (cn .f32 y)) ∧ ∃ n, w' = w.drewN n := by
  go_enter Try.func233, Try.ntmps233
  go_wp2_with (with_reducible first | (refine upon_add ?_; intro b n hb) | (refine upon_sub ?_; intro b n hb) | (refine upon_mul ?_; intro b n hb) | (refine upon_quo ?_; intro b n hb))
  all_goals go_ret
  refine ⟨⟨_, rfl, ?_⟩, _, rfl⟩
  simp_all [half32, fop_cn_r]
theorem mean_any (a b x y : Nat) (w : World) : Calls Try.prog 200 #[.complex .f32 a b, .complex .f32 x y] w fun e w' => (∃ re im, e = .returned (.complex .f32 re im) ∧ cn .f32 re = half32 (cn .f32 a) (cn .f32 x) ∧ cn .f32 im = half32 (cn .f32 b) (cn .f32 y)) ∧ ∃ n, w' = w.drewN n := by
  go_enter Try.func200, Try.ntmps200
  go_wp2_with (first | (go_at_call 233; refine (half_any _ _ _).mono ?_; rintro e w1 ⟨⟨b, rfl, hb⟩, n, rfl⟩))
  all_goals go_ret
  refine ⟨⟨_, _, rfl, ?_, ?_⟩, _, rfl⟩ <;> assumption
theorem plus_any (a b x y : Nat) (w : World) : Calls Try.prog 197 #[.complex .f32 a b, .complex .f32 x y] w fun e w' => (∃ re im, e = .returned (.complex .f32 re im) ∧ cn .f32 re = add32 (cn .f32 a) (cn .f32 x) ∧ cn .f32 im = add32 (cn .f32 b) (cn .f32 y)) ∧ ∃ n, w' = w.drewN n := by
  go_enter Try.func197, Try.ntmps197
  go_wp2_with (with_reducible first | (refine upon_add ?_; intro b n hb) | (refine upon_sub ?_; intro b n hb) | (refine upon_mul ?_; intro b n hb) | (refine upon_quo ?_; intro b n hb))
  all_goals go_ret
  refine ⟨⟨_, _, rfl, ?_, ?_⟩, _, rfl⟩ <;> assumption
theorem minus_any (a b x y : Nat) (w : World) : Calls Try.prog 198 #[.complex .f32 a b, .complex .f32 x y] w fun e w' => (∃ re im, e = .returned (.complex .f32 re im) ∧ cn .f32 re = sub32 (cn .f32 a) (cn .f32 x) ∧ cn .f32 im = sub32 (cn .f32 b) (cn .f32 y)) ∧ ∃ n, w' = w.drewN n := by
  go_enter Try.func198, Try.ntmps198
  go_wp2_with (with_reducible first | (refine upon_add ?_; intro b n hb) | (refine upon_sub ?_; intro b n hb) | (refine upon_mul ?_; intro b n hb) | (refine upon_quo ?_; intro b n hb))
  all_goals go_ret
  refine ⟨⟨_, _, rfl, ?_, ?_⟩, _, rfl⟩ <;> assumption
theorem iTimes_any (a b x y : Nat) (w : World) : Calls Try.prog 82 #[.complex .f32 a b, .complex .f32 x y] w fun e w' => (∃ re im, e = .returned (.complex .f32 re im) ∧ cn .f32 re = timesRe (cn .f32 a) (cn .f32 b) (cn .f32 x) (cn .f32 y) ∧ cn .f32 im = timesIm (cn .f32 a) (cn .f32 b) (cn .f32 x) (cn .f32 y)) ∧ ∃ n, w' = w.drewN n := by
  go_enter Try.func82, Try.ntmps82
  go_wp2_with (with_reducible first | (refine upon_add ?_; intro b n hb) | (refine upon_sub ?_; intro b n hb) | (refine upon_mul ?_; intro b n hb) | (refine upon_quo ?_; intro b n hb))
  all_goals go_ret
  refine ⟨⟨_, _, rfl, ?_, ?_⟩, _, rfl⟩ <;> simp_all [timesRe, timesIm]
theorem sTimes_any (a b x y : Nat) (w : World) : Calls Try.prog 248 #[.complex .f32 a b, .complex .f32 x y] w fun e w' => (∃ re im, e = .returned (.complex .f32 re im) ∧ cn .f32 re = timesRe (cn .f32 a) (cn .f32 b) (cn .f32 x) (cn .f32 y) ∧ cn .f32 im = timesIm (cn .f32 a) (cn .f32 b) (cn .f32 x) (cn .f32 y)) ∧ ∃ n, w' = w.drewN n := by
  go_enter Try.func248, Try.ntmps248
  go_wp2_with (with_reducible first | (refine upon_add ?_; intro b n hb) | (refine upon_sub ?_; intro b n hb) | (refine upon_mul ?_; intro b n hb) | (refine upon_quo ?_; intro b n hb))
  all_goals go_ret
  refine ⟨⟨_, _, rfl, ?_, ?_⟩, _, rfl⟩ <;> simp_all [timesRe, timesIm]
theorem power_any (a b : Nat) (w : World) : Calls Try.prog 51 #[.complex .f32 a b] w fun e w' => (∃ r, e = .returned (.float .f32 r) ∧ cn .f32 r = power (cn .f32 a) (cn .f32 b)) ∧ ∃ n, w' = w.drewN n := by
  go_enter Try.func51, Try.ntmps51
  go_wp2_with (with_reducible first | (refine upon_add ?_; intro b n hb) | (refine upon_sub ?_; intro b n hb) | (refine upon_mul ?_; intro b n hb) | (refine upon_quo ?_; intro b n hb))
  all_goals go_ret
  refine ⟨⟨_, rfl, ?_⟩, _, rfl⟩
  simp_all [power]
theorem sHalf_any (x y : Nat) (w : World) : Calls Try.prog 204 #[.float .f32 x, .float .f32 y] w fun e w' => (∃ b, e = .returned (.float .f32 b) ∧ cn .f32 b = half32 (cn .f32 x) (cn .f32 y)) ∧ ∃ n, w' = w.drewN n := by
  go_enter Try.func204, Try.ntmps204
  go_wp2_with (with_reducible first | (refine upon_add ?_; intro b n hb) | (refine upon_sub ?_; intro b n hb) | (refine upon_mul ?_; intro b n hb) | (refine upon_quo ?_; intro b n hb))
  all_goals go_ret
  refine ⟨⟨_, rfl, ?_⟩, _, rfl⟩
  simp_all [half32, fop_cn_r]
theorem sConj_any (re im : Nat) (w : World) : Calls Try.prog 203 #[.complex .f32 re im] w fun e w' => e = .returned (.complex .f32 re (Op.negFloat .f32 im)) ∧ w = w' := by
  go_enter Try.func203, Try.ntmps203
  go_wp2
  all_goals go_ret
  exact ⟨rfl, rfl⟩
theorem within_any (n a b : Int) (w : World) : Calls Try.prog 137 #[.int .i64 n, .int .i64 a, .int .i64 b] w fun e w' => e = .returned (.bool (decide (a ≤ n) && decide (n ≤ b))) ∧ w = w' := by
  go_enter Try.func137, Try.ntmps137
  go_wp2
  all_goals go_ret
  all_goals refine ⟨?_, rfl⟩
  all_goals (simp_all <;> omega)
theorem sIn_any (n a b : Int) (w : World) : Calls Try.prog 135 #[.int .i64 n, .int .i64 a, .int .i64 b] w fun e w' => e = .returned (.bool (decide (a ≤ n) && decide (n ≤ b))) ∧ w = w' := by
  go_enter Try.func135, Try.ntmps135
  go_wp2
  all_goals go_ret
  all_goals refine ⟨?_, rfl⟩
  all_goals (simp_all <;> omega)
theorem lengthOk_any (n : Int) (w : World) : Calls Try.prog 163 #[.int .i64 n] w fun e w' => e = .returned (.bool (decide (28 ≤ n) && decide (n ≤ 280))) ∧ w = w' := by
  go_enter Try.func163, Try.ntmps163
  go_wp2_with (go_at_call 137; refine (within_any _ _ _ _).mono ?_; rintro e w1 ⟨rfl, rfl⟩)
  all_goals go_ret
  exact ⟨rfl, rfl⟩
theorem l05In_any (x c : Nat) (w : World) : Calls Try.prog 151 #[.float .f32 x, .float .f32 c] w fun e w' => e = .returned (.bool (within32 x c)) ∧ w = w' := by
  go_enter Try.func151, Try.ntmps151
  go_wp2
  all_goals go_ret
  all_goals refine ⟨?_, rfl⟩
  all_goals simp_all [within32]
end Go.Proofs.Ytiddaabodkglmaa
