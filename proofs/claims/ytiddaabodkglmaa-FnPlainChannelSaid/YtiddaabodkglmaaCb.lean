import Derived.Test.YtiddaabodkglmaaCa
namespace Go.Proofs.Ytiddaabodkglmaa
open Go.RowKit Go.Fx
set_option linter.unusedVariables false
set_option linter.unusedSimpArgs false

theorem mod4_any (n : Int) (h0 : 0 ≤ n) (h4 : n < 4) (w : World) : Calls Try.prog 225 #[.int .i64 n] w fun e w' => e = .returned (.int .i64 n) ∧ w = w' := by
  go_enter Try.func225, Try.ntmps225
  go_wp2
  all_goals go_ret
  refine ⟨?_, rfl⟩
  simp
  omega
theorem l03Mod_any (n : Int) (h0 : 0 ≤ n) (h4 : n < 4) (w : World) : Calls Try.prog 250 #[.int .i64 n] w fun e w' => e = .returned (.int .i64 n) ∧ w = w' := by
  go_enter Try.func250, Try.ntmps250
  go_wp2
  all_goals go_ret
  refine ⟨?_, rfl⟩
  simp
  omega
theorem iCarried_any (re im : Nat) (n : Int) (h0 : 0 ≤ n) (h4 : n < 4) (w : World) : Calls Try.prog 176 #[.complex .f32 re im, .int .i64 n] w fun e w' => e = .returned (.float .f32 (carriedB re im n)) ∧ w = w' := by
  go_enter Try.func176, Try.ntmps176
  go_wp2_with (go_at_call 225; refine (mod4_any _ h0 h4 _).mono ?_; rintro e w1 ⟨rfl, rfl⟩)
  all_goals go_ret
  all_goals refine ⟨?_, rfl⟩
  all_goals simp_all [carriedB]
  all_goals (intro h; exfalso; omega)
theorem sCarried_any (re im : Nat) (n : Int) (h0 : 0 ≤ n) (h4 : n < 4) (w : World) : Calls Try.prog 249 #[.complex .f32 re im, .int .i64 n] w fun e w' => e = .returned (.float .f32 (carriedB re im n)) ∧ w = w' := by
  go_enter Try.func249, Try.ntmps249
  go_wp2_with (go_at_call 250; refine (l03Mod_any _ h0 h4 _).mono ?_; rintro e w1 ⟨rfl, rfl⟩)
  all_goals go_ret
  all_goals refine ⟨?_, rfl⟩
  all_goals simp_all [carriedB]

theorem iChannelOk_any (a off re im : Nat) (w : World) : Calls Try.prog 171 #[.agg #[.float .f32 a, .float .f32 off, .complex .f32 re im]] w fun e w' => e = .returned (.bool (chnOk ⟨a, off, re, im⟩)) ∧ Below w.heap.size w w' := by
  go_enter Try.func171, Try.ntmps171
  go_wp2_with (first | (go_at_call 153; refine (amount_any _ _).mono ?_; rintro e w1 ⟨⟨b, rfl, hb⟩, rfl⟩; replace hb := fun c => (fle_amt (c := c) hb)))
  all_goals go_ret
  all_goals refine ⟨?_, by (repeat (first | exact Below.refl _ _ | assumption | refine below_drewN ?_ _ | refine Below.drew ?_ | refine Below.alloc ?_ (by first | exact Nat.le_refl _ | (simp; done) | (simp; omega)) _ | refine Below.setCell ?_ (by first | exact Nat.le_refl _ | (simp; done) | (simp; omega)) _))⟩
  all_goals simp_all [chnOk, amt_16, amt_64]
theorem sChannelOk_any (a off re im : Nat) (w : World) : Calls Try.prog 247 #[.agg #[.float .f32 a, .float .f32 off, .complex .f32 re im]] w fun e w' => e = .returned (.bool (chnOk ⟨a, off, re, im⟩)) ∧ Below w.heap.size w w' := by
  go_enter Try.func247, Try.ntmps247
  go_wp2_with (first | (go_at_call 151; refine (l05In_any _ _ _).mono ?_; rintro e w1 ⟨rfl, rfl⟩))
  all_goals go_ret
  all_goals refine ⟨?_, by (repeat (first | exact Below.refl _ _ | assumption | refine below_drewN ?_ _ | refine Below.drew ?_ | refine Below.alloc ?_ (by first | exact Nat.le_refl _ | (simp; done) | (simp; omega)) _ | refine Below.setCell ?_ (by first | exact Nat.le_refl _ | (simp; done) | (simp; omega)) _))⟩
  all_goals simp_all [chnOk]

theorem iSetOk_any (cells rows : Int) (slice least sat : Nat) (A : Option Addr) (n c : Nat) (hn : n ≤ 9223372036854775807) (w : World) :
    Calls Try.prog 55 #[.agg #[.int .i64 cells, .int .i64 rows, .float .f32 slice, .float .f32 least, .float .f32 sat, .slice A n c]] w fun e w' => e = .returned (.bool (setOk cells rows slice least sat n)) ∧ Below w.heap.size w w' := by
  go_enter Try.func55, Try.ntmps55
  go_wp2_with (first | (go_at_call 153; refine (amount_any _ _).mono ?_; rintro e w1 ⟨⟨b, rfl, hb⟩, rfl⟩; replace hb := fun c => (fle_amt (c := c) hb)) | (go_at_call 137; refine (within_any _ _ _ _).mono ?_; rintro e w1 ⟨rfl, rfl⟩))
  all_goals go_ret
  all_goals refine ⟨?_, by (repeat (first | exact Below.refl _ _ | assumption | refine below_drewN ?_ _ | refine Below.drew ?_ | refine Below.alloc ?_ (by first | exact Nat.le_refl _ | (simp; done) | (simp; omega)) _ | refine Below.setCell ?_ (by first | exact Nat.le_refl _ | (simp; done) | (simp; omega)) _))⟩
  all_goals first | (simp_all [setOk, amt_1024]; done) | (simp_all [setOk, amt_1024]; omega)
theorem sSetOk_any (cells rows : Int) (slice least sat : Nat) (A : Option Addr) (n c : Nat) (hn : n ≤ 9223372036854775807) (w : World) :
    Calls Try.prog 53 #[.agg #[.int .i64 cells, .int .i64 rows, .float .f32 slice, .float .f32 least, .float .f32 sat, .slice A n c]] w fun e w' => e = .returned (.bool (setOk cells rows slice least sat n)) ∧ Below w.heap.size w w' := by
  go_enter Try.func53, Try.ntmps53
  go_wp2_with (first | (go_at_call 151; refine (l05In_any _ _ _).mono ?_; rintro e w1 ⟨rfl, rfl⟩) | (go_at_call 135; refine (sIn_any _ _ _ _).mono ?_; rintro e w1 ⟨rfl, rfl⟩))
  all_goals go_ret
  all_goals refine ⟨?_, by (repeat (first | exact Below.refl _ _ | assumption | refine below_drewN ?_ _ | refine Below.drew ?_ | refine Below.alloc ?_ (by first | exact Nat.le_refl _ | (simp; done) | (simp; omega)) _ | refine Below.setCell ?_ (by first | exact Nat.le_refl _ | (simp; done) | (simp; omega)) _))⟩
  all_goals first | (simp_all [setOk]; done) | (simp_all [setOk]; omega)
end Go.Proofs.Ytiddaabodkglmaa
