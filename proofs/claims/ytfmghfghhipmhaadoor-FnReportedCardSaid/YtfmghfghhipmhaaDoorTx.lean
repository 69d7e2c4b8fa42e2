import Derived.Test.YtfmghfghhipmhaaDoorTw
namespace Go.Fx
open Ieee
set_option linter.unusedVariables false
set_option linter.unusedSimpArgs false
set_option exponentiation.threshold 2000
theorem abs_V {neg : Bool} {R : Nat} (hR : R < 9223372036854775808) {m : Int} {e : Nat} (h : IsV double (double.word neg R) m e) : IsV double R (m.natAbs : Int) e := by
  obtain ⟨s, mag, pl, hr, hp, hv⟩ := h
  have hw : double.word false R = R := rfl
  have hr2 : double.read R = .number false mag pl := by
    rw [← hw, read_word double false (by rw [dbl_sign]; omega)]
    rw [read_word double neg (by rw [dbl_sign]; omega)] at hr
    by_cases h1 : R < double.binade
    · rw [if_pos h1] at hr ⊢; injection hr with e1 e2 e3; rw [e2, e3]
    · rw [if_neg h1] at hr ⊢
      by_cases h2 : R < double.infRung
      · rw [if_pos h2] at hr ⊢; injection hr with e1 e2 e3; rw [e2, e3]
      · rw [if_neg h2] at hr; split at hr <;> cases hr
  refine ⟨false, mag, pl, hr2, hp, ?_⟩
  have h1 := congrArg Int.natAbs hv
  rw [Int.natAbs_mul, Int.natAbs_mul, sg_natAbs, Int.natAbs_mul, Int.natAbs_natCast, Int.natAbs_natCast, Int.natAbs_natCast, Int.natAbs_natCast] at h1
  rw [show sg false = 1 from rfl, Int.one_mul, ← Int.natCast_mul, ← Int.natCast_mul, h1, Int.natCast_mul]
theorem dle {x y : Nat} {m n : Int} {e : Nat} (hx : IsV double x m e) (hy : IsV double y n e) : fle .f64 x y = decide (m ≤ n) := by
  unfold fle
  rw [show FloatKind.f64.format = double from rfl, isV_lt hx hy, isV_eq hx hy]
  by_cases h : m ≤ n
  · rw [decide_eq_true h]
    rcases Int.lt_or_eq_of_le h with h | h <;> simp [h]
  · rw [decide_eq_false h, decide_eq_false (by omega), decide_eq_false (by omega)]; rfl
theorem dge {x y : Nat} {m n : Int} {e : Nat} (hx : IsV double x m e) (hy : IsV double y n e) : fge .f64 x y = decide (n ≤ m) := by
  unfold fge
  rw [show FloatKind.f64.format = double from rfl, isV_gt hx hy, isV_eq hx hy]
  by_cases h : n ≤ m
  · rw [decide_eq_true h]
    rcases Int.lt_or_eq_of_le h with h | h <;> simp [h]
  · rw [decide_eq_false h, decide_eq_false (by omega), decide_eq_false (by omega)]; rfl
theorem dgt {x y : Nat} {m n : Int} {e : Nat} (hx : IsV double x m e) (hy : IsV double y n e) : fgt .f64 x y = decide (n < m) := isV_gt hx hy
theorem dlt {x y : Nat} {m n : Int} {e : Nat} (hx : IsV double x m e) (hy : IsV double y n e) : flt .f64 x y = decide (m < n) := isV_lt hx hy
theorem deq {x y : Nat} {m n : Int} {e : Nat} (hx : IsV double x m e) (hy : IsV double y n e) : feq .f64 x y = decide (m = n) := isV_eq hx hy
theorem v_max : IsV double 9218868437227405311 ((2 ^ 53 - 1) * 2 ^ 971) 0 := isV_chk (by decide +kernel)
theorem v_1e9 : IsV double 4741671816366391296 1000000000 0 := isV_chk (by decide +kernel)
theorem not_inf {Y : Nat} {a : Nat} {e : Nat} (h : IsV double Y (a : Int) e) (ha : a ≤ 1024 * 2 ^ e) : fgt .f64 Y 9218868437227405311 = false := by
  have hm := IsV.finer v_max e
  rw [Nat.zero_add] at hm
  rw [dgt h hm, decide_eq_false_iff_not]
  have h1 : (1024 : Int) * tp e ≤ (2 ^ 53 - 1) * 2 ^ 971 * tp e := Int.mul_le_mul_of_nonneg_right (by decide) (Int.le_of_lt (tp_pos e))
  have h2 : ((a : Nat) : Int) ≤ 1024 * tp e := by
    show ((a : Nat) : Int) ≤ 1024 * ((2 ^ e : Nat) : Int)
    omega
  omega
end Go.Fx
namespace Go.Proofs.YtfmghfghhipmhaaDoor
open Go.RowKit Go.Fx Go.Sort Ieee
set_option linter.unusedVariables false
set_option linter.unusedSimpArgs false
theorem isinf_any (X : Nat) (hX : X < 2 ^ 64) {m : Int} {e : Nat} (hv : IsV double X m e) (hb : m.natAbs ≤ 1024 * 2 ^ e) (w : World) :
    Calls Tryd.prog 95 #[.float .f64 X, .int .i64 0] w fun e w' => e = .returned (.bool false) ∧ w' = w := by
  obtain ⟨neg, R, rfl, hR⟩ := word_of hX
  have hA := Lib.hid (fun W => abs_any neg R hR W)
  have hn := not_inf (abs_V hR hv) hb
  generalize double.word neg R = P at *
  clear hv hb hR hX
  go_enter Tryd.func95, Tryd.ntmps95
  go_wp2_with fail
  refine (hA.out _).mono ?_
  rintro e w1 ⟨rfl, rfl⟩
  go_wp2_with fail
  go_ret
  exact ⟨rfl, rfl⟩
theorem finite_any (X : Nat) (hX : X < 2 ^ 64) {m : Int} {e : Nat} (hv : IsV double X m e) (hb : m.natAbs ≤ 1024 * 2 ^ e) (w : World) :
    Calls Tryd.prog 71 #[.float .f64 X] w fun e w' => e = .returned (.bool true) ∧ w' = w := by
  have h1 := Lib.hid (fun W => isnan_any X (by rw [deq hv hv]; simp) W)
  have h2 := Lib.hid (fun W => isinf_any X hX hv hb W)
  clear hv hb hX
  go_enter Tryd.func71, Tryd.ntmps71
  go_wp2_with fail
  refine (h1.out _).mono ?_
  rintro e w1 ⟨rfl, rfl⟩
  go_wp2_with fail
  refine (h2.out _).mono ?_
  rintro e w1 ⟨rfl, rfl⟩
  go_wp2_with fail
  go_ret
  exact ⟨rfl, rfl⟩
set_option maxRecDepth 100000 in
theorem iToFixed_any (X : Nat) (hX : X < 2 ^ 64) {m : Int} {e : Nat} (h : Thou X m e) (w : World) :
    Calls Tryd.prog 44 #[.float .f64 X] w fun e' w' => e' = .returned (.tuple #[.int .i64 (rndI (m * 1000) e), .bool true]) ∧ w' = w := by
  obtain ⟨neg, R, hmul, hR, hv⟩ := h.mul
  have hN := Thou.rnd h.hb
  have hr := rndW_V hR hv
  have hF := Lib.hid (fun W => finite_any X hX h.v h.hb W)
  have hRo := Lib.hid (fun W => round_any neg R hR W)
  have hq64 : rndW neg R < 2 ^ 64 := by
    have p : (2 : Nat) ^ 52 = 4503599627370496 := by decide
    have p64 : (2 : Nat) ^ 64 = 18446744073709551616 := by decide
    have hn : neg.toNat ≤ 1 := by cases neg <;> simp
    unfold rndW
    split
    · rw [word_eq]; omega
    · split
      · rw [word_eq]; omega
      · rw [word_eq]
        have h1 := Nat.div_mul_le_self (R + 2 ^ (1074 - R / 2 ^ 52)) (2 ^ (1074 - R / 2 ^ 52 + 1))
        have h2 : 2 ^ (1074 - R / 2 ^ 52) ≤ 2 ^ 52 := Nat.pow_le_pow_right (by decide) (by omega)
        omega
  obtain ⟨neg2, R2, hq, hR2⟩ := word_of hq64
  have hA := Lib.hid (fun W => abs_any neg2 R2 hR2 W)
  rw [hq] at hr hRo
  have hle : fle .f64 R2 4741671816366391296 = true := by
    rw [dle (abs_V hR2 hr) v_1e9, decide_eq_true_iff]; omega
  have hint := toInt_small hr (by omega)
  rw [cut_whole] at hint
  have hm : ∀ W, (binOp .mul 63 (.float .f64 X) (.float .f64 4652007308841189376)).run Tryd.prog W = .ok (.float .f64 (double.word neg R)) W := fun W => run_float_arith W .mul 63 .f64 _ _ _ hmul
  have hc : ∀ W, (convert 63 3 (.float .f64 (double.word neg2 R2))).run Tryd.prog W = .ok (.int .i64 (rndI (m * 1000) e)) W := fun W => run_convert_float_int W 63 3 .f64 .i64 _ _ (by kernel_rfl) (by kernel_rfl) hint
  generalize rndI (m * 1000) e = N at *
  generalize double.word neg2 R2 = Q at *
  generalize double.word neg R = P at *
  clear hint hr hv hmul hR h hX hq64 hq hR2
  go_enter Tryd.func44, Tryd.ntmps44
  go_wp2_with fail
  refine (hRo.out _).mono ?_
  rintro e w1 ⟨rfl, rfl⟩
  go_wp2_with fail
  refine (hF.out _).mono ?_
  rintro e w1 ⟨rfl, rfl⟩
  go_wp2_with fail
  refine (hA.out _).mono ?_
  rintro e w1 ⟨rfl, rfl⟩
  go_wp2_with fail
  go_ret2
  exact ⟨rfl, rfl⟩
end Go.Proofs.YtfmghfghhipmhaaDoor
