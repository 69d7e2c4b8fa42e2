import Derived.Test.YtfmghfghhipmhaaDoorTx
namespace Go.Fx
open Ieee
set_option linter.unusedVariables false
set_option linter.unusedSimpArgs false
set_option exponentiation.threshold 2000
theorem v_lo : IsV double 13965043853225361408 (-2000000001) 1 := isV_chk (by decide +kernel)
theorem v_hi : IsV double 4741671816370585600 2000000001 1 := isV_chk (by decide +kernel)
theorem v_half : IsV double 4602678819172646912 1 1 := isV_chk (by decide +kernel)
theorem v_mhalf : IsV double 13826050856027422720 (-1) 1 := isV_chk (by decide +kernel)
theorem finer1 {x : Nat} {m : Int} (h : IsV double x m 1) (e : Nat) : IsV double x (m * tp e) (e + 1) := by
  have := IsV.finer h e
  rw [Nat.add_comm] at this; exact this
theorem cut_near (M : Int) (e : Nat) : (M - cutI M e * tp e).natAbs ≤ M.natAbs ∧ (cutI M e).natAbs * 2 ^ e ≤ M.natAbs := by
  have h1 := Nat.div_add_mod M.natAbs (2 ^ e)
  have h2 : M.natAbs / 2 ^ e * 2 ^ e ≤ M.natAbs := Nat.div_mul_le_self _ _
  unfold cutI
  by_cases h : M < 0
  · rw [if_pos h]
    have e1 : -((M.natAbs / 2 ^ e : Nat) : Int) * tp e = -((M.natAbs / 2 ^ e * 2 ^ e : Nat) : Int) := by rw [Int.natCast_mul, Int.neg_mul]
    rw [e1, Int.natAbs_neg, Int.natAbs_natCast]
    constructor <;> omega
  · rw [if_neg h]
    have e1 : ((M.natAbs / 2 ^ e : Nat) : Int) * tp e = ((M.natAbs / 2 ^ e * 2 ^ e : Nat) : Int) := by rw [Int.natCast_mul]
    rw [e1, Int.natAbs_natCast]
    constructor <;> omega
theorem cut_two (M : Int) (e : Nat) : cutI (M * 2) (e + 1) = cutI M e := by
  unfold cutI
  have h1 : (M * 2).natAbs / 2 ^ (e + 1) = M.natAbs / 2 ^ e := by
    rw [Int.natAbs_mul, Nat.pow_succ]
    exact Nat.mul_div_mul_right _ _ (by decide)
  rw [h1]
  by_cases h : M < 0
  · rw [if_pos h, if_pos (by omega)]
  · rw [if_neg h, if_neg (by omega)]
/-- what the reference's ToFixed reckons -/
theorem Thou.ref {X : Nat} {m : Int} {e : Nat} (h : Thou X m e) : ∃ (P f : Nat) (n : Int), floatBits .mul .f64 X 4652007308841189376 = some P ∧ fgt .f64 P 13965043853225361408 = true ∧ flt .f64 P 4741671816370585600 = true ∧
    floatToIntVal .f64 P .i64 = some n ∧ floatBits .sub .f64 P (floatOfInt .f64 n) = some f ∧ n.natAbs ≤ 1024000 ∧
    rndI (m * 1000) e = (if fge .f64 f 4602678819172646912 = true then n + 1 else if fle .f64 f 13826050856027422720 = true then n - 1 else n) ∧ (fge .f64 f 4602678819172646912 = true → fle .f64 f 13826050856027422720 = false) := by
  obtain ⟨neg, R, hmul, hR, hv⟩ := h.mul
  have h2 := h.hm
  have h3 := h.hb
  have he := h.he
  have ha := abs_1000 m
  have hp := tp_pos e
  have hN := h.hb
  have hv2 : IsV double (double.word neg R) (m * 1000 * 2) (e + 1) := IsV.finer hv 1
  have hint := toInt_small hv2 (by rw [Int.natAbs_mul, ha]; show 1000 * m.natAbs * 2 ≤ _; omega)
  have hc := cut_near (m * 1000 * 2) (e + 1)
  have hM2 : (m * 1000 * 2).natAbs = 2000 * m.natAbs := by rw [Int.natAbs_mul, ha]; show 1000 * m.natAbs * 2 = _; omega
  rw [hM2] at hc
  have hcr := cut_rnd (m := m * 1000 * 2) (e := e)
  have hrr : rndI (m * 1000 * 2) (e + 1) = rndI (m * 1000) e := rnd_cross (by
    show m * 1000 * 2 * tp e = m * 1000 * tp (e + 1)
    rw [tp_add, Int.mul_assoc (m * 1000), Int.mul_comm (2 : Int)]; rfl)
  rw [hrr] at hcr
  generalize hn : cutI (m * 1000 * 2) (e + 1) = n at *
  have hn1 : n.natAbs ≤ 1024000 := by
    have h5 := hc.2
    have h6 : n.natAbs * 2 ^ (e + 1) ≤ 1024000 * 2 ^ (e + 1) := by
      have : 2 ^ (e + 1) = 2 * 2 ^ e := by rw [Nat.pow_succ]; omega
      have h7 : 2000 * m.natAbs ≤ 1024000 * 2 ^ (e + 1) := by rw [this]; omega
      omega
    exact Nat.le_of_mul_le_mul_right h6 (Nat.two_pow_pos _)
  have hi : IsV double (floatOfInt .f64 n) (n * tp (e + 1)) (e + 1) := by
    have h8 := IsV.finer (isV_int (k := .f64) (n := n) (by
      have : (2 : Nat) ^ (FloatKind.f64.format.fractionBits + 1) = 9007199254740992 := by decide
      rw [this]; omega)) (e + 1)
    rw [Nat.zero_add] at h8; exact h8
  obtain ⟨f, hf, hfv⟩ := isV_sub good_double hv2 hi (by rw [dbl_least]; omega) (by
    have : (2 : Nat) ^ (double.fractionBits + 1) = 9007199254740992 := by decide
    rw [this]; have := hc.1; omega)
  have hge : fge .f64 f 4602678819172646912 = decide (((2 ^ e : Nat) : Int) ≤ m * 1000 * 2 - n * tp (e + 1)) := by
    rw [dge hfv (finer1 v_half e), Int.one_mul]
  have hle : fle .f64 f 13826050856027422720 = decide (m * 1000 * 2 - n * tp (e + 1) ≤ -((2 ^ e : Nat) : Int)) := by
    rw [dle hfv (finer1 v_mhalf e), Int.neg_mul, Int.one_mul]
  have hb2 : (m * 1000 * 2).natAbs ≤ 2048000 * 2 ^ e := by rw [hM2]; omega
  refine ⟨_, f, n, hmul, ?_, ?_, hint, hf, hn1, ?_, ?_⟩
  · rw [dgt hv2 (finer1 v_lo e), decide_eq_true_iff]
    show -2000000001 * ((2 ^ e : Nat) : Int) < _
    have := Nat.two_pow_pos e
    generalize 2 ^ e = G at *
    omega
  · rw [dlt hv2 (finer1 v_hi e), decide_eq_true_iff]
    show _ < 2000000001 * ((2 ^ e : Nat) : Int)
    have := Nat.two_pow_pos e
    generalize 2 ^ e = G at *
    omega
  · rw [hcr, hge, hle]
    simp only [decide_eq_true_eq]
  · rw [hge, hle, decide_eq_true_iff, decide_eq_false_iff_not]
    have := Nat.two_pow_pos e
    generalize 2 ^ e = G at *
    intro h1 h2
    omega
end Go.Fx
namespace Go.Proofs.YtfmghfghhipmhaaDoor
open Go.RowKit Go.Fx Go.Sort Ieee
set_option linter.unusedVariables false
set_option linter.unusedSimpArgs false
set_option maxRecDepth 100000 in
theorem sToFixed_any (X : Nat) {m : Int} {e : Nat} (h : Thou X m e) (w : World) :
    Calls Tryd.prog 67 #[.float .f64 X] w fun e' w' => e' = .returned (.tuple #[.int .i64 (rndI (m * 1000) e), .bool true]) ∧ w' = w := by
  obtain ⟨P, f, n, hmul, hgt, hlt, hint, hsub, hn, hres, hnot⟩ := h.ref
  have hm : ∀ W, (binOp .mul 63 (.float .f64 X) (.float .f64 4652007308841189376)).run Tryd.prog W = .ok (.float .f64 P) W := fun W => run_float_arith W .mul 63 .f64 _ _ _ hmul
  have hs : ∀ W, (binOp .sub 63 (.float .f64 P) (.float .f64 (floatOfInt .f64 n))).run Tryd.prog W = .ok (.float .f64 f) W := fun W => run_float_arith W .sub 63 .f64 _ _ _ hsub
  have hc : ∀ W, (convert 63 3 (.float .f64 P)).run Tryd.prog W = .ok (.int .i64 n) W := fun W => run_convert_float_int W 63 3 .f64 .i64 _ _ (by kernel_rfl) (by kernel_rfl) hint
  have hn1 : -1024000 ≤ n := by omega
  have hn2 : n ≤ 1024000 := by omega
  generalize rndI (m * 1000) e = N at *
  clear hint hmul hsub h hn
  cases q1 : fge .f64 f 4602678819172646912
  · cases q2 : fle .f64 f 13826050856027422720
    · have hN : Hid (N = n) := Lib.hid (by rw [hres, q1, q2]; rfl)
      clear hres hnot
      go_enter Tryd.func67, Tryd.ntmps67
      go_wp2_with fail
      go_ret2
      exact ⟨by rw [hN.out]; rfl, rfl⟩
    · have hN : Hid (N = n - 1) := Lib.hid (by rw [hres, q1, q2]; rfl)
      clear hres hnot
      go_enter Tryd.func67, Tryd.ntmps67
      go_wp2_with fail
      go_ret2
      exact ⟨by rw [hN.out]; rfl, rfl⟩
  · have q2 := hnot q1
    have hN : Hid (N = n + 1) := Lib.hid (by rw [hres, q1]; rfl)
    clear hres hnot
    go_enter Tryd.func67, Tryd.ntmps67
    go_wp2_with fail
    go_ret2
    exact ⟨by rw [hN.out]; rfl, rfl⟩
end Go.Proofs.YtfmghfghhipmhaaDoor
