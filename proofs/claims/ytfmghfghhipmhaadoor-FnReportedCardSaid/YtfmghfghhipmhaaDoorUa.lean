import Derived.Test.YtfmghfghhipmhaaDoorTy
import Derived.Test.YtfmghfghhipmhaaDoorSk
import Derived.Test.YtfmghfghhipmhaaDoorTl
import Derived.Test.YtfmghfghhipmhaaDoorTc
import Derived.Lib.QuietBelow
import Derived.BigQuiet
namespace Go.Fx
open Ieee
set_option linter.unusedVariables false
set_option linter.unusedSimpArgs false
set_option exponentiation.threshold 2000
def Fit (x : Nat) : Prop := ∃ (m : Int) (e : Nat), SV x m e ∧ e ≤ 149 ∧ m.natAbs < 16777216 ∧ m.natAbs ≤ 1024 * 2 ^ e
theorem fit_slice {x : Nat} (h : within32 x 1149239296 = true) : Fit x := by
  obtain ⟨m, e, h1, h2, h3, h4⟩ := within_fit h
  exact ⟨m, e, h1, h2, h3, by have p : (2 : Nat) ^ 10 = 1024 := by decide
                              rw [p] at h4; exact h4⟩
theorem fit_upto {x : Nat} (h1 : fge .f32 x 0 = true) (h2 : fle .f32 x 1098907648 = true) : Fit x := by
  obtain ⟨m, e, h1, h2, h3, h4, -⟩ := upto_fit h1 h2
  exact ⟨m, e, h1, h2, h3, by have p : (2 : Nat) ^ 4 = 16 := by decide
                              rw [p] at h4; omega⟩
theorem wide_lt {x X : Nat} (h : floatToFloatBits .f32 x .f64 = some X) : X < 2 ^ 64 := by
  unfold floatToFloatBits at h
  rw [if_neg (by decide)] at h
  split at h
  · cases h
  · injection h with h; subst h; exact FloatKind.f64.format.write_lt _
  · split at h
    · cases h
    · injection h with h; subst h; exact FloatKind.f64.format.write_lt _
theorem fit_wide {x : Nat} (h : Fit x) : ∃ (X : Nat) (m : Int) (e : Nat), floatToFloatBits .f32 x .f64 = some X ∧ X < 2 ^ 64 ∧ Thou X m e ∧ toFix x = rndI (m * 1000) e ∧ (rndI (m * 1000) e).natAbs ≤ 1024000 := by
  obtain ⟨m, e, h1, h2, h3, h4⟩ := h
  obtain ⟨X, hX, hv⟩ := isV_conv (s := .f32) (d := .f64) h1 (by
    have hL : FloatKind.f64.format.leastPlace = -1074 := by decide
    rw [hL]; omega) (by
    have : (2 : Nat) ^ (FloatKind.f64.format.fractionBits + 1) = 9007199254740992 := by decide
    rw [this]; omega)
  exact ⟨X, m, e, hX, wide_lt hX, ⟨hv, h2, h3, h4⟩, by rw [toFix_V h1, Int.mul_comm], Thou.rnd h4⟩
theorem OkParts.fits {s : TS} (h : OkParts s) : ∀ x ∈ [s.slice, s.least, s.sat], Fit x := by
  intro x hx
  rcases List.mem_cons.1 hx with rfl | hx
  · exact fit_slice h.sl
  rcases List.mem_cons.1 hx with rfl | hx
  · exact fit_upto h.l1 h.l2
  rcases List.mem_cons.1 hx with rfl | hx
  · exact fit_upto h.t1 h.t2
  cases hx
end Go.Fx
namespace Go.Proofs.YtfmghfghhipmhaaDoor
open Go.RowKit Go.Fx Go.Sort Ieee Go.Lib
set_option linter.unusedVariables false
set_option linter.unusedSimpArgs false
theorem l08Fixed_any (x : Nat) (h : Fit x) (w : World) : Calls Tryd.prog 42 #[.float .f32 x] w fun e w' => e = .returned (.string (ba (fmtF (toFix x)))) ∧ Ext w w' := by
  obtain ⟨X, m, e, hX, hX64, hT, hfix, hb⟩ := fit_wide h
  have hc : ∀ W, (convert 22 63 (.float .f32 x)).run Tryd.prog W = .ok (.float .f64 X) W := fun W => run_convert_float_float W 22 63 .f32 .f64 _ _ (by kernel_rfl) (by kernel_rfl) hX
  have hF := Lib.hid (fun W => sToFixed_any X hT W)
  have hG := Lib.hid (fun W => by have h9 := sFormatFixed_any (rndI (m * 1000) e) (by omega) (by omega) W; rw [fmtFixed_small hb] at h9; exact h9)
  rw [hfix]
  generalize ba (fmtF (rndI (m * 1000) e)) = O at *
  generalize rndI (m * 1000) e = n at *
  clear hT hX hfix hb h hX64
  go_enter Tryd.func42, Tryd.ntmps42
  go_wp2_with fail
  refine (hF.out _).mono ?_
  rintro e w1 ⟨rfl, rfl⟩
  go_wp2_with fail
  refine (hG.out _).mono ?_
  rintro e w1 ⟨rfl, hb1⟩
  go_wp2_with fail
  go_ret
  exact ⟨rfl, hb1⟩
set_option maxRecDepth 100000 in
set_option maxHeartbeats 4000000 in
theorem sReport_any (s : TS) (A : Option Addr) (c : Nat) (hn : s.log.length ≤ 1048576) (w : World) :
    Calls Tryd.prog 11 #[setT s (.slice A s.log.length c)] w fun e w' => e = .returned (.string (ba (report s))) ∧ Ext w w' := by
  have hokd : s.ok = setOk s.cells s.rows s.slice s.least s.sat s.log.length := rfl
  have hO := Lib.hid (fun W => by have h := sSetOk_any s.cells s.rows s.slice s.least s.sat A s.log.length c (by omega) W; rw [← hokd] at h; exact h)
  clear hokd
  cases hok : s.ok
  · have HR : Hid (report s = []) := Lib.hid (by unfold report; rw [hok]; rfl)
    rw [hok] at hO
    go_enter Tryd.func11, Tryd.ntmps11
    go_wp2_with fail
    refine (hO.out _).mono ?_
    rintro e w1 ⟨rfl, hb1⟩
    go_wp2_with fail
    go_ret
    exact ⟨by rw [HR.out]; rfl, Ext.trans ((Ext.refl _).alloc _) hb1⟩
  · have HR : Hid (report s = unw (repF s)) := Lib.hid (by unfold report; rw [hok]; rfl)
    have p := ok_parts.1 hok
    rw [hok] at hO
    have hf := rep_fld p
    have fi := p.fits
    obtain ⟨C, hC⟩ : ∃ C : Nat, s.cells = C := ⟨s.cells.toNat, by have := p.c1; omega⟩
    obtain ⟨D, hD⟩ : ∃ D : Nat, s.rows = D := ⟨s.rows.toNat, by have := p.r1; omega⟩
    have hC64 : C ≤ 64 := by have := p.c2; omega
    have hD64 : D ≤ 64 := by have := p.r2; omega
    have hrep : repF s = [decDigits C, decDigits D, fmtF (toFix s.slice), fmtF (toFix s.least), fmtF (toFix s.sat)] := by
      unfold repF; rw [hC, hD]; rfl
    rw [hrep] at hf
    have f1 := (hf (decDigits C) (by simp)).len
    have f2 := (hf (decDigits D) (by simp)).len
    have f3 := (hf (fmtF (toFix s.slice)) (by simp)).len
    have f4 := (hf (fmtF (toFix s.least)) (by simp)).len
    have f5 := (hf (fmtF (toFix s.sat)) (by simp)).len
    have m1 : ∀ W, Calls Tryd.prog 41 #[.int .i64 C] W fun e w' => e = .returned (.string (ba (decDigits C))) ∧ Ext W w' := fun W => sFormatInt_any C (by omega) W
    have m2 : ∀ W, Calls Tryd.prog 41 #[.int .i64 D] W fun e w' => e = .returned (.string (ba (decDigits D))) ∧ Ext W w' := fun W => sFormatInt_any D (by omega) W
    have m3 := fun W => l08Fixed_any s.slice (fi _ (by simp)) W
    have m4 := fun W => l08Fixed_any s.least (fi _ (by simp)) W
    have m5 := fun W => l08Fixed_any s.sat (fi _ (by simp)) W
    rw [← ba_size] at f1 f2 f3 f4 f5
    have HV : Hid (ba (decDigits C) ++ (⟨#[32]⟩ : ByteArray) ++ ba (decDigits D) ++ (⟨#[32]⟩ : ByteArray) ++ ba (fmtF (toFix s.slice)) ++ (⟨#[32]⟩ : ByteArray) ++ ba (fmtF (toFix s.least)) ++ (⟨#[32]⟩ : ByteArray) ++ ba (fmtF (toFix s.sat)) = ba (report s)) := Lib.hid (by
      rw [HR.out, hrep, show (⟨#[32]⟩ : ByteArray) = ba [32] from rfl]
      simp only [ba_append]
      congr 1
      rw [unw_two, unw_two, unw_two, unw_two]
      simp [unw, joinTail])
    clear hf fi p hrep HR hok
    generalize ba (decDigits C) = S1 at *
    generalize ba (decDigits D) = S2 at *
    generalize ba (fmtF (toFix s.slice)) = S3 at *
    generalize ba (fmtF (toFix s.least)) = S4 at *
    generalize ba (fmtF (toFix s.sat)) = S5 at *
    generalize ba (report s) = O at *
    have hO2 := Lib.hid (fun W => by have h := hO.out W; rw [hC, hD] at h; exact h)
    have hset : setT s (.slice A s.log.length c) = .agg #[.int .i64 C, .int .i64 D, .float .f32 s.slice, .float .f32 s.least, .float .f32 s.sat, .slice A s.log.length c] := by unfold setT setV; rw [hC, hD]
    rw [hset]
    clear hset hO hC hD
    go_enter Tryd.func11, Tryd.ntmps11
    go_wp2_with fail
    refine (hO2.out _).mono ?_
    rintro e w1 ⟨rfl, hb1⟩
    have kk : w1.heap[w.heap.size]? = some (.cells #[.int .i64 C, .int .i64 D, .float .f32 s.slice, .float .f32 s.least, .float .f32 s.sat, .slice A s.log.length c] 28 (0, 0)) := blk_ext (heap_alloc_new _ _) hb1
    obtain ⟨ac0, ac1, ac2, ac3, ac4, ac5, af⟩ := blk6 kk
    clear kk
    have hb2 : Ext w w1 := Ext.trans ((Ext.refl _).alloc _) hb1
    have HB2 := Lib.hid hb2
    clear hb1 hb2
    go_upto_region 3 with fail
    have b0 := cell_regrown ac0
    have b1 := cell_regrown ac1
    have b2 := cell_regrown ac2
    have b3 := cell_regrown ac3
    have b4 := cell_regrown ac4
    have q1 : ∀ dd os, Calls Tryd.prog 41 #[.int .i64 C] (grow (redrawn w1 dd) os) fun e w'' => e = .returned (.string S1) ∧ ∃ p : Regrown, w'' = grow (redrawn w1 p.d) p.os := fun dd os => Calls.regrown_of ((m1 _).mono fun e w' ⟨a, b⟩ => ⟨a, b⟩)
    have q2 : ∀ dd os, Calls Tryd.prog 41 #[.int .i64 D] (grow (redrawn w1 dd) os) fun e w'' => e = .returned (.string S2) ∧ ∃ p : Regrown, w'' = grow (redrawn w1 p.d) p.os := fun dd os => Calls.regrown_of ((m2 _).mono fun e w' ⟨a, b⟩ => ⟨a, b⟩)
    have q3 : ∀ dd os, Calls Tryd.prog 42 #[.float .f32 s.slice] (grow (redrawn w1 dd) os) fun e w'' => e = .returned (.string S3) ∧ ∃ p : Regrown, w'' = grow (redrawn w1 p.d) p.os := fun dd os => Calls.regrown_of ((m3 _).mono fun e w' ⟨a, b⟩ => ⟨a, b⟩)
    have q4 : ∀ dd os, Calls Tryd.prog 42 #[.float .f32 s.least] (grow (redrawn w1 dd) os) fun e w'' => e = .returned (.string S4) ∧ ∃ p : Regrown, w'' = grow (redrawn w1 p.d) p.os := fun dd os => Calls.regrown_of ((m4 _).mono fun e w' ⟨a, b⟩ => ⟨a, b⟩)
    have q5 : ∀ dd os, Calls Tryd.prog 42 #[.float .f32 s.sat] (grow (redrawn w1 dd) os) fun e w'' => e = .returned (.string S5) ∧ ∃ p : Regrown, w'' = grow (redrawn w1 p.d) p.os := fun dd os => Calls.regrown_of ((m5 _).mono fun e w' ⟨a, b⟩ => ⟨a, b⟩)
    clear m1 m2 m3 m4 m5
    have r1 := Lib.hid q1
    have r2 := Lib.hid q2
    have r3 := Lib.hid q3
    have r4 := Lib.hid q4
    have r5 := Lib.hid q5
    clear q1 q2 q3 q4 q5
    clear ac0 ac1 ac2 ac3 ac4 ac5 af
    have n1 : ¬ 9223372036854775807 < S1.size + 1 := by omega
    have n2 : ¬ 9223372036854775807 < S1.size + 1 + S2.size := by omega
    have n3 : ¬ 9223372036854775807 < S1.size + 1 + S2.size + 1 := by omega
    have n4 : ¬ 9223372036854775807 < S1.size + 1 + S2.size + 1 + S3.size := by omega
    have n5 : ¬ 9223372036854775807 < S1.size + 1 + S2.size + 1 + S3.size + 1 := by omega
    have n6 : ¬ 9223372036854775807 < S1.size + 1 + S2.size + 1 + S3.size + 1 + S4.size := by omega
    have n7 : ¬ 9223372036854775807 < S1.size + 1 + S2.size + 1 + S3.size + 1 + S4.size + 1 := by omega
    have n8 : ¬ 9223372036854775807 < S1.size + 1 + S2.size + 1 + S3.size + 1 + S4.size + 1 + S5.size := by omega
    refine wp_region_quiet_below (by kernel_rfl) (by kernel_rfl) ?_
    iterate 24 (any_goals (first | go_big_quiet_step (first | with_reducible exact r1.out _ _ | with_reducible exact r2.out _ _ | with_reducible exact r3.out _ _ | with_reducible exact r4.out _ _ | with_reducible exact r5.out _ _) | quiet_step (first | with_reducible exact r1.out _ _ | with_reducible exact r2.out _ _ | with_reducible exact r3.out _ _ | with_reducible exact r4.out _ _ | with_reducible exact r5.out _ _)))
    refine wpQuiet_nil ?_
    intro _ hw'
    obtain ⟨⟨dq, osq⟩, hw''⟩ := hw'
    subst hw''
    have hb6 : Ext w1 (grow (redrawn w1 dq) osq) := below_regrown w1 dq osq
    clear r1 r2 r3 r4 r5 b0 b1 b2 b3 b4
    generalize grow (redrawn w1 dq) osq = w6 at *
    go_wp2_with fail
    go_ret
    exact ⟨congrArg (fun x => Ending.returned (Value.string x)) HV.out, HB2.out.trans hb6⟩
end Go.Proofs.YtfmghfghhipmhaaDoor
