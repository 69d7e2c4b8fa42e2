import Derived.Test.YtiddaabodkglmaaBp
import Derived.Test.YtiddaabodkglmaaDn
namespace Go.Fx
theorem kill_zero {a b : List Nat} (x : Nat) (h : swing a b = 0) : killed a b x = true := by
  unfold killed; rw [h]; rfl
theorem kill_gain {a b : List Nat} {p : Nat} (h : cn .f32 p = hgRe a b) (hp : feq .f32 p 0 = true) : killed a b 1065353216 = true := by
  unfold killed
  rw [← h]
  have hk : fk .f32 p = some 0 := by
    cases hf : fk .f32 p with
    | none =>
      unfold feq at hp
      rw [order_fk, hf] at hp
      simp at hp
    | some v =>
      rw [feq_fk hf fk_zero32, decide_eq_true_eq] at hp
      rw [hp]
  have : flt .f32 (amt (cn .f32 p)) 1065353216 = true := by
    have h1 : fk .f32 (1065353216 : Nat) = some (2 ^ 149) := by decide +kernel
    have hl : flt .f32 (cn .f32 p) 0 = false := by rw [flt_fk ((fk_cn _ _).trans hk) fk_zero32]; rfl
    unfold amt
    rw [hl]
    simp only [Bool.false_eq_true, if_false]
    rw [flt_fk (by rw [fk_cn, fk_cn]; exact hk) h1]; decide
  rw [this, Bool.or_true]
theorem take_killed {a b : List Nat} {x k : Nat} (hp : pairOk a b = true) (hk : killed a b x = true) : takeOk a b x k = true ∧ take a b x k = (pair a b).map (fun r => r.map grey1) := by
  have : takeOk a b x k = true := by unfold takeOk; rw [hp, hk]; rfl
  exact ⟨this, by unfold take; rw [if_pos this, if_pos hk]⟩
theorem take_not {a b : List Nat} {x k : Nat} (hp : pairOk a b = false) : takeOk a b x k = false := by
  unfold takeOk; rw [hp]; rfl
end Go.Fx
namespace Go.Proofs.Ytiddaabodkglmaa
open Go.RowKit Go.Fx
set_option linter.unusedVariables false
set_option linter.unusedSimpArgs false
set_option maxRecDepth 100000 in
set_option maxHeartbeats 4000000 in
theorem sameRow_any (A B : Option Addr) (c d : Nat) (rs ss : List Cel) (w : World) (h : Rd w A (ccells rs)) (h' : Rd w B (ccells ss)) (hn : rs.length ≤ maxLen) (he : cnC rs = cnC ss) :
    Calls Try.prog 134 #[.slice A rs.length c, .slice B ss.length d] w fun e w' => e = .returned (.bool true) ∧ Ext w w' := by
  have hl : rs.length = ss.length := by simpa using congrArg List.length he
  have HE := Lib.hid he
  unfold maxLen at hn
  rw [← hl]
  have HL := Lib.hid hl
  clear he hl
  go_enter Try.func134, Try.ntmps134
  go_wp2_with fail
  go_loopw [5] (fun i wr => ∃ (k : Nat), k ≤ rs.length ∧ i = .int .i64 k ∧ Ext w wr) (fun i _ => rs.length - (intOf i).toNat)
  case atStart => exact ⟨0, Nat.zero_le _, rfl, Ext.refl _⟩
  case round =>
    obtain ⟨k, hk, rfl, hb⟩ := hrel
    by_cases hlt : k < rs.length
    · have hlt' : k < ss.length := by rw [← HL.out]; exact hlt
      obtain ⟨b, off, rfl, hbw, hc, hc1⟩ := rc_at (h.ext hb) hlt
      obtain ⟨b', off', rfl, hbw', hc', hc1'⟩ := rc_at (h'.ext hb) hlt'
      have HK := Lib.hid (cnC_at HE.out hlt hlt')
      generalize rs[k] = x at hc hc1 HK
      generalize ss[k] = y at hc' hc1' HK
      obtain ⟨x1, x2, x3⟩ := x
      obtain ⟨y1, y2, y3⟩ := y
      have K1 : Hid (cn .f32 x1 = cn .f32 y1) := Lib.hid (congrArg Cel.y HK.out)
      have K2 : Hid (cn .f32 x2 = cn .f32 y2) := Lib.hid (congrArg Cel.re HK.out)
      have K3 : Hid (cn .f32 x3 = cn .f32 y3) := Lib.hid (congrArg Cel.im HK.out)
      go_wp2_with fail
      go_quiet (first | (go_at_call 99; exact Calls.quiet_of (same32_any _ _ K1.out _)) | (go_at_call 216; exact Calls.quiet_of (sameColour_any _ _ _ _ K2.out K3.out _)))
      go_wp2_with fail
      go_roundw
      case rel => exact ⟨k + 1, by omega, by go_num, hb.trans (Ext.drewN _ _)⟩
      case measure => simp [intOf]; omega
    · go_wp2_with fail
      go_ret
      exact ⟨rfl, hb⟩
end Go.Proofs.Ytiddaabodkglmaa
