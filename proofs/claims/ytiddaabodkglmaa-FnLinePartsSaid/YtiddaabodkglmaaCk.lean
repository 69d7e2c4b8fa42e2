import Derived.Test.YtiddaabodkglmaaCj
import Derived.Test.YtiddaabodkglmaaFb
namespace Go.Proofs.Ytiddaabodkglmaa
open Go.RowKit Go.Fx
set_option linter.unusedVariables false
set_option linter.unusedSimpArgs false

set_option maxRecDepth 100000 in
theorem sSum_any (A : Option Addr) (c : Nat) (rs : List Nat) (w : World) (h : Rd w A (rs.map fl)) (hn : rs.length ≤ maxLen) (h1 : 0 < rs.length) :
    Calls Try.prog 158 #[.slice A rs.length c] w fun e w' => (∃ b, e = .returned (.float .f32 b) ∧ cn .f32 b = sumAll rs) ∧ ∃ n, w' = w.drewN n := by
  unfold maxLen at hn
  obtain ⟨b, off, rfl, hbw, hc0⟩ := rf_at h h1
  rw [Nat.add_zero] at hc0
  go_enter Try.func158, Try.ntmps158
  go_wp2
  go_loopw [3, 4] (fun s i wr => ∃ (k x : Nat), k < rs.length ∧ i = .int .i64 (k + 1) ∧ s = .float .f32 x ∧ Hid (cn .f32 x = sumN rs k) ∧ ∃ n, wr = w.drewN n) (fun _ i _ => rs.length + 1 - (intOf i).toNat)
  case atStart => exact ⟨0, _, h1, rfl, rfl, Lib.hid (by simp [sumN, h1]), 0, rfl⟩
  case round =>
    obtain ⟨k, x, hk, rfl, rfl, H, n, rfl⟩ := hrel
    clear hc0
    by_cases hlt : k + 1 < rs.length
    · obtain ⟨b', off', hbo, hbw', hc⟩ := rf_at (h.drewN n) hlt
      cases hbo
      go_wp2_with (with_reducible first | (refine upon_add ?_; intro b n hb) | (refine upon_sub ?_; intro b n hb) | (refine upon_mul ?_; intro b n hb) | (refine upon_quo ?_; intro b n hb))
      go_roundw
      case rel => exact ⟨k + 1, b, hlt, by go_num, rfl, Lib.hid (by rw [hb, H.out]; simp [sumN, hlt]), _, rfl⟩
      case measure => simp [intOf]; omega
    · go_wp2
      go_ret
      refine ⟨⟨_, rfl, ?_⟩, n, rfl⟩
      rw [H.out]
      congr 1
      omega

set_option maxRecDepth 100000 in
theorem iSum_any (A : Option Addr) (c : Nat) (rs : List Nat) (w : World) (h : Rd w A (rs.map fl)) (hn : rs.length ≤ maxLen) (h2 : 2 ≤ rs.length) (hcap : rs.length ≤ c) :
    Calls Try.prog 162 #[.slice A rs.length c] w fun e w' => (∃ b, e = .returned (.float .f32 b) ∧ cn .f32 b = sumAll rs) ∧ ∃ n, w' = w.drewN n := by
  unfold maxLen at hn
  obtain ⟨b, off, rfl, hbw, hc0⟩ := rf_at h (show 0 < rs.length by omega)
  rw [Nat.add_zero] at hc0
  go_enter Try.func162, Try.ntmps162
  go_wp2
  go_loopw [3, 12] (fun s i wr => ∃ (k x : Nat), k < rs.length ∧ i = .int .i64 k ∧ s = .float .f32 x ∧ Hid (cn .f32 x = sumN rs k) ∧ ∃ n, wr = w.drewN n) (fun _ i _ => rs.length - (intOf i).toNat)
  case atStart => exact ⟨0, _, by omega, rfl, rfl, Lib.hid (by simp [sumN, show 0 < rs.length by omega]), 0, rfl⟩
  case round =>
    obtain ⟨k, x, hk, rfl, rfl, H, n, rfl⟩ := hrel
    clear hc0
    by_cases hlt : k + 1 < rs.length
    · obtain ⟨b', off', hbo, hbw', hc⟩ := rf_at (h.drewN n) hlt
      cases hbo
      rw [show off + (k + 1) = off + 1 + k by omega] at hc
      go_wp2_with (with_reducible first | (refine upon_add ?_; intro b n hb) | (refine upon_sub ?_; intro b n hb) | (refine upon_mul ?_; intro b n hb) | (refine upon_quo ?_; intro b n hb))
      all_goals trace_state
      go_roundw
      case rel => exact ⟨k + 1, b, hlt, by go_num, rfl, Lib.hid (by rw [hb, H.out]; simp [sumN, hlt]), _, rfl⟩
      case measure => simp [intOf]; omega
    · go_wp2
      go_ret
      refine ⟨⟨_, rfl, ?_⟩, n, rfl⟩
      rw [H.out]
      congr 1
      omega
end Go.Proofs.Ytiddaabodkglmaa
