import Derived.Test.YtiddaabodkglmaaK2
namespace Go.Fx
def vLen : Value → Nat
  | .slice _ n _ => n
  | _ => 0
end Go.Fx
namespace Go.Proofs.Ytiddaabodkglmaa
open Go.RowKit Go.Fx
set_option linter.unusedVariables false
set_option linter.unusedSimpArgs false
set_option maxRecDepth 100000 in
set_option maxHeartbeats 4000000 in
theorem equals_any (A B : Option Addr) (c d : Nat) (rs ss : List Nat) (w : World) (h : Rd w A (rs.map fl)) (h' : Rd w B (ss.map fl)) (hn : rs.length ≤ maxLen) (hl : rs.length = ss.length) (he : ∀ (i : Nat) (h1 : i < rs.length) (h2 : i < ss.length), feq .f32 rs[i] ss[i] = true) :
    Calls Try.prog 90 #[.slice A rs.length c, .slice B ss.length d] w fun e w' => e = .returned (.bool true) ∧ ∃ n, w' = w.drewN n := by
  have HE := Lib.hid he
  unfold maxLen at hn
  rw [← hl]
  have HL := Lib.hid hl
  clear he hl
  go_enter Try.func90, Try.ntmps90
  go_wp2
  go_loopw [5] (fun i wr => ∃ (k : Nat), k ≤ rs.length ∧ i = .int .i64 k ∧ ∃ n, wr = w.drewN n) (fun i _ => rs.length - (intOf i).toNat)
  case atStart => exact ⟨0, Nat.zero_le _, rfl, 0, rfl⟩
  case round =>
    obtain ⟨k, hk, rfl, n, rfl⟩ := hrel
    by_cases hlt : k < rs.length
    · have hlt' : k < ss.length := by rw [← HL.out]; exact hlt
      obtain ⟨b, off, rfl, hbw, hc⟩ := rf_at h hlt
      obtain ⟨b', off', rfl, hbw', hc'⟩ := rf_at h' hlt'
      have HK := HE.out k hlt hlt'
      generalize rs[k] = x at *
      generalize ss[k] = y at *
      go_wp2_with fail
      go_quiet (fail)
      all_goals go_wp2_with fail
      all_goals go_roundw
      all_goals first | exact ⟨k + 1, by omega, by go_num, _, rfl⟩ | (simp [intOf]; omega)
    · go_wp2
      go_ret
      exact ⟨rfl, n, rfl⟩
end Go.Proofs.Ytiddaabodkglmaa
