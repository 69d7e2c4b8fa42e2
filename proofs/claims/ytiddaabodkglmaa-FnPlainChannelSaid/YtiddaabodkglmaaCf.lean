import Derived.Test.YtiddaabodkglmaaCe
namespace Go.Proofs.Ytiddaabodkglmaa
open Go.RowKit Go.Fx
set_option linter.unusedVariables false
set_option linter.unusedSimpArgs false

theorem neg_1024 : Op.negFloat .f32 1149239296 = 3296722944 := by decide
theorem sFine_any (A : Option Addr) (c : Nat) (rs : List Nat) (w : World) (h : Rd w A (rs.map fl)) (hn : rs.length ≤ maxLen) :
    Calls Try.prog 136 #[.slice A rs.length c] w fun e w' => e = .returned (.bool (fine rs)) ∧ w = w' := by
  unfold maxLen at hn
  go_enter Try.func136, Try.ntmps136
  go_wp2
  go_loop [3] (fun i => ∃ (k : Nat), k ≤ rs.length ∧ i = .int .i64 k ∧ Hid ((rs.take k).all (fun x => within32 x 1149239296) = true)) (fun i => rs.length - (intOf i).toNat)
  case atStart => exact ⟨0, Nat.zero_le _, rfl, Lib.hid (by simp)⟩
  case round =>
    obtain ⟨k, hk, rfl, H⟩ := hrel
    by_cases hlt : k < rs.length
    · obtain ⟨b, off, rfl, hbw, hc⟩ := rf_at h hlt
      by_cases hp : within32 rs[k] 1149239296 = true
      · have H' := Lib.hid (all_take_step (fun x => within32 x 1149239296) hlt H.out hp)
        simp only [within32, neg_1024, Bool.and_eq_true] at hp
        obtain ⟨h1, h2⟩ := hp
        go_wp2
        go_round
        case rel => exact ⟨k + 1, by omega, by go_num, H'⟩
        case measure => simp [intOf]; omega
      · have hp' : within32 rs[k] 1149239296 = false := by simpa using hp
        have H' := Lib.hid (all_not (fun x => within32 x 1149239296) hlt hp')
        simp only [within32, neg_1024] at hp'
        clear hp
        by_cases h1 : fge .f32 rs[k] 3296722944 = true
        · have h2 : fle .f32 rs[k] 1149239296 = false := by simpa [h1] using hp'
          clear hp'
          go_wp2
          go_ret
          exact ⟨by rw [fine, H'.out]; rfl, rfl⟩
        · have h2 : fge .f32 rs[k] 3296722944 = false := by simpa using h1
          clear hp' h1
          go_wp2
          go_ret
          exact ⟨by rw [fine, H'.out]; rfl, rfl⟩
    · go_wp2
      go_ret
      obtain rfl : k = rs.length := by omega
      have := H.out
      rw [List.take_length] at this
      exact ⟨by rw [fine, this]; rfl, rfl⟩
theorem sSamplesOk_any (A : Option Addr) (c : Nat) (rs : List Nat) (w : World) (h : Rd w A (rs.map fl)) (hn : rs.length ≤ maxLen) :
    Calls Try.prog 35 #[.slice A rs.length c] w fun e w' => e = .returned (.bool (samplesOk rs)) ∧ w = w' := by
  have hn' := hn
  unfold maxLen at hn'
  have H := Lib.hid h
  clear h
  go_enter Try.func35, Try.ntmps35
  go_wp2_with (first | (go_at_call 135; refine (sIn_any _ _ _ _).mono ?_; rintro e w1 ⟨rfl, rfl⟩) | (go_at_call 136; refine (sFine_any _ _ _ _ H.out hn).mono ?_; rintro e w1 ⟨rfl, rfl⟩))
  all_goals go_ret
  all_goals refine ⟨?_, rfl⟩
  all_goals first | (simp_all [samplesOk]; done) | (simp_all [samplesOk]; omega)
theorem bounded1_any (x : Nat) (w : World) : Calls Try.prog 218 #[.float .f32 x] w fun e w' => e = .returned (.bool (!within32 x 1149239296)) ∧ w = w' := by
  go_enter Try.func218, Try.ntmps218
  go_wp2_with (first | (go_at_call 153; refine (amount_any _ _).mono ?_; rintro e w1 ⟨⟨b, rfl, hb⟩, rfl⟩; replace hb := fun c => (fle_amt (c := c) hb)))
  all_goals go_ret
  refine ⟨?_, rfl⟩
  simp_all [amt_1024]
theorem indexF_any (A : Option Addr) (c : Nat) (rs : List Nat) (w : World) (h : Rd w A (rs.map fl)) (hn : rs.length ≤ maxLen) :
    Calls Try.prog 239 #[.slice A rs.length c, .func (.func 218) #[] #[]] w fun e w' => (∃ k : Int, e = .returned (.int .i64 k) ∧ decide (0 ≤ k) = !(fine rs)) ∧ w = w' := by
  unfold maxLen at hn
  go_enter Try.func239, Try.ntmps239
  go_wp2
  go_loop [8] (fun i => ∃ (k : Nat), k ≤ rs.length ∧ i = .int .i64 k ∧ Hid ((rs.take k).all (fun x => within32 x 1149239296) = true)) (fun i => rs.length - (intOf i).toNat)
  case atStart => exact ⟨0, Nat.zero_le _, rfl, Lib.hid (by simp)⟩
  case round =>
    obtain ⟨k, hk, rfl, H⟩ := hrel
    by_cases hlt : k < rs.length
    · obtain ⟨b, off, rfl, hbw, hc⟩ := rf_at h hlt
      by_cases hp : within32 rs[k] 1149239296 = true
      · have H' := Lib.hid (all_take_step (fun x => within32 x 1149239296) hlt H.out hp)
        go_wp2_with (first | (go_at_call 218; refine (bounded1_any _ _).mono ?_; rintro e w1 ⟨rfl, rfl⟩))
        go_round
        case rel => exact ⟨k + 1, by omega, by go_num, H'⟩
        case measure => simp [intOf]; omega
      · have hp' : within32 rs[k] 1149239296 = false := by simpa using hp
        have H' := Lib.hid (all_not (fun x => within32 x 1149239296) hlt hp')
        clear hp
        go_wp2_with (first | (go_at_call 218; refine (bounded1_any _ _).mono ?_; rintro e w1 ⟨rfl, rfl⟩))
        go_ret
        exact ⟨⟨_, rfl, by rw [fine, H'.out]; simp⟩, rfl⟩
    · go_wp2
      go_ret
      obtain rfl : k = rs.length := by omega
      have := H.out
      rw [List.take_length] at this
      exact ⟨⟨_, rfl, by rw [fine, this]; rfl⟩, rfl⟩
theorem bounded_any (A : Option Addr) (c : Nat) (rs : List Nat) (w : World) (h : Rd w A (rs.map fl)) (hn : rs.length ≤ maxLen) :
    Calls Try.prog 138 #[.slice A rs.length c] w fun e w' => e = .returned (.bool (fine rs)) ∧ w = w' := by
  have H := Lib.hid h
  have HN := Lib.hid hn
  clear h hn
  go_enter Try.func138, Try.ntmps138
  go_wp2_with fail
  go_enter Try.func217, Try.ntmps217
  go_wp2_with (first | (go_at_call 239; refine (indexF_any _ _ _ _ H.out HN.out).mono ?_; rintro e w1 ⟨⟨k, rfl, hk⟩, rfl⟩))
  go_ret
  refine ⟨?_, rfl⟩
  simp_all
theorem iSamplesOk_any (A : Option Addr) (c : Nat) (rs : List Nat) (w : World) (h : Rd w A (rs.map fl)) (hn : rs.length ≤ maxLen) :
    Calls Try.prog 37 #[.slice A rs.length c] w fun e w' => e = .returned (.bool (samplesOk rs)) ∧ w = w' := by
  have hn' := hn
  unfold maxLen at hn'
  have H := Lib.hid h
  clear h
  go_enter Try.func37, Try.ntmps37
  go_wp2_with (first | (go_at_call 137; refine (within_any _ _ _ _).mono ?_; rintro e w1 ⟨rfl, rfl⟩) | (go_at_call 138; refine (bounded_any _ _ _ _ H.out hn).mono ?_; rintro e w1 ⟨rfl, rfl⟩))
  all_goals go_ret
  all_goals refine ⟨?_, rfl⟩
  all_goals first | (simp_all [samplesOk]; done) | (simp_all [samplesOk]; omega)
end Go.Proofs.Ytiddaabodkglmaa
