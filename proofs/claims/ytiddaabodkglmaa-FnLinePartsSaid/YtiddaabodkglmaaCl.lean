import Derived.Test.YtiddaabodkglmaaCk
namespace Go.Proofs.Ytiddaabodkglmaa
open Go.RowKit Go.Fx
set_option linter.unusedVariables false
set_option linter.unusedSimpArgs false
theorem c8 : cn .f32 1090519040 = 1090519040 := by decide +kernel
theorem c16 : cn .f32 1098907648 = 1098907648 := by decide +kernel
/-- what 'Levels' hands back -/
def LevRes (rs : List Nat) (e : Ending) : Prop :=
  ∃ p b : Nat, e = .returned (.tuple #[.float .f32 p, .float .f32 b, .bool (levelsOk rs)]) ∧ (levelsOk rs = true → cn .f32 p = lvPulse rs ∧ cn .f32 b = lvBlack rs) ∧ (levelsOk rs = false → p = 0 ∧ b = 0)
set_option maxRecDepth 100000 in
theorem iLevels_any (A : Option Addr) (c : Nat) (rs : List Nat) (w : World) (h : Rd w A (rs.map fl)) (hn : rs.length ≤ maxLen) (hc : rs.length ≤ c) :
    Calls Try.prog 66 #[.slice A rs.length c] w fun e w' => LevRes rs e ∧ Ext w w' := by
  have hn' := hn
  unfold maxLen at hn'
  have H := Lib.hid h
  clear h
  by_cases hok : lineOk rs = true
  · have hl := lineOk_len hok
    obtain ⟨l1, l2, l3, l4⟩ := hl
    have hp : pulseOf rs = cutF rs 0 8 := if_pos hok
    have hbu : burstOf rs = cutF rs 8 16 := if_pos hok
    have q1 : (cutF rs 0 8).length = 8 := cutF_len (by omega)
    have q2 : (cutF rs 8 16).length = 16 := cutF_len (by omega)
    go_enter Try.func66, Try.ntmps66
    go_wp2_with (go_at_call 161; refine (iLineOk_any _ _ _ _ H.out hn).mono ?_; rintro e w1 ⟨rfl, rfl⟩)
    refine (iPulseOf_any _ _ _ _ H.out hn hc).mono ?_
    rintro e w1 ⟨⟨v1, rfl, o1⟩, hb1⟩
    rw [hp] at o1
    unfold OF at o1
    rw [q1] at o1
    obtain ⟨A1, c1, rfl, r1, -⟩ := own_slice o1
    go_wp2_with fail
    have hs1 := iSum_any A1 c1 (cutF rs 0 8) w1 r1 (by rw [q1]; unfold maxLen; omega) (by rw [q1]; omega) (by rw [q1]; exact own_cap o1)
    rw [q1] at hs1
    refine hs1.mono ?_
    rintro e w2 ⟨⟨b1, rfl, hv1⟩, n1, rfl⟩
    go_wp2_with (with_reducible refine upon_quo ?_; intro q1' m1 hq1')
    have hb2 := Ext.trans hb1 (Ext.drewN w1 (n1 + m1))
    refine (iBurstOf_any _ _ _ _ (H.out.ext hb2) hn hc).mono ?_
    rintro e w2 ⟨⟨v2, rfl, o2⟩, hb3⟩
    rw [hbu] at o2
    unfold OF at o2
    rw [q2] at o2
    obtain ⟨A2, c2, rfl, r2, -⟩ := own_slice o2
    go_wp2_with fail
    have hs2 := iSum_any A2 c2 (cutF rs 8 16) w2 r2 (by rw [q2]; unfold maxLen; omega) (by rw [q2]; omega) (by rw [q2]; exact own_cap o2)
    rw [q2] at hs2
    refine hs2.mono ?_
    rintro e w3 ⟨⟨b2, rfl, hv2⟩, n2, rfl⟩
    have e1 : cn .f32 q1' = lvPulse rs := by rw [hq1', hv1, c8]; rfl
    have HB : Hid (Ext w (w2.drewN n2)) := Lib.hid ((hb2.trans hb3).trans (Ext.drewN w2 n2))
    have HE1 := Lib.hid e1
    clear hq1' e1 hv1 hs1 hs2 hb1 hb2 hb3 o1 o2 r1 r2
    have hgt : ∀ q2' : Nat, cn .f32 q2' = fop BinOp.quo FloatKind.f32 (cn FloatKind.f32 b2) (cn FloatKind.f32 1098907648) → fgt .f32 q2' q1' = levelsOk rs ∧ Hid (cn .f32 q2' = lvBlack rs) := fun q2' hq => by
      have e2 : cn .f32 q2' = lvBlack rs := by rw [hq, hv2, c16]; rfl
      refine ⟨?_, Lib.hid e2⟩
      unfold levelsOk
      rw [hok, Bool.true_and, ← fgt_cn_l, ← fgt_cn_r, e2, HE1.out]
    go_wp2_with (with_reducible refine upon_quo ?_; intro b n hb; obtain ⟨hgt1, HE2⟩ := hgt b hb; clear hb hgt; cases hlv : levelsOk rs <;> (have HL := Lib.hid hlv; rw [hlv] at hgt1; clear hlv))
    all_goals go_ret3
    · exact ⟨⟨0, 0, by rw [HL.out]; rfl, fun h => (by rw [HL.out] at h; cases h), fun _ => ⟨rfl, rfl⟩⟩, by have := HB.out.trans (Ext.drewN _ n); simpa using this⟩
    · exact ⟨⟨q1', b, by rw [HL.out]; rfl, fun _ => ⟨HE1.out, HE2.out⟩, fun h => (by rw [HL.out] at h; cases h)⟩, by have := HB.out.trans (Ext.drewN _ n); simpa using this⟩
  · have hok' : lineOk rs = false := by simpa using hok
    have hlv : levelsOk rs = false := by unfold levelsOk; rw [hok']; rfl
    have HL := Lib.hid hlv
    clear hlv
    go_enter Try.func66, Try.ntmps66
    go_wp2_with (go_at_call 161; refine (iLineOk_any _ _ _ _ H.out hn).mono ?_; rintro e w1 ⟨rfl, rfl⟩)
    go_ret3
    exact ⟨⟨0, 0, by rw [HL.out]; rfl, fun h => (by rw [HL.out] at h; cases h), fun _ => ⟨rfl, rfl⟩⟩, Ext.refl _⟩
set_option maxRecDepth 100000 in
theorem sLevels_any (A : Option Addr) (c : Nat) (rs : List Nat) (w : World) (h : Rd w A (rs.map fl)) (hn : rs.length ≤ maxLen) (hc : rs.length ≤ c) :
    Calls Try.prog 65 #[.slice A rs.length c] w fun e w' => LevRes rs e ∧ Ext w w' := by
  have hn' := hn
  unfold maxLen at hn'
  have H := Lib.hid h
  clear h
  by_cases hok : lineOk rs = true
  · have hl := lineOk_len hok
    obtain ⟨l1, l2, l3, l4⟩ := hl
    have hp : pulseOf rs = cutF rs 0 8 := if_pos hok
    have hbu : burstOf rs = cutF rs 8 16 := if_pos hok
    have q1 : (cutF rs 0 8).length = 8 := cutF_len (by omega)
    have q2 : (cutF rs 8 16).length = 16 := cutF_len (by omega)
    go_enter Try.func65, Try.ntmps65
    go_wp2_with (go_at_call 110; refine (sLineOk_any _ _ _ _ H.out hn).mono ?_; rintro e w1 ⟨rfl, rfl⟩)
    refine (sPulseOf_any _ _ _ _ H.out hn hc).mono ?_
    rintro e w1 ⟨⟨v1, rfl, o1⟩, hb1⟩
    rw [hp] at o1
    unfold OF at o1
    rw [q1] at o1
    obtain ⟨A1, c1, rfl, r1, -⟩ := own_slice o1
    go_wp2_with fail
    have hs1 := sSum_any A1 c1 (cutF rs 0 8) w1 r1 (by rw [q1]; unfold maxLen; omega) (by rw [q1]; omega)
    rw [q1] at hs1
    refine hs1.mono ?_
    rintro e w2 ⟨⟨b1, rfl, hv1⟩, n1, rfl⟩
    go_wp2_with (with_reducible refine upon_quo ?_; intro q1' m1 hq1')
    have hb2 := Ext.trans hb1 (Ext.drewN w1 (n1 + m1))
    refine (sBurstOf_any _ _ _ _ (H.out.ext hb2) hn hc).mono ?_
    rintro e w2 ⟨⟨v2, rfl, o2⟩, hb3⟩
    rw [hbu] at o2
    unfold OF at o2
    rw [q2] at o2
    obtain ⟨A2, c2, rfl, r2, -⟩ := own_slice o2
    go_wp2_with fail
    have hs2 := sSum_any A2 c2 (cutF rs 8 16) w2 r2 (by rw [q2]; unfold maxLen; omega) (by rw [q2]; omega)
    rw [q2] at hs2
    refine hs2.mono ?_
    rintro e w3 ⟨⟨b2, rfl, hv2⟩, n2, rfl⟩
    have e1 : cn .f32 q1' = lvPulse rs := by rw [hq1', hv1, c8]; rfl
    have HB : Hid (Ext w (w2.drewN n2)) := Lib.hid ((hb2.trans hb3).trans (Ext.drewN w2 n2))
    have HE1 := Lib.hid e1
    clear hq1' e1 hv1 hs1 hs2 hb1 hb2 hb3 o1 o2 r1 r2
    have hgt : ∀ q2' : Nat, cn .f32 q2' = fop BinOp.quo FloatKind.f32 (cn FloatKind.f32 b2) (cn FloatKind.f32 1098907648) → fle .f32 q2' q1' = (!levelsOk rs) ∧ Hid (cn .f32 q2' = lvBlack rs) := fun q2' hq => by
      have e2 : cn .f32 q2' = lvBlack rs := by rw [hq, hv2, c16]; rfl
      refine ⟨?_, Lib.hid e2⟩
      unfold levelsOk
      rw [hok, Bool.true_and, ← fle_cn_l, ← fle_cn_r, e2, HE1.out]
      exact le_of_not_gt (lv_not hok).2 (lv_not hok).1
    go_wp2_with (with_reducible refine upon_quo ?_; intro b n hb; obtain ⟨hgt1, HE2⟩ := hgt b hb; clear hb hgt; cases hlv : levelsOk rs <;> (have HL := Lib.hid hlv; rw [hlv] at hgt1; clear hlv))
    all_goals go_ret3
    · exact ⟨⟨0, 0, by rw [HL.out]; rfl, fun h => (by rw [HL.out] at h; cases h), fun _ => ⟨rfl, rfl⟩⟩, by have := HB.out.trans (Ext.drewN _ n); simpa using this⟩
    · exact ⟨⟨q1', b, by rw [HL.out]; rfl, fun _ => ⟨HE1.out, HE2.out⟩, fun h => (by rw [HL.out] at h; cases h)⟩, by have := HB.out.trans (Ext.drewN _ n); simpa using this⟩
  · have hok' : lineOk rs = false := by simpa using hok
    have hlv : levelsOk rs = false := by unfold levelsOk; rw [hok']; rfl
    have HL := Lib.hid hlv
    clear hlv
    go_enter Try.func65, Try.ntmps65
    go_wp2_with (go_at_call 110; refine (sLineOk_any _ _ _ _ H.out hn).mono ?_; rintro e w1 ⟨rfl, rfl⟩)
    go_ret3
    exact ⟨⟨0, 0, by rw [HL.out]; rfl, fun h => (by rw [HL.out] at h; cases h), fun _ => ⟨rfl, rfl⟩⟩, Ext.refl _⟩
end Go.Proofs.Ytiddaabodkglmaa
