/- For every slice of singles: the program's SamplesOk answers what the reference's answers and leaves its argument as it was (FnExactSamplesOk returns true). No condition. -/
import Derived.Test.YtiddaabodkglmaaCf
import Derived.Test.YtiddaabodkglmaaRw
import Derived.Test.YtiddaabodkglmaaGrT
import Derived.Test.YtiddaabodkglmaaRows
namespace Go.Proofs.Ytiddaabodkglmaa
open Go.RowKit Go.Fx
set_option linter.unusedVariables false
set_option linter.unusedSimpArgs false

theorem samplesOk_walk (A : Option Addr) (c : Nat) (rs : List Nat) (w : World) (h : Rd w A (rs.map fl)) (hn : rs.length ≤ maxLen) :
    Calls Try.prog 3 #[.slice A rs.length c] w fun e w' => e = .returned (.bool true) ∧ Ext w w' := by
  have hn' := hn
  unfold maxLen at hn'
  have H := Lib.hid h
  clear h
  by_cases hbig : 1048576 < rs.length
  · go_enter Try.func3, Try.ntmps3
    go_wp2_with fail
    go_ret
    exact ⟨rfl, Ext.refl _⟩
  · go_enter Try.func3, Try.ntmps3
    go_wp2_with fail
    refine (toF_any A c rs _ H.out (by omega)).mono ?_
    rintro e w1 ⟨⟨v1, rfl, ho1⟩, hb1⟩
    obtain ⟨A1, c1, rfl, hr1, _⟩ := own_slice ho1
    go_wp2_with fail
    refine (sSamplesOk_any A1 c1 rs _ hr1 hn).mono ?_
    rintro e w2 ⟨rfl, rfl⟩
    go_wp2_with fail
    refine (toF_any A c rs _ (H.out.ext hb1) (by omega)).mono ?_
    rintro e w2 ⟨⟨v2, rfl, ho2⟩, hb2⟩
    obtain ⟨A2, c2, rfl, hr2, _⟩ := own_slice ho2
    go_wp2_with fail
    refine (iSamplesOk_any A2 c2 rs _ hr2 hn).mono ?_
    rintro e w3 ⟨rfl, rfl⟩
    go_wp2_with fail
    refine (toF_any A c rs _ ((H.out.ext hb1).ext hb2) (by omega)).mono ?_
    rintro e w3 ⟨⟨v3, rfl, ho3⟩, hb3⟩
    obtain ⟨A3, c3, rfl, hr3, _⟩ := own_slice ho3
    go_wp2_with fail
    refine (eqF_any A2 A3 c2 c3 rs rs _ (hr2.ext hb3) hr3 hn rfl).mono ?_
    rintro e w4 ⟨rfl, n, rfl⟩
    go_wp2_with fail
    go_ret
    exact ⟨rfl, Ext.trans (Ext.trans (Ext.trans hb1 hb2) hb3) (Ext.drewN _ _)⟩

theorem samplesOk_own : ownKnob Try.prog.godebug = none := by kernel_rfl
theorem samplesOk_laid : laidOutB Try.prog = true := by kernel_rfl
open Go.ChangeShapes Go.WideShapes Go.ChangeAt in
set_option maxRecDepth 100000 in
theorem samplesOk_lifted (os : Os) (started : os.Started) (H : Type) (enc : TypeId × Value → H) :
    ReturnsInHanded {} Try.checked os 3 .any (Rows.fnExactSamplesOkSpec.pre6 enc Try.prog Try.f3 Rows.fnExactSamplesOkRow.domain false) (Rows.fnExactSamplesOkSpec.post enc Try.prog Try.f3 false true false false) := by
  refine returnsInHanded_of_change (C := Try.checked) samplesOk_own started (by kernel_rfl) Try.func3
    (ChangeSpec.witness6 (enc := enc) (C := Try.checked) false ⟨#[], #[.slice none 0 0], []⟩ 8 (by kernel_rfl) (by kernel_rfl) (by kernel_rfl) (by kernel_rfl)) ?_
  intro W base args ds gs before hval0 hW hcnd _
  have hval : ∀ (j : Nat) t v, Try.f3.params[j]? = some t → args[j]? = some v → Value.okWide Try.prog W .any base t v := hval0
  have hlt : ∀ p ∈ before, p.block < W.heap.size := fun p hp => hW.lt p hp
  have hW' := hW
  obtain ⟨p, q, hA0, hV, rfl, hfz, hnd⟩ := hW
  have hA : DataW.TrodAll enc Try.prog W 0 (fun _ => true) true Try.f3.params.toList args.toList ds p := hA0
  rw [Try.params3] at hA hval
  obtain ⟨v0, d0, rfl, rfl, h0⟩ := trodAll_one hA
  obtain ⟨A, c, rs, rfl, hr, hn, _⟩ := open_f32s Try.underlying22 Try.underlying29 (by kernel_rfl) (hval 0 _ v0 rfl rfl) h0 (fun x hx => hlt x (List.mem_append_left _ hx))
  refine (samplesOk_walk A c rs W hr hn).mono fun e W' ⟨he, hB⟩ => ?_
  subst he
  exact ⟨_, rfl, law_post samplesOk_laid (by kernel_rfl) rfl (fun hg => by subst hg; rfl) rfl Try.underlying4 hW' hB⟩
theorem samplesOk_inPlace : Try.prog.inPlace 3 = Rows.fnExactSamplesOkRow.inPlace := by unfold Program.inPlace; rw [closure_of]; kernel_rfl
theorem samplesOk_unfollowed : Try.prog.unfollowed 3 = Rows.fnExactSamplesOkRow.unfollowed := by unfold Program.unfollowed; rw [closure_of]; kernel_rfl
theorem samplesOk_recurses : Try.prog.recurses 3 = Rows.fnExactSamplesOkRow.recurses := by rw [recurses_of, samplesOk_unfollowed, closure_of]; kernel_rfl
theorem samplesOk_named : Try.prog.varsNamed 3 = Rows.fnExactSamplesOkRow.named := by unfold Program.varsNamed; rw [closure_of]; kernel_rfl
set_option maxHeartbeats 4000000 in
theorem samplesOk_closed : joinedFacts Try.prog 3 Try.f3 Rows.fnExactSamplesOkSpec Rows.fnExactSamplesOkRow = true := by
  unfold joinedFacts
  rw [samplesOk_inPlace, samplesOk_unfollowed, samplesOk_recurses, samplesOk_named, may_enter, lifts_final, make_is]
  repeat' (with_reducible refine Bool.and_eq_true_iff.2 ⟨?_, ?_⟩)
  all_goals (as_aux_lemma => kernel_rfl)
theorem samplesOk_holds : Rows.FnExactSamplesOkSaid :=
  OpenClaim.holds_of_wide 3 Try.f3 rfl rfl rfl rfl rfl rfl rfl ⟨rfl, rfl, rfl, rfl, rfl⟩ rfl rfl rfl rfl rfl (by as_aux_lemma => kernel_rfl) Try.func3 samplesOk_closed
    (of_decide_eq_true (by kernel_rfl)) (by unfold Func.isWrapper; first | (rw [if_pos (by decide +kernel)]; kernel_rfl) | (rw [if_neg (by decide +kernel)]; exact ⟨rfl, rfl⟩))
    (fun os started H enc _ => samplesOk_lifted os started H enc)
end Go.Proofs.Ytiddaabodkglmaa
