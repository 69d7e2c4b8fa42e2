/- For every slice of singles: Levels answers what the reference answers, and leaves its argument as it was (FnExactLevels returns true). No condition. -/
import Derived.Test.YtiddaabodkglmaaWLevels
import Derived.Test.YtiddaabodkglmaaRw
import Derived.Test.YtiddaabodkglmaaRx
import Derived.Test.YtiddaabodkglmaaGrT
import Derived.Test.YtiddaabodkglmaaRows
namespace Go.Proofs.Ytiddaabodkglmaa
open Go.RowKit Go.Fx
set_option linter.unusedVariables false
set_option linter.unusedSimpArgs false

theorem levels_own : ownKnob Try.prog.godebug = none := by kernel_rfl
theorem levels_laid : laidOutB Try.prog = true := by kernel_rfl
open Go.ChangeShapes Go.WideShapes Go.ChangeAt in
set_option maxRecDepth 100000 in
theorem levels_lifted (os : Os) (started : os.Started) (H : Type) (enc : TypeId × Value → H) :
    ReturnsInHanded {} Try.checked os 10 .any (Rows.fnExactLevelsSpec.pre6 enc Try.prog Try.f10 Rows.fnExactLevelsRow.domain false) (Rows.fnExactLevelsSpec.post enc Try.prog Try.f10 false true false false) := by
  refine returnsInHanded_of_change (C := Try.checked) levels_own started (by kernel_rfl) Try.func10
    (ChangeSpec.witness6 (enc := enc) (C := Try.checked) false ⟨#[], #[.slice none 0 0], []⟩ 8 (by kernel_rfl) (by kernel_rfl) (by kernel_rfl) (by kernel_rfl)) ?_
  intro W base args ds gs before hval0 hW hcnd _
  have hval : ∀ (j : Nat) t v, Try.f10.params[j]? = some t → args[j]? = some v → Value.okWide Try.prog W .any base t v := hval0
  have hlt : ∀ p ∈ before, p.block < W.heap.size := fun p hp => hW.lt p hp
  have hW' := hW
  obtain ⟨p, q, hA0, hV, rfl, hfz, hnd⟩ := hW
  have hA : DataW.TrodAll enc Try.prog W 0 (fun _ => true) true Try.f10.params.toList args.toList ds p := hA0
  rw [Try.params10] at hA hval
  obtain ⟨v0, d0, rfl, rfl, h0⟩ := trodAll_one hA
  obtain ⟨A0, c0, rs, rfl, hr0, hn0, _⟩ := open_f32s Try.underlying22 Try.underlying29 (by kernel_rfl) (hval 0 _ v0 rfl rfl) h0 (fun x hx => hlt x (List.mem_append_left _ hx))
  refine (levels_walk A0 c0 rs W hr0 hn0 ).mono fun e W' ⟨he, hB⟩ => ?_
  subst he
  exact ⟨_, rfl, law_post levels_laid (by kernel_rfl) rfl (fun hg => by subst hg; rfl) rfl Try.underlying4 hW' hB⟩
theorem levels_inPlace : Try.prog.inPlace 10 = Rows.fnExactLevelsRow.inPlace := by unfold Program.inPlace; rw [closure_of]; kernel_rfl
theorem levels_unfollowed : Try.prog.unfollowed 10 = Rows.fnExactLevelsRow.unfollowed := by unfold Program.unfollowed; rw [closure_of]; kernel_rfl
theorem levels_recurses : Try.prog.recurses 10 = Rows.fnExactLevelsRow.recurses := by rw [recurses_of, levels_unfollowed, closure_of]; kernel_rfl
theorem levels_named : Try.prog.varsNamed 10 = Rows.fnExactLevelsRow.named := by unfold Program.varsNamed; rw [closure_of]; kernel_rfl
set_option maxHeartbeats 4000000 in
theorem levels_closed : joinedFacts Try.prog 10 Try.f10 Rows.fnExactLevelsSpec Rows.fnExactLevelsRow = true := by
  unfold joinedFacts
  rw [levels_inPlace, levels_unfollowed, levels_recurses, levels_named, may_enter, lifts_final, make_is]
  repeat' (with_reducible refine Bool.and_eq_true_iff.2 ⟨?_, ?_⟩)
  all_goals (as_aux_lemma => kernel_rfl)
theorem levels_holds : Rows.FnExactLevelsSaid :=
  OpenClaim.holds_of_wide 10 Try.f10 rfl rfl rfl rfl rfl rfl rfl ⟨rfl, rfl, rfl, rfl, rfl⟩ rfl rfl rfl rfl rfl (by as_aux_lemma => kernel_rfl) Try.func10 levels_closed
    (of_decide_eq_true (by kernel_rfl)) (by unfold Func.isWrapper; first | (rw [if_pos (by decide +kernel)]; kernel_rfl) | (rw [if_neg (by decide +kernel)]; exact ⟨rfl, rfl⟩))
    (fun os started H enc _ => levels_lifted os started H enc)
end Go.Proofs.Ytiddaabodkglmaa
