/- For every slice of singles: ToLevel answers what the reference answers, in memory of its own, and leaves its argument as it was (FnExactToLevel returns true). No condition. -/
import Derived.Test.YtiddaabodkglmaaWToLevel
import Derived.Test.YtiddaabodkglmaaRw
import Derived.Test.YtiddaabodkglmaaRx
import Derived.Test.YtiddaabodkglmaaGrT
import Derived.Test.YtiddaabodkglmaaRows
namespace Go.Proofs.Ytiddaabodkglmaa
open Go.RowKit Go.Fx
set_option linter.unusedVariables false
set_option linter.unusedSimpArgs false

theorem toLevel_own : ownKnob Try.prog.godebug = none := by kernel_rfl
theorem toLevel_laid : laidOutB Try.prog = true := by kernel_rfl
open Go.ChangeShapes Go.WideShapes Go.ChangeAt in
set_option maxRecDepth 100000 in
theorem toLevel_lifted (os : Os) (started : os.Started) (H : Type) (enc : TypeId × Value → H) :
    ReturnsInHanded {} Try.checked os 18 .any (Rows.fnExactToLevelSpec.pre6 enc Try.prog Try.f18 Rows.fnExactToLevelRow.domain false) (Rows.fnExactToLevelSpec.post enc Try.prog Try.f18 false true false false) := by
  refine returnsInHanded_of_change (C := Try.checked) toLevel_own started (by kernel_rfl) Try.func18
    (ChangeSpec.witness6 (enc := enc) (C := Try.checked) false ⟨#[], #[.slice none 0 0], []⟩ 8 (by kernel_rfl) (by kernel_rfl) (by kernel_rfl) (by kernel_rfl)) ?_
  intro W base args ds gs before hval0 hW hcnd _
  have hval : ∀ (j : Nat) t v, Try.f18.params[j]? = some t → args[j]? = some v → Value.okWide Try.prog W .any base t v := hval0
  have hlt : ∀ p ∈ before, p.block < W.heap.size := fun p hp => hW.lt p hp
  have hW' := hW
  obtain ⟨p, q, hA0, hV, rfl, hfz, hnd⟩ := hW
  have hA : DataW.TrodAll enc Try.prog W 0 (fun _ => true) true Try.f18.params.toList args.toList ds p := hA0
  rw [Try.params18] at hA hval
  obtain ⟨v0, d0, rfl, rfl, h0⟩ := trodAll_one hA
  obtain ⟨A0, c0, rs, rfl, hr0, hn0, _⟩ := open_f32s Try.underlying22 Try.underlying29 (by kernel_rfl) (hval 0 _ v0 rfl rfl) h0 (fun x hx => hlt x (List.mem_append_left _ hx))
  refine (toLevel_walk A0 c0 rs W hr0 hn0 ).mono fun e W' ⟨he, hB⟩ => ?_
  subst he
  exact ⟨_, rfl, law_post toLevel_laid (by kernel_rfl) rfl (fun hg => by subst hg; rfl) rfl Try.underlying4 hW' hB⟩
theorem toLevel_inPlace : Try.prog.inPlace 18 = Rows.fnExactToLevelRow.inPlace := by unfold Program.inPlace; rw [closure_of]; kernel_rfl
theorem toLevel_unfollowed : Try.prog.unfollowed 18 = Rows.fnExactToLevelRow.unfollowed := by unfold Program.unfollowed; rw [closure_of]; kernel_rfl
theorem toLevel_recurses : Try.prog.recurses 18 = Rows.fnExactToLevelRow.recurses := by rw [recurses_of, toLevel_unfollowed, closure_of]; kernel_rfl
theorem toLevel_named : Try.prog.varsNamed 18 = Rows.fnExactToLevelRow.named := by unfold Program.varsNamed; rw [closure_of]; kernel_rfl
set_option maxHeartbeats 4000000 in
theorem toLevel_closed : joinedFacts Try.prog 18 Try.f18 Rows.fnExactToLevelSpec Rows.fnExactToLevelRow = true := by
  unfold joinedFacts
  rw [toLevel_inPlace, toLevel_unfollowed, toLevel_recurses, toLevel_named, may_enter, lifts_final, make_is]
  repeat' (with_reducible refine Bool.and_eq_true_iff.2 ⟨?_, ?_⟩)
  all_goals (as_aux_lemma => kernel_rfl)
theorem toLevel_holds : Rows.FnExactToLevelSaid :=
  OpenClaim.holds_of_wide 18 Try.f18 rfl rfl rfl rfl rfl rfl rfl ⟨rfl, rfl, rfl, rfl, rfl⟩ rfl rfl rfl rfl rfl (by as_aux_lemma => kernel_rfl) Try.func18 toLevel_closed
    (of_decide_eq_true (by kernel_rfl)) (by unfold Func.isWrapper; first | (rw [if_pos (by decide +kernel)]; kernel_rfl) | (rw [if_neg (by decide +kernel)]; exact ⟨rfl, rfl⟩))
    (fun os started H enc _ => toLevel_lifted os started H enc)
end Go.Proofs.Ytiddaabodkglmaa
