/- For every two ints: NewSet answers what the reference answers, in memory of its own (FnExactNewSet returns true). No condition. -/
import Derived.Test.YtiddaabodkglmaaWNewSet
import Derived.Test.YtiddaabodkglmaaRw
import Derived.Test.YtiddaabodkglmaaRx
import Derived.Test.YtiddaabodkglmaaGrT
import Derived.Test.YtiddaabodkglmaaRows
namespace Go.Proofs.Ytiddaabodkglmaa
open Go.RowKit Go.Fx
set_option linter.unusedVariables false
set_option linter.unusedSimpArgs false

theorem newSet_own : ownKnob Try.prog.godebug = none := by kernel_rfl
theorem newSet_laid : laidOutB Try.prog = true := by kernel_rfl
open Go.ChangeShapes Go.WideShapes Go.ChangeAt in
set_option maxRecDepth 100000 in
theorem newSet_lifted (os : Os) (started : os.Started) (H : Type) (enc : TypeId × Value → H) :
    ReturnsInHanded {} Try.checked os 8 .any (Rows.fnExactNewSetSpec.pre6 enc Try.prog Try.f8 Rows.fnExactNewSetRow.domain false) (Rows.fnExactNewSetSpec.post enc Try.prog Try.f8 false true false false) := by
  refine returnsInHanded_of_change (C := Try.checked) newSet_own started (by kernel_rfl) Try.func8
    (ChangeSpec.witness6 (enc := enc) (C := Try.checked) false ⟨#[], #[.int .i64 0, .int .i64 0], []⟩ 8 (by kernel_rfl) (by kernel_rfl) (by kernel_rfl) (by kernel_rfl)) ?_
  intro W base args ds gs before hval0 hW hcnd _
  have hval : ∀ (j : Nat) t v, Try.f8.params[j]? = some t → args[j]? = some v → Value.okWide Try.prog W .any base t v := hval0
  have hlt : ∀ p ∈ before, p.block < W.heap.size := fun p hp => hW.lt p hp
  have hW' := hW
  obtain ⟨p, q, hA0, hV, rfl, hfz, hnd⟩ := hW
  have hA : DataW.TrodAll enc Try.prog W 0 (fun _ => true) true Try.f8.params.toList args.toList ds p := hA0
  rw [Try.params8] at hA hval
  obtain ⟨v0, v1, d0, d1, p0, p1, rfl, rfl, rfl, h0, h1⟩ := trodAll_two hA
  obtain ⟨cells, rfl, hi0⟩ := open_i64 Try.underlying3 (hval 0 _ v0 rfl rfl) h0
  obtain ⟨rows, rfl, hi1⟩ := open_i64 Try.underlying3 (hval 1 _ v1 rfl rfl) h1
  refine (newSet_walk cells rows W  ).mono fun e W' ⟨he, hB⟩ => ?_
  subst he
  exact ⟨_, rfl, law_post newSet_laid (by kernel_rfl) rfl (fun hg => by subst hg; rfl) rfl Try.underlying4 hW' hB⟩
theorem newSet_inPlace : Try.prog.inPlace 8 = Rows.fnExactNewSetRow.inPlace := by unfold Program.inPlace; rw [closure_of]; kernel_rfl
theorem newSet_unfollowed : Try.prog.unfollowed 8 = Rows.fnExactNewSetRow.unfollowed := by unfold Program.unfollowed; rw [closure_of]; kernel_rfl
theorem newSet_recurses : Try.prog.recurses 8 = Rows.fnExactNewSetRow.recurses := by rw [recurses_of, newSet_unfollowed, closure_of]; kernel_rfl
theorem newSet_named : Try.prog.varsNamed 8 = Rows.fnExactNewSetRow.named := by unfold Program.varsNamed; rw [closure_of]; kernel_rfl
set_option maxHeartbeats 4000000 in
theorem newSet_closed : joinedFacts Try.prog 8 Try.f8 Rows.fnExactNewSetSpec Rows.fnExactNewSetRow = true := by
  unfold joinedFacts
  rw [newSet_inPlace, newSet_unfollowed, newSet_recurses, newSet_named, may_enter, lifts_final, make_is]
  repeat' (with_reducible refine Bool.and_eq_true_iff.2 ⟨?_, ?_⟩)
  all_goals (as_aux_lemma => kernel_rfl)
theorem newSet_holds : Rows.FnExactNewSetSaid :=
  OpenClaim.holds_of_wide 8 Try.f8 rfl rfl rfl rfl rfl rfl rfl ⟨rfl, rfl, rfl, rfl, rfl⟩ rfl rfl rfl rfl rfl (by as_aux_lemma => kernel_rfl) Try.func8 newSet_closed
    (of_decide_eq_true (by kernel_rfl)) (by unfold Func.isWrapper; first | (rw [if_pos (by decide +kernel)]; kernel_rfl) | (rw [if_neg (by decide +kernel)]; exact ⟨rfl, rfl⟩))
    (fun os started H enc _ => newSet_lifted os started H enc)
end Go.Proofs.Ytiddaabodkglmaa
