/- For every set: SetOk answers what the reference answers, and leaves its argument as it was (FnExactSetOk returns true). No condition. -/
import Derived.Test.YtiddaabodkglmaaWSetOk
import Derived.Test.YtiddaabodkglmaaRo
import Derived.Test.YtiddaabodkglmaaRw
import Derived.Test.YtiddaabodkglmaaRx
import Derived.Test.YtiddaabodkglmaaGrT
import Derived.Test.YtiddaabodkglmaaRows
namespace Go.Proofs.Ytiddaabodkglmaa
open Go.RowKit Go.Fx
set_option linter.unusedVariables false
set_option linter.unusedSimpArgs false

theorem setOk_own : ownKnob Try.prog.godebug = none := by kernel_rfl
theorem setOk_laid : laidOutB Try.prog = true := by kernel_rfl
open Go.ChangeShapes Go.WideShapes Go.ChangeAt in
set_option maxRecDepth 100000 in
theorem setOk_lifted (os : Os) (started : os.Started) (H : Type) (enc : TypeId × Value → H) :
    ReturnsInHanded {} Try.checked os 7 .any (Rows.fnExactSetOkSpec.pre6 enc Try.prog Try.f7 Rows.fnExactSetOkRow.domain false) (Rows.fnExactSetOkSpec.post enc Try.prog Try.f7 false true false false) := by
  refine returnsInHanded_of_change (C := Try.checked) setOk_own started (by kernel_rfl) Try.func7
    (ChangeSpec.witness6 (enc := enc) (C := Try.checked) false ⟨#[], #[.agg #[.int .i64 0, .int .i64 0, .float .f32 0, .float .f32 0, .float .f32 0, .slice none 0 0]], []⟩ 8 (by kernel_rfl) (by kernel_rfl) (by kernel_rfl) (by kernel_rfl)) ?_
  intro W base args ds gs before hval0 hW hcnd _
  have hval : ∀ (j : Nat) t v, Try.f7.params[j]? = some t → args[j]? = some v → Value.okWide Try.prog W .any base t v := hval0
  have hlt : ∀ p ∈ before, p.block < W.heap.size := fun p hp => hW.lt p hp
  have hW' := hW
  obtain ⟨p, q, hA0, hV, rfl, hfz, hnd⟩ := hW
  have hA : DataW.TrodAll enc Try.prog W 0 (fun _ => true) true Try.f7.params.toList args.toList ds p := hA0
  rw [Try.params7] at hA hval
  obtain ⟨v0, d0, rfl, rfl, h0⟩ := trodAll_one hA
  obtain ⟨cells0, rows0, slice0, least0, sat0, A0, c0, log, rfl, hr0, hn0, hb0⟩ := open_set (hval 0 _ v0 rfl rfl) h0
  refine (setOk_walk cells0 rows0 slice0 least0 sat0 A0 c0 log W hr0 hn0 hb0 ).mono fun e W' ⟨he, hB⟩ => ?_
  subst he
  exact ⟨_, rfl, law_post setOk_laid (by kernel_rfl) rfl (fun hg => by subst hg; rfl) rfl Try.underlying4 hW' hB⟩
theorem setOk_inPlace : Try.prog.inPlace 7 = Rows.fnExactSetOkRow.inPlace := by unfold Program.inPlace; rw [closure_of]; kernel_rfl
theorem setOk_unfollowed : Try.prog.unfollowed 7 = Rows.fnExactSetOkRow.unfollowed := by unfold Program.unfollowed; rw [closure_of]; kernel_rfl
theorem setOk_recurses : Try.prog.recurses 7 = Rows.fnExactSetOkRow.recurses := by rw [recurses_of, setOk_unfollowed, closure_of]; kernel_rfl
theorem setOk_named : Try.prog.varsNamed 7 = Rows.fnExactSetOkRow.named := by unfold Program.varsNamed; rw [closure_of]; kernel_rfl
set_option maxHeartbeats 4000000 in
theorem setOk_closed : joinedFacts Try.prog 7 Try.f7 Rows.fnExactSetOkSpec Rows.fnExactSetOkRow = true := by
  unfold joinedFacts
  rw [setOk_inPlace, setOk_unfollowed, setOk_recurses, setOk_named, may_enter, lifts_final, make_is]
  repeat' (with_reducible refine Bool.and_eq_true_iff.2 ⟨?_, ?_⟩)
  all_goals (as_aux_lemma => kernel_rfl)
theorem setOk_holds : Rows.FnExactSetOkSaid :=
  OpenClaim.holds_of_wide 7 Try.f7 rfl rfl rfl rfl rfl rfl rfl ⟨rfl, rfl, rfl, rfl, rfl⟩ rfl rfl rfl rfl rfl (by as_aux_lemma => kernel_rfl) Try.func7 setOk_closed
    (of_decide_eq_true (by kernel_rfl)) (by unfold Func.isWrapper; first | (rw [if_pos (by decide +kernel)]; kernel_rfl) | (rw [if_neg (by decide +kernel)]; exact ⟨rfl, rfl⟩))
    (fun os started H enc _ => setOk_lifted os started H enc)
end Go.Proofs.Ytiddaabodkglmaa
