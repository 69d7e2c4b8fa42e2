/- For every code: a picture whose pairs of rows share their colours is received as it was sent (FnTop returns true). No condition. -/
import Derived.Test.YtiddaabodkglmaaBj
import Derived.Test.YtiddaabodkglmaaRw
import Derived.Test.YtiddaabodkglmaaRx
import Derived.Test.YtiddaabodkglmaaGrT
import Derived.Test.YtiddaabodkglmaaRows
namespace Go.Proofs.Ytiddaabodkglmaa
open Go.RowKit Go.Fx
set_option linter.unusedVariables false
set_option linter.unusedSimpArgs false

theorem top_own : ownKnob Try.prog.godebug = none := by kernel_rfl
theorem top_laid : laidOutB Try.prog = true := by kernel_rfl
open Go.ChangeShapes Go.WideShapes Go.ChangeAt in
set_option maxRecDepth 100000 in
theorem top_lifted (os : Os) (started : os.Started) (H : Type) (enc : TypeId × Value → H) :
    ReturnsInHanded {} Try.checked os 4 .any (Rows.fnTopSpec.pre6 enc Try.prog Try.f4 Rows.fnTopRow.domain false) (Rows.fnTopSpec.post enc Try.prog Try.f4 false true false false) := by
  refine returnsInHanded_of_change (C := Try.checked) top_own started (by kernel_rfl) Try.func4
    (ChangeSpec.witness6 (enc := enc) (C := Try.checked) false ⟨#[], #[.slice none 0 0], []⟩ 8 (by kernel_rfl) (by kernel_rfl) (by kernel_rfl) (by kernel_rfl)) ?_
  intro W base args ds gs before hval0 hW hcnd _
  have hval : ∀ (j : Nat) t v, Try.f4.params[j]? = some t → args[j]? = some v → Value.okWide Try.prog W .any base t v := hval0
  have hlt : ∀ p ∈ before, p.block < W.heap.size := fun p hp => hW.lt p hp
  have hW' := hW
  obtain ⟨p, q, hA0, hV, rfl, hfz, hnd⟩ := hW
  have hA : DataW.TrodAll enc Try.prog W 0 (fun _ => true) true Try.f4.params.toList args.toList ds p := hA0
  rw [Try.params4] at hA hval
  obtain ⟨v0, d0, rfl, rfl, h0⟩ := trodAll_one hA
  obtain ⟨A0, c0, code, rfl, hr0, hn0, hb0⟩ := open_u8s Try.underlying26 Try.underlying5 (by kernel_rfl) (hval 0 _ v0 rfl rfl) h0 (fun x hx => hlt x (List.mem_append_left _ hx))
  refine (top_walk A0 c0 code W hr0 hn0 hb0 ).mono fun e W' ⟨he, hB⟩ => ?_
  subst he
  exact ⟨_, rfl, law_post top_laid (by kernel_rfl) rfl (fun hg => by subst hg; rfl) rfl Try.underlying4 hW' hB⟩
theorem top_inPlace : Try.prog.inPlace 4 = Rows.fnTopRow.inPlace := by unfold Program.inPlace; rw [closure_of]; kernel_rfl
theorem top_unfollowed : Try.prog.unfollowed 4 = Rows.fnTopRow.unfollowed := by unfold Program.unfollowed; rw [closure_of]; kernel_rfl
theorem top_recurses : Try.prog.recurses 4 = Rows.fnTopRow.recurses := by rw [recurses_of, top_unfollowed, closure_of]; kernel_rfl
theorem top_named : Try.prog.varsNamed 4 = Rows.fnTopRow.named := by unfold Program.varsNamed; rw [closure_of]; kernel_rfl
set_option maxHeartbeats 4000000 in
theorem top_closed : joinedFacts Try.prog 4 Try.f4 Rows.fnTopSpec Rows.fnTopRow = true := by
  unfold joinedFacts
  rw [top_inPlace, top_unfollowed, top_recurses, top_named, may_enter, lifts_final, make_is]
  repeat' (with_reducible refine Bool.and_eq_true_iff.2 ⟨?_, ?_⟩)
  all_goals (as_aux_lemma => kernel_rfl)
theorem top_holds : Rows.FnTopSaid :=
  OpenClaim.holds_of_wide 4 Try.f4 rfl rfl rfl rfl rfl rfl rfl ⟨rfl, rfl, rfl, rfl, rfl⟩ rfl rfl rfl rfl rfl (by as_aux_lemma => kernel_rfl) Try.func4 top_closed
    (of_decide_eq_true (by kernel_rfl)) (by unfold Func.isWrapper; first | (rw [if_pos (by decide +kernel)]; kernel_rfl) | (rw [if_neg (by decide +kernel)]; exact ⟨rfl, rfl⟩))
    (fun os started H enc _ => top_lifted os started H enc)
end Go.Proofs.Ytiddaabodkglmaa
