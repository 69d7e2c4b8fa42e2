/- For every slice of singles, every slice of ints and every int: CutLines answers what the reference answers, in memory of its own, and leaves its arguments as they were (FnExactCutLines returns true). No condition. -/
import Derived.Test.YtiddaabodkglmaaWCutLines
import Derived.Test.YtiddaabodkglmaaRw
import Derived.Test.YtiddaabodkglmaaRx
import Derived.Test.YtiddaabodkglmaaGrT
import Derived.Test.YtiddaabodkglmaaRows
namespace Go.Proofs.Ytiddaabodkglmaa
open Go.RowKit Go.Fx
set_option linter.unusedVariables false
set_option linter.unusedSimpArgs false

theorem cutLines_own : ownKnob Try.prog.godebug = none := by kernel_rfl
theorem cutLines_laid : laidOutB Try.prog = true := by kernel_rfl
open Go.ChangeShapes Go.WideShapes Go.ChangeAt in
set_option maxRecDepth 100000 in
theorem cutLines_lifted (os : Os) (started : os.Started) (H : Type) (enc : TypeId × Value → H) :
    ReturnsInHanded {} Try.checked os 11 .any (Rows.fnExactCutLinesSpec.pre6 enc Try.prog Try.f11 Rows.fnExactCutLinesRow.domain false) (Rows.fnExactCutLinesSpec.post enc Try.prog Try.f11 false true false false) := by
  refine returnsInHanded_of_change (C := Try.checked) cutLines_own started (by kernel_rfl) Try.func11
    (ChangeSpec.witness6 (enc := enc) (C := Try.checked) false ⟨#[], #[.slice none 0 0, .slice none 0 0, .int .i64 0], []⟩ 8 (by kernel_rfl) (by kernel_rfl) (by kernel_rfl) (by kernel_rfl)) ?_
  intro W base args ds gs before hval0 hW hcnd _
  have hval : ∀ (j : Nat) t v, Try.f11.params[j]? = some t → args[j]? = some v → Value.okWide Try.prog W .any base t v := hval0
  have hlt : ∀ p ∈ before, p.block < W.heap.size := fun p hp => hW.lt p hp
  have hW' := hW
  obtain ⟨p, q, hA0, hV, rfl, hfz, hnd⟩ := hW
  have hA : DataW.TrodAll enc Try.prog W 0 (fun _ => true) true Try.f11.params.toList args.toList ds p := hA0
  rw [Try.params11] at hA hval
  obtain ⟨v0, v1, v2, d0, d1, d2, p0, p1, p2, rfl, rfl, rfl, h0, h1, h2⟩ := trodAll_three hA
  obtain ⟨A0, c0, rs, rfl, hr0, hn0, _⟩ := open_f32s Try.underlying22 Try.underlying29 (by kernel_rfl) (hval 0 _ v0 rfl rfl) h0 (fun x hx => hlt x (by simp [hx]))
  obtain ⟨A1, c1, starts, rfl, hr1, hn1, _⟩ := open_i64s Try.underlying69 Try.underlying3 (by kernel_rfl) (hval 1 _ v1 rfl rfl) h1 (fun x hx => hlt x (by simp [hx]))
  obtain ⟨length, rfl, hi2⟩ := open_i64 Try.underlying3 (hval 2 _ v2 rfl rfl) h2
  refine (cutLines_walk A0 c0 rs A1 c1 starts length W hr0 hn0 hr1 hn1 ).mono fun e W' ⟨he, hB⟩ => ?_
  subst he
  exact ⟨_, rfl, law_post cutLines_laid (by kernel_rfl) rfl (fun hg => by subst hg; rfl) rfl Try.underlying4 hW' hB⟩
theorem cutLines_inPlace : Try.prog.inPlace 11 = Rows.fnExactCutLinesRow.inPlace := by unfold Program.inPlace; rw [closure_of]; kernel_rfl
theorem cutLines_unfollowed : Try.prog.unfollowed 11 = Rows.fnExactCutLinesRow.unfollowed := by unfold Program.unfollowed; rw [closure_of]; kernel_rfl
theorem cutLines_recurses : Try.prog.recurses 11 = Rows.fnExactCutLinesRow.recurses := by rw [recurses_of, cutLines_unfollowed, closure_of]; kernel_rfl
theorem cutLines_named : Try.prog.varsNamed 11 = Rows.fnExactCutLinesRow.named := by unfold Program.varsNamed; rw [closure_of]; kernel_rfl
set_option maxHeartbeats 4000000 in
theorem cutLines_closed : joinedFacts Try.prog 11 Try.f11 Rows.fnExactCutLinesSpec Rows.fnExactCutLinesRow = true := by
  unfold joinedFacts
  rw [cutLines_inPlace, cutLines_unfollowed, cutLines_recurses, cutLines_named, may_enter, lifts_final, make_is]
  repeat' (with_reducible refine Bool.and_eq_true_iff.2 ⟨?_, ?_⟩)
  all_goals (as_aux_lemma => kernel_rfl)
theorem cutLines_holds : Rows.FnExactCutLinesSaid :=
  OpenClaim.holds_of_wide 11 Try.f11 rfl rfl rfl rfl rfl rfl rfl ⟨rfl, rfl, rfl, rfl, rfl⟩ rfl rfl rfl rfl rfl (by as_aux_lemma => kernel_rfl) Try.func11 cutLines_closed
    (of_decide_eq_true (by kernel_rfl)) (by unfold Func.isWrapper; first | (rw [if_pos (by decide +kernel)]; kernel_rfl) | (rw [if_neg (by decide +kernel)]; exact ⟨rfl, rfl⟩))
    (fun os started H enc _ => cutLines_lifted os started H enc)
end Go.Proofs.Ytiddaabodkglmaa
