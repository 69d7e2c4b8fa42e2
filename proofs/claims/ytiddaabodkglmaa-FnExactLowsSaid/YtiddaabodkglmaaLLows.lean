/- For every slice of singles and every single: Lows answers what the reference answers, in memory of its own, and leaves its argument as it was (FnExactLows returns true). No condition. -/
import Derived.Test.YtiddaabodkglmaaWLows
import Derived.Test.YtiddaabodkglmaaRw
import Derived.Test.YtiddaabodkglmaaRx
import Derived.Test.YtiddaabodkglmaaGrT
import Derived.Test.YtiddaabodkglmaaRows
namespace Go.Proofs.Ytiddaabodkglmaa
open Go.RowKit Go.Fx
set_option linter.unusedVariables false
set_option linter.unusedSimpArgs false

theorem lows_own : ownKnob Try.prog.godebug = none := by kernel_rfl
theorem lows_laid : laidOutB Try.prog = true := by kernel_rfl
open Go.ChangeShapes Go.WideShapes Go.ChangeAt in
set_option maxRecDepth 100000 in
theorem lows_lifted (os : Os) (started : os.Started) (H : Type) (enc : TypeId × Value → H) :
    ReturnsInHanded {} Try.checked os 9 .any (Rows.fnExactLowsSpec.pre6 enc Try.prog Try.f9 Rows.fnExactLowsRow.domain false) (Rows.fnExactLowsSpec.post enc Try.prog Try.f9 false true false false) := by
  refine returnsInHanded_of_change (C := Try.checked) lows_own started (by kernel_rfl) Try.func9
    (ChangeSpec.witness6 (enc := enc) (C := Try.checked) false ⟨#[], #[.slice none 0 0, .float .f32 0], []⟩ 8 (by kernel_rfl) (by kernel_rfl) (by kernel_rfl) (by kernel_rfl)) ?_
  intro W base args ds gs before hval0 hW hcnd _
  have hval : ∀ (j : Nat) t v, Try.f9.params[j]? = some t → args[j]? = some v → Value.okWide Try.prog W .any base t v := hval0
  have hlt : ∀ p ∈ before, p.block < W.heap.size := fun p hp => hW.lt p hp
  have hW' := hW
  obtain ⟨p, q, hA0, hV, rfl, hfz, hnd⟩ := hW
  have hA : DataW.TrodAll enc Try.prog W 0 (fun _ => true) true Try.f9.params.toList args.toList ds p := hA0
  rw [Try.params9] at hA hval
  obtain ⟨v0, v1, d0, d1, p0, p1, rfl, rfl, rfl, h0, h1⟩ := trodAll_two hA
  obtain ⟨A0, c0, rs, rfl, hr0, hn0, _⟩ := open_f32s Try.underlying22 Try.underlying29 (by kernel_rfl) (hval 0 _ v0 rfl rfl) h0 (fun x hx => hlt x (by simp [hx]))
  obtain ⟨x, rfl⟩ := open_f32 Try.underlying29 (hval 1 _ v1 rfl rfl)
  refine (lows_walk A0 c0 rs x W hr0 hn0 ).mono fun e W' ⟨he, hB⟩ => ?_
  subst he
  exact ⟨_, rfl, law_post lows_laid (by kernel_rfl) rfl (fun hg => by subst hg; rfl) rfl Try.underlying4 hW' hB⟩
theorem lows_inPlace : Try.prog.inPlace 9 = Rows.fnExactLowsRow.inPlace := by unfold Program.inPlace; rw [closure_of]; kernel_rfl
theorem lows_unfollowed : Try.prog.unfollowed 9 = Rows.fnExactLowsRow.unfollowed := by unfold Program.unfollowed; rw [closure_of]; kernel_rfl
theorem lows_recurses : Try.prog.recurses 9 = Rows.fnExactLowsRow.recurses := by rw [recurses_of, lows_unfollowed, closure_of]; kernel_rfl
theorem lows_named : Try.prog.varsNamed 9 = Rows.fnExactLowsRow.named := by unfold Program.varsNamed; rw [closure_of]; kernel_rfl
set_option maxHeartbeats 4000000 in
theorem lows_closed : joinedFacts Try.prog 9 Try.f9 Rows.fnExactLowsSpec Rows.fnExactLowsRow = true := by
  unfold joinedFacts
  rw [lows_inPlace, lows_unfollowed, lows_recurses, lows_named, may_enter, lifts_final, make_is]
  repeat' (with_reducible refine Bool.and_eq_true_iff.2 ⟨?_, ?_⟩)
  all_goals (as_aux_lemma => kernel_rfl)
theorem lows_holds : Rows.FnExactLowsSaid :=
  OpenClaim.holds_of_wide 9 Try.f9 rfl rfl rfl rfl rfl rfl rfl ⟨rfl, rfl, rfl, rfl, rfl⟩ rfl rfl rfl rfl rfl (by as_aux_lemma => kernel_rfl) Try.func9 lows_closed
    (of_decide_eq_true (by kernel_rfl)) (by unfold Func.isWrapper; first | (rw [if_pos (by decide +kernel)]; kernel_rfl) | (rw [if_neg (by decide +kernel)]; exact ⟨rfl, rfl⟩))
    (fun os started H enc _ => lows_lifted os started H enc)
end Go.Proofs.Ytiddaabodkglmaa
