/- For every two slices of singles and every two singles: TakePair answers what the reference answers, in memory of its own, and leaves its arguments as they were (FnExactTakePair returns true). No condition. -/
import Derived.Test.YtiddaabodkglmaaWTakePair
import Derived.Test.YtiddaabodkglmaaRw
import Derived.Test.YtiddaabodkglmaaRx
import Derived.Test.YtiddaabodkglmaaGrT
import Derived.Test.YtiddaabodkglmaaRows
namespace Go.Proofs.Ytiddaabodkglmaa
open Go.RowKit Go.Fx
set_option linter.unusedVariables false
set_option linter.unusedSimpArgs false

theorem takePair_own : ownKnob Try.prog.godebug = none := by kernel_rfl
theorem takePair_laid : laidOutB Try.prog = true := by kernel_rfl
open Go.ChangeShapes Go.WideShapes Go.ChangeAt in
set_option maxRecDepth 100000 in
theorem takePair_lifted (os : Os) (started : os.Started) (H : Type) (enc : TypeId × Value → H) :
    ReturnsInHanded {} Try.checked os 33 .any (Rows.fnExactTakePairSpec.pre6 enc Try.prog Try.f33 Rows.fnExactTakePairRow.domain false) (Rows.fnExactTakePairSpec.post enc Try.prog Try.f33 false true false false) := by
  refine returnsInHanded_of_change (C := Try.checked) takePair_own started (by kernel_rfl) Try.func33
    (ChangeSpec.witness6 (enc := enc) (C := Try.checked) false ⟨#[], #[.slice none 0 0, .slice none 0 0, .float .f32 0, .float .f32 0], []⟩ 8 (by kernel_rfl) (by kernel_rfl) (by kernel_rfl) (by kernel_rfl)) ?_
  intro W base args ds gs before hval0 hW hcnd _
  have hval : ∀ (j : Nat) t v, Try.f33.params[j]? = some t → args[j]? = some v → Value.okWide Try.prog W .any base t v := hval0
  have hlt : ∀ p ∈ before, p.block < W.heap.size := fun p hp => hW.lt p hp
  have hW' := hW
  obtain ⟨p, q, hA0, hV, rfl, hfz, hnd⟩ := hW
  have hA : DataW.TrodAll enc Try.prog W 0 (fun _ => true) true Try.f33.params.toList args.toList ds p := hA0
  rw [Try.params33] at hA hval
  obtain ⟨v0, v1, v2, v3, d0, d1, d2, d3, p0, p1, p2, p3, rfl, rfl, rfl, h0, h1, h2, h3⟩ := trodAll_four hA
  obtain ⟨A0, c0, rs, rfl, hr0, hn0, _⟩ := open_f32s Try.underlying22 Try.underlying29 (by kernel_rfl) (hval 0 _ v0 rfl rfl) h0 (fun x hx => hlt x (by simp [hx]))
  obtain ⟨A1, c1, ss, rfl, hr1, hn1, _⟩ := open_f32s Try.underlying22 Try.underlying29 (by kernel_rfl) (hval 1 _ v1 rfl rfl) h1 (fun x hx => hlt x (by simp [hx]))
  obtain ⟨least, rfl⟩ := open_f32 Try.underlying29 (hval 2 _ v2 rfl rfl)
  obtain ⟨x, rfl⟩ := open_f32 Try.underlying29 (hval 3 _ v3 rfl rfl)
  refine (takePair_walk A0 c0 rs A1 c1 ss least x W hr0 hn0 hr1 hn1 ).mono fun e W' ⟨he, hB⟩ => ?_
  subst he
  exact ⟨_, rfl, law_post takePair_laid (by kernel_rfl) rfl (fun hg => by subst hg; rfl) rfl Try.underlying4 hW' hB⟩
theorem takePair_inPlace : Try.prog.inPlace 33 = Rows.fnExactTakePairRow.inPlace := by unfold Program.inPlace; rw [closure_of]; kernel_rfl
theorem takePair_unfollowed : Try.prog.unfollowed 33 = Rows.fnExactTakePairRow.unfollowed := by unfold Program.unfollowed; rw [closure_of]; kernel_rfl
theorem takePair_recurses : Try.prog.recurses 33 = Rows.fnExactTakePairRow.recurses := by rw [recurses_of, takePair_unfollowed, closure_of]; kernel_rfl
theorem takePair_named : Try.prog.varsNamed 33 = Rows.fnExactTakePairRow.named := by unfold Program.varsNamed; rw [closure_of]; kernel_rfl
set_option maxHeartbeats 4000000 in
theorem takePair_closed : joinedFacts Try.prog 33 Try.f33 Rows.fnExactTakePairSpec Rows.fnExactTakePairRow = true := by
  unfold joinedFacts
  rw [takePair_inPlace, takePair_unfollowed, takePair_recurses, takePair_named, may_enter, lifts_final, make_is]
  repeat' (with_reducible refine Bool.and_eq_true_iff.2 ⟨?_, ?_⟩)
  all_goals (as_aux_lemma => kernel_rfl)
theorem takePair_holds : Rows.FnExactTakePairSaid :=
  OpenClaim.holds_of_wide 33 Try.f33 rfl rfl rfl rfl rfl rfl rfl ⟨rfl, rfl, rfl, rfl, rfl⟩ rfl rfl rfl rfl rfl (by as_aux_lemma => kernel_rfl) Try.func33 takePair_closed
    (of_decide_eq_true (by kernel_rfl)) (by unfold Func.isWrapper; first | (rw [if_pos (by decide +kernel)]; kernel_rfl) | (rw [if_neg (by decide +kernel)]; exact ⟨rfl, rfl⟩))
    (fun os started H enc _ => takePair_lifted os started H enc)
end Go.Proofs.Ytiddaabodkglmaa
