/- For every two slices of singles: DecodePair answers what the reference answers, in memory of its own, and leaves its arguments as they were (FnExactDecodePair returns true). No condition. -/
import Derived.Test.YtiddaabodkglmaaWDecodePair
import Derived.Test.YtiddaabodkglmaaRw
import Derived.Test.YtiddaabodkglmaaRx
import Derived.Test.YtiddaabodkglmaaGrT
import Derived.Test.YtiddaabodkglmaaRows
namespace Go.Proofs.Ytiddaabodkglmaa
open Go.RowKit Go.Fx
set_option linter.unusedVariables false
set_option linter.unusedSimpArgs false

theorem decodePair_own : ownKnob Try.prog.godebug = none := by kernel_rfl
theorem decodePair_laid : laidOutB Try.prog = true := by kernel_rfl
open Go.ChangeShapes Go.WideShapes Go.ChangeAt in
set_option maxRecDepth 100000 in
theorem decodePair_lifted (os : Os) (started : os.Started) (H : Type) (enc : TypeId × Value → H) :
    ReturnsInHanded {} Try.checked os 31 .any (Rows.fnExactDecodePairSpec.pre6 enc Try.prog Try.f31 Rows.fnExactDecodePairRow.domain false) (Rows.fnExactDecodePairSpec.post enc Try.prog Try.f31 false true false false) := by
  refine returnsInHanded_of_change (C := Try.checked) decodePair_own started (by kernel_rfl) Try.func31
    (ChangeSpec.witness6 (enc := enc) (C := Try.checked) false ⟨#[], #[.slice none 0 0, .slice none 0 0], []⟩ 8 (by kernel_rfl) (by kernel_rfl) (by kernel_rfl) (by kernel_rfl)) ?_
  intro W base args ds gs before hval0 hW hcnd _
  have hval : ∀ (j : Nat) t v, Try.f31.params[j]? = some t → args[j]? = some v → Value.okWide Try.prog W .any base t v := hval0
  have hlt : ∀ p ∈ before, p.block < W.heap.size := fun p hp => hW.lt p hp
  have hW' := hW
  obtain ⟨p, q, hA0, hV, rfl, hfz, hnd⟩ := hW
  have hA : DataW.TrodAll enc Try.prog W 0 (fun _ => true) true Try.f31.params.toList args.toList ds p := hA0
  rw [Try.params31] at hA hval
  obtain ⟨v0, v1, d0, d1, p0, p1, rfl, rfl, rfl, h0, h1⟩ := trodAll_two hA
  obtain ⟨A0, c0, rs, rfl, hr0, hn0, _⟩ := open_f32s Try.underlying22 Try.underlying29 (by kernel_rfl) (hval 0 _ v0 rfl rfl) h0 (fun x hx => hlt x (by simp [hx]))
  obtain ⟨A1, c1, ss, rfl, hr1, hn1, _⟩ := open_f32s Try.underlying22 Try.underlying29 (by kernel_rfl) (hval 1 _ v1 rfl rfl) h1 (fun x hx => hlt x (by simp [hx]))
  refine (decodePair_walk A0 c0 rs A1 c1 ss W hr0 hn0 hr1 hn1 ).mono fun e W' ⟨he, hB⟩ => ?_
  subst he
  exact ⟨_, rfl, law_post decodePair_laid (by kernel_rfl) rfl (fun hg => by subst hg; rfl) rfl Try.underlying4 hW' hB⟩
theorem decodePair_inPlace : Try.prog.inPlace 31 = Rows.fnExactDecodePairRow.inPlace := by unfold Program.inPlace; rw [closure_of]; kernel_rfl
theorem decodePair_unfollowed : Try.prog.unfollowed 31 = Rows.fnExactDecodePairRow.unfollowed := by unfold Program.unfollowed; rw [closure_of]; kernel_rfl
theorem decodePair_recurses : Try.prog.recurses 31 = Rows.fnExactDecodePairRow.recurses := by rw [recurses_of, decodePair_unfollowed, closure_of]; kernel_rfl
theorem decodePair_named : Try.prog.varsNamed 31 = Rows.fnExactDecodePairRow.named := by unfold Program.varsNamed; rw [closure_of]; kernel_rfl
set_option maxHeartbeats 4000000 in
theorem decodePair_closed : joinedFacts Try.prog 31 Try.f31 Rows.fnExactDecodePairSpec Rows.fnExactDecodePairRow = true := by
  unfold joinedFacts
  rw [decodePair_inPlace, decodePair_unfollowed, decodePair_recurses, decodePair_named, may_enter, lifts_final, make_is]
  repeat' (with_reducible refine Bool.and_eq_true_iff.2 ⟨?_, ?_⟩)
  all_goals (as_aux_lemma => kernel_rfl)
theorem decodePair_holds : Rows.FnExactDecodePairSaid :=
  OpenClaim.holds_of_wide 31 Try.f31 rfl rfl rfl rfl rfl rfl rfl ⟨rfl, rfl, rfl, rfl, rfl⟩ rfl rfl rfl rfl rfl (by as_aux_lemma => kernel_rfl) Try.func31 decodePair_closed
    (of_decide_eq_true (by kernel_rfl)) (by unfold Func.isWrapper; first | (rw [if_pos (by decide +kernel)]; kernel_rfl) | (rw [if_neg (by decide +kernel)]; exact ⟨rfl, rfl⟩))
    (fun os started H enc _ => decodePair_lifted os started H enc)
end Go.Proofs.Ytiddaabodkglmaa
