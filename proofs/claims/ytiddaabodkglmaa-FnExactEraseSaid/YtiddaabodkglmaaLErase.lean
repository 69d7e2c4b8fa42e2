/- For every slice of singles and every two ints: Erase answers what the reference answers, in memory of its own, and leaves its argument as it was (FnExactErase returns true). No condition. -/
import Derived.Test.YtiddaabodkglmaaWErase
import Derived.Test.YtiddaabodkglmaaRw
import Derived.Test.YtiddaabodkglmaaRx
import Derived.Test.YtiddaabodkglmaaGrT
import Derived.Test.YtiddaabodkglmaaRows
namespace Go.Proofs.Ytiddaabodkglmaa
open Go.RowKit Go.Fx
set_option linter.unusedVariables false
set_option linter.unusedSimpArgs false

theorem erase_own : ownKnob Try.prog.godebug = none := by kernel_rfl
theorem erase_laid : laidOutB Try.prog = true := by kernel_rfl
open Go.ChangeShapes Go.WideShapes Go.ChangeAt in
set_option maxRecDepth 100000 in
theorem erase_lifted (os : Os) (started : os.Started) (H : Type) (enc : TypeId × Value → H) :
    ReturnsInHanded {} Try.checked os 5 .any (Rows.fnExactEraseSpec.pre6 enc Try.prog Try.f5 Rows.fnExactEraseRow.domain false) (Rows.fnExactEraseSpec.post enc Try.prog Try.f5 false true false false) := by
  refine returnsInHanded_of_change (C := Try.checked) erase_own started (by kernel_rfl) Try.func5
    (ChangeSpec.witness6 (enc := enc) (C := Try.checked) false ⟨#[], #[.slice none 0 0, .int .i64 0, .int .i64 0], []⟩ 8 (by kernel_rfl) (by kernel_rfl) (by kernel_rfl) (by kernel_rfl)) ?_
  intro W base args ds gs before hval0 hW hcnd _
  have hval : ∀ (j : Nat) t v, Try.f5.params[j]? = some t → args[j]? = some v → Value.okWide Try.prog W .any base t v := hval0
  have hlt : ∀ p ∈ before, p.block < W.heap.size := fun p hp => hW.lt p hp
  have hW' := hW
  obtain ⟨p, q, hA0, hV, rfl, hfz, hnd⟩ := hW
  have hA : DataW.TrodAll enc Try.prog W 0 (fun _ => true) true Try.f5.params.toList args.toList ds p := hA0
  rw [Try.params5] at hA hval
  obtain ⟨v0, v1, v2, d0, d1, d2, p0, p1, p2, rfl, rfl, rfl, h0, h1, h2⟩ := trodAll_three hA
  obtain ⟨A0, c0, rs, rfl, hr0, hn0, _⟩ := open_f32s Try.underlying22 Try.underlying29 (by kernel_rfl) (hval 0 _ v0 rfl rfl) h0 (fun x hx => hlt x (by simp [hx]))
  obtain ⟨at_, rfl, hi1⟩ := open_i64 Try.underlying3 (hval 1 _ v1 rfl rfl) h1
  obtain ⟨n, rfl, hi2⟩ := open_i64 Try.underlying3 (hval 2 _ v2 rfl rfl) h2
  refine (erase_walk A0 c0 rs at_ n W hr0 hn0 hi1.1 hi1.2).mono fun e W' ⟨he, hB⟩ => ?_
  subst he
  exact ⟨_, rfl, law_post erase_laid (by kernel_rfl) rfl (fun hg => by subst hg; rfl) rfl Try.underlying4 hW' hB⟩
theorem erase_inPlace : Try.prog.inPlace 5 = Rows.fnExactEraseRow.inPlace := by unfold Program.inPlace; rw [closure_of]; kernel_rfl
theorem erase_unfollowed : Try.prog.unfollowed 5 = Rows.fnExactEraseRow.unfollowed := by unfold Program.unfollowed; rw [closure_of]; kernel_rfl
theorem erase_recurses : Try.prog.recurses 5 = Rows.fnExactEraseRow.recurses := by rw [recurses_of, erase_unfollowed, closure_of]; kernel_rfl
theorem erase_named : Try.prog.varsNamed 5 = Rows.fnExactEraseRow.named := by unfold Program.varsNamed; rw [closure_of]; kernel_rfl
set_option maxHeartbeats 4000000 in
theorem erase_closed : joinedFacts Try.prog 5 Try.f5 Rows.fnExactEraseSpec Rows.fnExactEraseRow = true := by
  unfold joinedFacts
  rw [erase_inPlace, erase_unfollowed, erase_recurses, erase_named, may_enter, lifts_final, make_is]
  repeat' (with_reducible refine Bool.and_eq_true_iff.2 ⟨?_, ?_⟩)
  all_goals (as_aux_lemma => kernel_rfl)
theorem erase_holds : Rows.FnExactEraseSaid :=
  OpenClaim.holds_of_wide 5 Try.f5 rfl rfl rfl rfl rfl rfl rfl ⟨rfl, rfl, rfl, rfl, rfl⟩ rfl rfl rfl rfl rfl (by as_aux_lemma => kernel_rfl) Try.func5 erase_closed
    (of_decide_eq_true (by kernel_rfl)) (by unfold Func.isWrapper; first | (rw [if_pos (by decide +kernel)]; kernel_rfl) | (rw [if_neg (by decide +kernel)]; exact ⟨rfl, rfl⟩))
    (fun os started H enc _ => erase_lifted os started H enc)
end Go.Proofs.Ytiddaabodkglmaa
