/- For every slice of singles, every single and every two ints: Starts answers what the reference answers, in memory of its own, and leaves its argument as it was (FnExactStarts returns true). No condition. -/
import Derived.Test.YtiddaabodkglmaaWStarts
import Derived.Test.YtiddaabodkglmaaRw
import Derived.Test.YtiddaabodkglmaaRx
import Derived.Test.YtiddaabodkglmaaGrT
import Derived.Test.YtiddaabodkglmaaRows
namespace Go.Proofs.Ytiddaabodkglmaa
open Go.RowKit Go.Fx
set_option linter.unusedVariables false
set_option linter.unusedSimpArgs false

theorem starts_own : ownKnob Try.prog.godebug = none := by kernel_rfl
theorem starts_laid : laidOutB Try.prog = true := by kernel_rfl
open Go.ChangeShapes Go.WideShapes Go.ChangeAt in
set_option maxRecDepth 100000 in
theorem starts_lifted (os : Os) (started : os.Started) (H : Type) (enc : TypeId × Value → H) :
    ReturnsInHanded {} Try.checked os 16 .any (Rows.fnExactStartsSpec.pre6 enc Try.prog Try.f16 Rows.fnExactStartsRow.domain false) (Rows.fnExactStartsSpec.post enc Try.prog Try.f16 false true false false) := by
  refine returnsInHanded_of_change (C := Try.checked) starts_own started (by kernel_rfl) Try.func16
    (ChangeSpec.witness6 (enc := enc) (C := Try.checked) false ⟨#[], #[.slice none 0 0, .float .f32 0, .int .i64 0, .int .i64 0], []⟩ 8 (by kernel_rfl) (by kernel_rfl) (by kernel_rfl) (by kernel_rfl)) ?_
  intro W base args ds gs before hval0 hW hcnd _
  have hval : ∀ (j : Nat) t v, Try.f16.params[j]? = some t → args[j]? = some v → Value.okWide Try.prog W .any base t v := hval0
  have hlt : ∀ p ∈ before, p.block < W.heap.size := fun p hp => hW.lt p hp
  have hW' := hW
  obtain ⟨p, q, hA0, hV, rfl, hfz, hnd⟩ := hW
  have hA : DataW.TrodAll enc Try.prog W 0 (fun _ => true) true Try.f16.params.toList args.toList ds p := hA0
  rw [Try.params16] at hA hval
  obtain ⟨v0, v1, v2, v3, d0, d1, d2, d3, p0, p1, p2, p3, rfl, rfl, rfl, h0, h1, h2, h3⟩ := trodAll_four hA
  obtain ⟨A0, c0, rs, rfl, hr0, hn0, _⟩ := open_f32s Try.underlying22 Try.underlying29 (by kernel_rfl) (hval 0 _ v0 rfl rfl) h0 (fun x hx => hlt x (by simp [hx]))
  obtain ⟨x, rfl⟩ := open_f32 Try.underlying29 (hval 1 _ v1 rfl rfl)
  obtain ⟨length, rfl, hi2⟩ := open_i64 Try.underlying3 (hval 2 _ v2 rfl rfl) h2
  obtain ⟨gap, rfl, hi3⟩ := open_i64 Try.underlying3 (hval 3 _ v3 rfl rfl) h3
  refine (starts_walk A0 c0 rs x length gap W hr0 hn0 ).mono fun e W' ⟨he, hB⟩ => ?_
  subst he
  exact ⟨_, rfl, law_post starts_laid (by kernel_rfl) rfl (fun hg => by subst hg; rfl) rfl Try.underlying4 hW' hB⟩
theorem starts_inPlace : Try.prog.inPlace 16 = Rows.fnExactStartsRow.inPlace := by unfold Program.inPlace; rw [closure_of]; kernel_rfl
theorem starts_unfollowed : Try.prog.unfollowed 16 = Rows.fnExactStartsRow.unfollowed := by unfold Program.unfollowed; rw [closure_of]; kernel_rfl
theorem starts_recurses : Try.prog.recurses 16 = Rows.fnExactStartsRow.recurses := by rw [recurses_of, starts_unfollowed, closure_of]; kernel_rfl
theorem starts_named : Try.prog.varsNamed 16 = Rows.fnExactStartsRow.named := by unfold Program.varsNamed; rw [closure_of]; kernel_rfl
set_option maxHeartbeats 4000000 in
theorem starts_closed : joinedFacts Try.prog 16 Try.f16 Rows.fnExactStartsSpec Rows.fnExactStartsRow = true := by
  unfold joinedFacts
  rw [starts_inPlace, starts_unfollowed, starts_recurses, starts_named, may_enter, lifts_final, make_is]
  repeat' (with_reducible refine Bool.and_eq_true_iff.2 ⟨?_, ?_⟩)
  all_goals (as_aux_lemma => kernel_rfl)
theorem starts_holds : Rows.FnExactStartsSaid :=
  OpenClaim.holds_of_wide 16 Try.f16 rfl rfl rfl rfl rfl rfl rfl ⟨rfl, rfl, rfl, rfl, rfl⟩ rfl rfl rfl rfl rfl (by as_aux_lemma => kernel_rfl) Try.func16 starts_closed
    (of_decide_eq_true (by kernel_rfl)) (by unfold Func.isWrapper; first | (rw [if_pos (by decide +kernel)]; kernel_rfl) | (rw [if_neg (by decide +kernel)]; exact ⟨rfl, rfl⟩))
    (fun os started H enc _ => starts_lifted os started H enc)
end Go.Proofs.Ytiddaabodkglmaa
