/- For every set and every slice of singles: Receive answers what the reference answers, in memory of its own, and leaves its arguments as they were (FnExactReceive returns true). No condition. -/
import Derived.Test.YtiddaabodkglmaaGreatWReceive
import Derived.Test.YtiddaabodkglmaaGreatRo
import Derived.Test.YtiddaabodkglmaaGreatRw
import Derived.Test.YtiddaabodkglmaaGreatRx
import Derived.Test.YtiddaabodkglmaaGreatGrT
import Derived.Test.YtiddaabodkglmaaGreatRows
namespace Go.Proofs.YtiddaabodkglmaaGreat
open Go.RowKit Go.Fx
set_option linter.unusedVariables false
set_option linter.unusedSimpArgs false

theorem receive_own : ownKnob Tryz.prog.godebug = none := by kernel_rfl
theorem receive_laid : laidOutB Tryz.prog = true := by kernel_rfl
open Go.ChangeShapes Go.WideShapes Go.ChangeAt in
set_option maxRecDepth 100000 in
theorem receive_lifted (os : Os) (started : os.Started) (H : Type) (enc : TypeId × Value → H) :
    ReturnsInHanded {} Tryz.checked os 3 .any (Rows.fnExactReceiveSpec.pre6 enc Tryz.prog Tryz.f3 Rows.fnExactReceiveRow.domain false) (Rows.fnExactReceiveSpec.post enc Tryz.prog Tryz.f3 false true false false) := by
  refine returnsInHanded_of_change (C := Tryz.checked) receive_own started (by kernel_rfl) Tryz.func3
    (ChangeSpec.witness6 (enc := enc) (C := Tryz.checked) false ⟨#[], #[.agg #[.int .i64 0, .int .i64 0, .float .f32 0, .float .f32 0, .float .f32 0, .slice none 0 0], .slice none 0 0], []⟩ 8 (by kernel_rfl) (by kernel_rfl) (by kernel_rfl) (by kernel_rfl)) ?_
  intro W base args ds gs before hval0 hW hcnd _
  have hval : ∀ (j : Nat) t v, Tryz.f3.params[j]? = some t → args[j]? = some v → Value.okWide Tryz.prog W .any base t v := hval0
  have hlt : ∀ p ∈ before, p.block < W.heap.size := fun p hp => hW.lt p hp
  have hW' := hW
  obtain ⟨p, q, hA0, hV, rfl, hfz, hnd⟩ := hW
  have hA : DataW.TrodAll enc Tryz.prog W 0 (fun _ => true) true Tryz.f3.params.toList args.toList ds p := hA0
  rw [Tryz.params3] at hA hval
  obtain ⟨v0, v1, d0, d1, p0, p1, rfl, rfl, rfl, h0, h1⟩ := trodAll_two hA
  obtain ⟨cells0, rows0, slice0, least0, sat0, A0, c0, log, rfl, hr0, hn0, hb0⟩ := open_set (hval 0 _ v0 rfl rfl) h0
  obtain ⟨A1, c1, rs, rfl, hr1, hn1, _⟩ := open_f32s Tryz.underlying26 Tryz.underlying22 (by kernel_rfl) (hval 1 _ v1 rfl rfl) h1 (fun x hx => hlt x (by simp [hx]))
  refine (receive_walk cells0 rows0 slice0 least0 sat0 A0 c0 log A1 c1 rs W hr0 hn0 hb0 hr1 hn1 ).mono fun e W' ⟨he, hB⟩ => ?_
  subst he
  exact ⟨_, rfl, law_post receive_laid (by kernel_rfl) rfl (fun hg => by subst hg; rfl) rfl Tryz.underlying4 hW' hB⟩
theorem receive_inPlace : Tryz.prog.inPlace 3 = Rows.fnExactReceiveRow.inPlace := by unfold Program.inPlace; rw [closure_of]; kernel_rfl
theorem receive_unfollowed : Tryz.prog.unfollowed 3 = Rows.fnExactReceiveRow.unfollowed := by unfold Program.unfollowed; rw [closure_of]; kernel_rfl
theorem receive_recurses : Tryz.prog.recurses 3 = Rows.fnExactReceiveRow.recurses := by rw [recurses_of, receive_unfollowed, closure_of]; kernel_rfl
theorem receive_named : Tryz.prog.varsNamed 3 = Rows.fnExactReceiveRow.named := by unfold Program.varsNamed; rw [closure_of]; kernel_rfl
set_option maxHeartbeats 4000000 in
theorem receive_closed : joinedFacts Tryz.prog 3 Tryz.f3 Rows.fnExactReceiveSpec Rows.fnExactReceiveRow = true := by
  unfold joinedFacts
  rw [receive_inPlace, receive_unfollowed, receive_recurses, receive_named, may_enter, lifts_final, make_is]
  repeat' (with_reducible refine Bool.and_eq_true_iff.2 ⟨?_, ?_⟩)
  all_goals (as_aux_lemma => kernel_rfl)
theorem receive_holds : Rows.FnExactReceiveSaid :=
  OpenClaim.holds_of_wide 3 Tryz.f3 rfl rfl rfl rfl rfl rfl rfl ⟨rfl, rfl, rfl, rfl, rfl⟩ rfl rfl rfl rfl rfl (by as_aux_lemma => kernel_rfl) Tryz.func3 receive_closed
    (of_decide_eq_true (by kernel_rfl)) (by unfold Func.isWrapper; first | (rw [if_pos (by decide +kernel)]; kernel_rfl) | (rw [if_neg (by decide +kernel)]; exact ⟨rfl, rfl⟩))
    (fun os started H enc _ => receive_lifted os started H enc)
end Go.Proofs.YtiddaabodkglmaaGreat
