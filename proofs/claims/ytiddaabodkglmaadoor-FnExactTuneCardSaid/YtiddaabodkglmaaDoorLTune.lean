/- For every set and every text: Tune answers what the reference answers, in memory of its own, and leaves its arguments as they were (FnExactTune returns true). -/
import Derived.Test.YtiddaabodkglmaaDoorWTune
import Derived.Test.YtiddaabodkglmaaDoorRl
import Derived.Test.YtiddaabodkglmaaDoorRo
import Derived.Test.YtiddaabodkglmaaDoorRw
import Derived.Test.YtiddaabodkglmaaDoorRx
import Derived.Test.YtiddaabodkglmaaDoorGrT
import Derived.Test.YtiddaabodkglmaaDoorRows
import Derived.Test.YtiddaabodkglmaaDoorTie
import Derived.Test.YtiddaabodkglmaaDoorCards
import Derived.SevenTiedAt
import Derived.ChangeMaps5
namespace Go.Proofs.YtiddaabodkglmaaDoor
open Go.RowKit Go.Fx
set_option linter.unusedVariables false
set_option linter.unusedSimpArgs false

theorem tune_own : ownKnob Tryd.prog.godebug = none := by kernel_rfl
theorem tune_laid : laidOutB Tryd.prog = true := by kernel_rfl
theorem tune_env {W : World} (h : W.ShapedOpen Tryd.prog) (hL : laidMetH Tryd.prog Rows.fnExactTuneRow.laid W) : Env W := by
  rw [MakeChecks.laidMetH_plain _ _ _ (by kernel_rfl)] at hL
  exact ⟨Lib.tabIs_of_head (g := 2) (t := ((Tryd.prog.globals[2]?).map (·.type)).getD 0) (e := 101) (n := 20) (by kernel_rfl) (by kernel_rfl) (by kernel_rfl) (by kernel_rfl) (by kernel_rfl) (by kernel_rfl) (laidMet.tail (laidMet.tail hL)), env_max h⟩
open Go.ChangeShapes Go.WideShapes Go.ChangeAt in
set_option maxRecDepth 100000 in
theorem tune_lifted (os : Os) (started : os.Started) (H : Type) (enc : TypeId × Value → H) :
    ReturnsInHanded {} Tryd.checked os 5 .any (fun w args => (Rows.fnExactTuneSpec.pre enc Tryd.prog Tryd.f5 Rows.fnExactTuneRow.domain false w args ∧ laidMetH Tryd.prog Rows.fnExactTuneRow.laid w) ∧ sizedMet enc Tryd.prog Tryd.f5 (OpenSpec.ofChange Rows.fnExactTuneSpec) false w args) (Rows.fnExactTuneSpec.post enc Tryd.prog Tryd.f5 false true false false) := by
  refine handed_shaped (C := Tryd.checked) (X := fun w _ => laidMetH Tryd.prog Rows.fnExactTuneRow.laid w) (fun _ _ _ hh h => h.of_heap hh) tune_own started (by kernel_rfl) Tryd.func5
    (ChangeSpec.witness_shaped (enc := enc) (C := Tryd.checked) (os := os) (X := fun w _ => laidMetH Tryd.prog Rows.fnExactTuneRow.laid w) false (World.laidAll Tryd.prog os Rows.fnExactTuneRow.laid) #[.agg #[.int .i64 0, .int .i64 0, .float .f32 0, .float .f32 0, .float .f32 0, .slice none 0 0], .string ByteArray.empty] 8 (World.laidAll_os _ _ _)
      (World.shaped_of_ZipB (by kernel_rfl) (by kernel_rfl)) (by kernel_rfl) (by kernel_rfl) (by kernel_rfl)
      (by rw [MakeChecks.laidMetH_plain _ _ _ (by kernel_rfl)]; exact laidMet_laidAll _ (by kernel_rfl) (by kernel_rfl))) ?_
  intro W base args ds gs before hSh hval0 hW hL
  have hval : ∀ (j : Nat) t v, Tryd.f5.params[j]? = some t → args[j]? = some v → Value.okWide Tryd.prog W .any base t v := hval0
  have hE := tune_env hSh hL
  have hW' := hW
  obtain ⟨p, q, hA0, hV, rfl, hfz, hnd⟩ := hW
  have hA : DataW.TrodAll enc Tryd.prog W 0 (fun _ => true) true Tryd.f5.params.toList args.toList ds p := hA0
  rw [Tryd.params5] at hA hval
  obtain ⟨v0, v1, d0, d1, p0, p1, rfl, rfl, rfl, h0, h1⟩ := trodAll_two hA
  obtain ⟨cells0, rows0, slice0, least0, sat0, A0, c0, log, rfl, hr0, hn0, hb0⟩ := open_set (hval 0 _ v0 rfl rfl) h0
  obtain ⟨l, rfl, -, -, hl⟩ := Go.ChangeMaps.open_string Tryd.underlying9 (hval 1 _ v1 rfl rfl) h1
  refine (tune_walk ⟨cells0, rows0, slice0, least0, sat0, log⟩ A0 c0 l W hE hr0 hn0 hb0 hl).mono fun e W' ⟨he, hB⟩ => ?_
  subst he
  exact ⟨_, rfl, law_post tune_laid (by kernel_rfl) rfl (fun hg => by subst hg; rfl) rfl Tryd.underlying4 hW' hB⟩
theorem tune_inPlace : Tryd.prog.inPlace 5 = Rows.fnExactTuneRow.inPlace := by unfold Program.inPlace; rw [closure_of]; kernel_rfl
theorem tune_unfollowed : Tryd.prog.unfollowed 5 = Rows.fnExactTuneRow.unfollowed := by unfold Program.unfollowed; rw [closure_of]; kernel_rfl
theorem tune_recurses : Tryd.prog.recurses 5 = Rows.fnExactTuneRow.recurses := by rw [recurses_of, tune_unfollowed, closure_of]; kernel_rfl
theorem tune_named : Tryd.prog.varsNamed 5 = Rows.fnExactTuneRow.named := by unfold Program.varsNamed; rw [closure_of]; kernel_rfl
set_option maxHeartbeats 4000000 in
theorem tune_closed : joinedFacts Tryd.prog 5 Tryd.f5 Rows.fnExactTuneSpec Rows.fnExactTuneRow = true := by
  unfold joinedFacts
  rw [tune_inPlace, tune_unfollowed, tune_recurses, tune_named, may_enter, lifts_final, make_is]
  repeat' (with_reducible refine Bool.and_eq_true_iff.2 ⟨?_, ?_⟩)
  all_goals (as_aux_lemma => kernel_rfl)
theorem tune_row : Rows.FnExactTuneSaid :=
  OpenClaim.holds_of_wide 5 Tryd.f5 rfl rfl rfl rfl rfl rfl rfl ⟨rfl, rfl, rfl, rfl, rfl⟩ rfl rfl rfl rfl rfl (by as_aux_lemma => kernel_rfl) Tryd.func5 tune_closed
    (of_decide_eq_true (by kernel_rfl)) (by unfold Func.isWrapper; first | (rw [if_pos (by decide +kernel)]; kernel_rfl) | (rw [if_neg (by decide +kernel)]; exact ⟨rfl, rfl⟩))
    (fun os started H enc _ => tune_lifted os started H enc)
theorem tune_holds : Rows.FnExactTuneCardSaid :=
  Claim7.holds_tied_plain_at .later [] [.data, .data, .data, .data, .pinned] true (true, "b15527c2c1a1128b12989c38e90117721567bf4e0e8de9067355d18ffbeb5ff9") false tune_row (fun _ h => by cases h) (by kernel_rfl) (fun _ h => by cases h) fnExactTune_row_tie rfl ⟨rfl, rfl⟩ (by kernel_rfl) rfl
    (fun f fn hf hfn => by
      obtain rfl : f = 5 := Option.some.inj ((show Tryd.prog.funcNamed "loop.example/g03326/laws.FnExactTune" = some 5 by kernel_rfl).symm.trans hf) |>.symm
      obtain rfl : fn = Tryd.f5 := (Option.some.inj (Tryd.func5.symm.trans hfn)).symm
      exact ⟨by kernel_rfl, fun j t ht => by
        rw [Tryd.params5] at ht
        have hm : t ∈ [25, 9] := by simpa using Array.mem_of_getElem? ht
        have hall : ([25, 9].all fun u => !Tryd.prog.wantsStandIn u) = true := by kernel_rfl
        exact (show Tryd.prog.wantsStandIn t = false by simpa using List.all_eq_true.1 hall t hm)⟩)
    (by kernel_rfl)
end Go.Proofs.YtiddaabodkglmaaDoor
