/- For every code: a report has five fields, and a set that is tuned by its last three ones reports the same (FnReported returns true). -/
import Derived.Test.YtfmghfghhipmhaaDoorWReported
import Derived.Test.YtfmghfghhipmhaaDoorRl
import Derived.Test.YtfmghfghhipmhaaDoorRo
import Derived.Test.YtfmghfghhipmhaaDoorRw
import Derived.Test.YtfmghfghhipmhaaDoorRx
import Derived.Test.YtfmghfghhipmhaaDoorGrT
import Derived.Test.YtfmghfghhipmhaaDoorRows
import Derived.Test.YtfmghfghhipmhaaDoorTie
import Derived.Test.YtfmghfghhipmhaaDoorCards
import Derived.SevenTiedAt
import Derived.ChangeMaps5
namespace Go.Proofs.YtfmghfghhipmhaaDoor
open Go.RowKit Go.Fx
set_option linter.unusedVariables false
set_option linter.unusedSimpArgs false
theorem reported_own : ownKnob Tryd.prog.godebug = none := by kernel_rfl
theorem reported_laid : laidOutB Tryd.prog = true := by kernel_rfl
theorem reported_env {W : World} (h : W.ShapedOpen Tryd.prog) (hL : laidMetH Tryd.prog Rows.fnReportedRow.laid W) : Env W := by
  rw [MakeChecks.laidMetH_plain _ _ _ (by kernel_rfl)] at hL
  exact ⟨Lib.tabIs_of_head (g := 2) (t := ((Tryd.prog.globals[2]?).map (·.type)).getD 0) (e := 101) (n := 20) (by kernel_rfl) (by kernel_rfl) (by kernel_rfl) (by kernel_rfl) (by kernel_rfl) (by kernel_rfl) (laidMet.tail (laidMet.tail hL)), env_max h⟩
open Go.ChangeShapes Go.WideShapes Go.ChangeAt in
set_option maxRecDepth 100000 in
theorem reported_lifted (os : Os) (started : os.Started) (H : Type) (enc : TypeId × Value → H) :
    ReturnsInHanded {} Tryd.checked os 9 .any (fun w args => (Rows.fnReportedSpec.pre enc Tryd.prog Tryd.f9 Rows.fnReportedRow.domain false w args ∧ laidMetH Tryd.prog Rows.fnReportedRow.laid w) ∧ sizedMet enc Tryd.prog Tryd.f9 (OpenSpec.ofChange Rows.fnReportedSpec) false w args) (Rows.fnReportedSpec.post enc Tryd.prog Tryd.f9 false true false false) := by
  refine handed_shaped (C := Tryd.checked) (X := fun w _ => laidMetH Tryd.prog Rows.fnReportedRow.laid w) (fun _ _ _ hh h => h.of_heap hh) reported_own started (by kernel_rfl) Tryd.func9
    (ChangeSpec.witness_shaped (enc := enc) (C := Tryd.checked) (os := os) (X := fun w _ => laidMetH Tryd.prog Rows.fnReportedRow.laid w) false (World.laidAll Tryd.prog os Rows.fnReportedRow.laid) #[.slice none 0 0] 8 (World.laidAll_os _ _ _)
      (World.shaped_of_ZipB (by kernel_rfl) (by kernel_rfl)) (by kernel_rfl) (by kernel_rfl) (by kernel_rfl)
      (by rw [MakeChecks.laidMetH_plain _ _ _ (by kernel_rfl)]; exact laidMet_laidAll _ (by kernel_rfl) (by kernel_rfl))) ?_
  intro W base args ds gs before hSh hval0 hW hL
  have hval : ∀ (j : Nat) t v, Tryd.f9.params[j]? = some t → args[j]? = some v → Value.okWide Tryd.prog W .any base t v := hval0
  have hE := reported_env hSh hL
  have hlt : ∀ p ∈ before, p.block < W.heap.size := fun p hp => hW.lt p hp
  have hW' := hW
  obtain ⟨p, q, hA0, hV, rfl, hfz, hnd⟩ := hW
  have hA : DataW.TrodAll enc Tryd.prog W 0 (fun _ => true) true Tryd.f9.params.toList args.toList ds p := hA0
  rw [Tryd.params9] at hA hval
  obtain ⟨v0, d0_, rfl, rfl, h0⟩ := trodAll_one hA
  obtain ⟨A0, c0, code, rfl, hr0, hn0, hb0⟩ := open_u8s Tryd.underlying32 Tryd.underlying5 (by kernel_rfl) (hval 0 _ v0 rfl rfl) h0 (fun x hx => hlt x (List.mem_append_left _ hx))
  refine (reported_walk A0 c0 code W hE hr0 hn0 hb0).mono fun e W' ⟨he, hB⟩ => ?_
  subst he
  exact ⟨_, rfl, law_post reported_laid (by kernel_rfl) rfl (fun hg => by subst hg; rfl) rfl Tryd.underlying4 hW' hB⟩
theorem reported_inPlace : Tryd.prog.inPlace 9 = Rows.fnReportedRow.inPlace := by unfold Program.inPlace; rw [closure_of]; kernel_rfl
theorem reported_unfollowed : Tryd.prog.unfollowed 9 = Rows.fnReportedRow.unfollowed := by unfold Program.unfollowed; rw [closure_of]; kernel_rfl
theorem reported_recurses : Tryd.prog.recurses 9 = Rows.fnReportedRow.recurses := by rw [recurses_of, reported_unfollowed, closure_of]; kernel_rfl
theorem reported_named : Tryd.prog.varsNamed 9 = Rows.fnReportedRow.named := by unfold Program.varsNamed; rw [closure_of]; kernel_rfl
set_option maxHeartbeats 4000000 in
theorem reported_closed : joinedFacts Tryd.prog 9 Tryd.f9 Rows.fnReportedSpec Rows.fnReportedRow = true := by
  unfold joinedFacts
  rw [reported_inPlace, reported_unfollowed, reported_recurses, reported_named, may_enter, lifts_final, make_is]
  repeat' (with_reducible refine Bool.and_eq_true_iff.2 ⟨?_, ?_⟩)
  all_goals (as_aux_lemma => kernel_rfl)
theorem reported_row : Rows.FnReportedSaid :=
  OpenClaim.holds_of_wide 9 Tryd.f9 rfl rfl rfl rfl rfl rfl rfl ⟨rfl, rfl, rfl, rfl, rfl⟩ rfl rfl rfl rfl rfl (by as_aux_lemma => kernel_rfl) Tryd.func9 reported_closed
    (of_decide_eq_true (by kernel_rfl)) (by unfold Func.isWrapper; first | (rw [if_pos (by decide +kernel)]; kernel_rfl) | (rw [if_neg (by decide +kernel)]; exact ⟨rfl, rfl⟩))
    (fun os started H enc _ => reported_lifted os started H enc)
theorem reported_holds : Rows.FnReportedCardSaid :=
  Claim7.holds_tied_plain_at .later [] [.data, .data, .data, .data, .pinned] true (true, "b15527c2c1a1128b12989c38e90117721567bf4e0e8de9067355d18ffbeb5ff9") false reported_row (fun _ h => by cases h) (by kernel_rfl) (fun _ h => by cases h) fnReported_row_tie rfl ⟨rfl, rfl⟩ (by kernel_rfl) rfl
    (fun f fn hf hfn => by
      obtain rfl : f = 9 := Option.some.inj ((show Tryd.prog.funcNamed "loop.example/g03326/laws.FnReported" = some 9 by kernel_rfl).symm.trans hf) |>.symm
      obtain rfl : fn = Tryd.f9 := (Option.some.inj (Tryd.func9.symm.trans hfn)).symm
      exact ⟨by kernel_rfl, fun j t ht => by
        rw [Tryd.params9] at ht
        have hm : t ∈ [32] := by simpa using Array.mem_of_getElem? ht
        have hall : ([32].all fun u => !Tryd.prog.wantsStandIn u) = true := by kernel_rfl
        exact (show Tryd.prog.wantsStandIn t = false by simpa using List.all_eq_true.1 hall t hm)⟩)
    (by kernel_rfl)
end Go.Proofs.YtfmghfghhipmhaaDoor
