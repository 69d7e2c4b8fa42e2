/- For every set and every list of texts: TuneAll answers what the reference answers, in memory of its own, and leaves its arguments as they were (FnExactTuneAll returns true). -/
import Derived.Test.YtfmghfghhipmhaaDoorWTuneAll
import Derived.Test.YtfmghfghhipmhaaDoorRl
import Derived.Test.YtfmghfghhipmhaaDoorRo
import Derived.Test.YtfmghfghhipmhaaDoorRw
import Derived.Test.YtfmghfghhipmhaaDoorRx
import Derived.Test.YtfmghfghhipmhaaDoorGrT
import Derived.Test.YtfmghfghhipmhaaDoorRows
import Derived.Test.YtfmghfghhipmhaaDoorTie
import Derived.Test.YtfmghfghhipmhaaDoorCards
import Derived.SevenTiedAt
import Derived.ChangeMaps5
namespace Go.Proofs.YtfmghfghhipmhaaDoor
open Go.RowKit Go.Fx
set_option linter.unusedVariables false
set_option linter.unusedSimpArgs false
theorem tuneAll_own : ownKnob Tryd.prog.godebug = none := by kernel_rfl
theorem tuneAll_laid : laidOutB Tryd.prog = true := by kernel_rfl
open Go.ChangeShapes Go.WideShapes Go.ChangeAt in
theorem open_strP {H : Type} {enc : TypeId × Value → H} {P : Program} {w : World} {base : Nat} {t e : TypeId} {v : Value} {d : DataW H} {ps : List MemPlace} (ht : P.underlying t = some (.slice e)) (he : P.underlying e = some .string) (hc : P.cellsOf e = 1)
    (hval : Value.okWide P w .any base t v) (h : DataW.Trod enc P w 0 (fun _ => true) true t v d ps) : ∃ (A : Option Addr) (c : Nat) (rs : List ByteArray), v = .slice A rs.length c ∧ Rd w A (rs.map st) ∧ rs.length ≤ maxLen ∧ ∀ s ∈ rs, s.size ≤ maxLen := by
  obtain ⟨a0, len, cap, rfl⟩ := okWide_slice ht hval
  obtain ⟨fuel, hf⟩ := h
  have hf' : DataW.trod enc P w 0 (fun _ => true) true fuel t [.slice a0 len cap] = some (d, ps) := by simpa [Value.cells] using hf
  exact open_strL ht he hc hf'
theorem tuneAll_env {W : World} (h : W.ShapedOpen Tryd.prog) (hL : laidMetH Tryd.prog Rows.fnExactTuneAllRow.laid W) : Env W := by
  rw [MakeChecks.laidMetH_plain _ _ _ (by kernel_rfl)] at hL
  exact ⟨Lib.tabIs_of_head (g := 2) (t := ((Tryd.prog.globals[2]?).map (·.type)).getD 0) (e := 101) (n := 20) (by kernel_rfl) (by kernel_rfl) (by kernel_rfl) (by kernel_rfl) (by kernel_rfl) (by kernel_rfl) (laidMet.tail (laidMet.tail hL)), env_max h⟩
open Go.ChangeShapes Go.WideShapes Go.ChangeAt in
set_option maxRecDepth 100000 in
theorem tuneAll_lifted (os : Os) (started : os.Started) (H : Type) (enc : TypeId × Value → H) :
    ReturnsInHanded {} Tryd.checked os 8 .any (fun w args => (Rows.fnExactTuneAllSpec.pre enc Tryd.prog Tryd.f8 Rows.fnExactTuneAllRow.domain false w args ∧ laidMetH Tryd.prog Rows.fnExactTuneAllRow.laid w) ∧ sizedMet enc Tryd.prog Tryd.f8 (OpenSpec.ofChange Rows.fnExactTuneAllSpec) false w args) (Rows.fnExactTuneAllSpec.post enc Tryd.prog Tryd.f8 false true false false) := by
  refine handed_shaped (C := Tryd.checked) (X := fun w _ => laidMetH Tryd.prog Rows.fnExactTuneAllRow.laid w) (fun _ _ _ hh h => h.of_heap hh) tuneAll_own started (by kernel_rfl) Tryd.func8
    (ChangeSpec.witness_shaped (enc := enc) (C := Tryd.checked) (os := os) (X := fun w _ => laidMetH Tryd.prog Rows.fnExactTuneAllRow.laid w) false (World.laidAll Tryd.prog os Rows.fnExactTuneAllRow.laid) #[.agg #[.int .i64 0, .int .i64 0, .float .f32 0, .float .f32 0, .float .f32 0, .slice none 0 0], .slice none 0 0] 8 (World.laidAll_os _ _ _)
      (World.shaped_of_ZipB (by kernel_rfl) (by kernel_rfl)) (by kernel_rfl) (by kernel_rfl) (by kernel_rfl)
      (by rw [MakeChecks.laidMetH_plain _ _ _ (by kernel_rfl)]; exact laidMet_laidAll _ (by kernel_rfl) (by kernel_rfl))) ?_
  intro W base args ds gs before hSh hval0 hW hL
  have hval : ∀ (j : Nat) t v, Tryd.f8.params[j]? = some t → args[j]? = some v → Value.okWide Tryd.prog W .any base t v := hval0
  have hE := tuneAll_env hSh hL
  have hlt : ∀ p ∈ before, p.block < W.heap.size := fun p hp => hW.lt p hp
  have hW' := hW
  obtain ⟨p, q, hA0, hV, rfl, hfz, hnd⟩ := hW
  have hA : DataW.TrodAll enc Tryd.prog W 0 (fun _ => true) true Tryd.f8.params.toList args.toList ds p := hA0
  rw [Tryd.params8] at hA hval
  obtain ⟨v0, v1, d0_, d1_, p0, p1, rfl, rfl, rfl, h0, h1⟩ := trodAll_two hA
  obtain ⟨cells0, rows0, slice0, least0, sat0, A0, c0, log0, rfl, hr0, hn0, hb0⟩ := open_set (hval 0 _ v0 rfl rfl) h0
  obtain ⟨B1, d1, rs1, rfl, hr1, hn1, hb1⟩ := open_strP Tryd.underlying23 Tryd.underlying9 (by kernel_rfl) (hval 1 _ v1 rfl rfl) h1
  refine (tuneAll_walk ⟨cells0, rows0, slice0, least0, sat0, log0⟩ A0 c0 B1 d1 rs1 W hE hr0 hn0 hb0 hr1 hn1 hb1).mono fun e W' ⟨he, hB⟩ => ?_
  subst he
  exact ⟨_, rfl, law_post tuneAll_laid (by kernel_rfl) rfl (fun hg => by subst hg; rfl) rfl Tryd.underlying4 hW' hB⟩
theorem tuneAll_inPlace : Tryd.prog.inPlace 8 = Rows.fnExactTuneAllRow.inPlace := by unfold Program.inPlace; rw [closure_of]; kernel_rfl
theorem tuneAll_unfollowed : Tryd.prog.unfollowed 8 = Rows.fnExactTuneAllRow.unfollowed := by unfold Program.unfollowed; rw [closure_of]; kernel_rfl
theorem tuneAll_recurses : Tryd.prog.recurses 8 = Rows.fnExactTuneAllRow.recurses := by rw [recurses_of, tuneAll_unfollowed, closure_of]; kernel_rfl
theorem tuneAll_named : Tryd.prog.varsNamed 8 = Rows.fnExactTuneAllRow.named := by unfold Program.varsNamed; rw [closure_of]; kernel_rfl
set_option maxHeartbeats 4000000 in
theorem tuneAll_closed : joinedFacts Tryd.prog 8 Tryd.f8 Rows.fnExactTuneAllSpec Rows.fnExactTuneAllRow = true := by
  unfold joinedFacts
  rw [tuneAll_inPlace, tuneAll_unfollowed, tuneAll_recurses, tuneAll_named, may_enter, lifts_final, make_is]
  repeat' (with_reducible refine Bool.and_eq_true_iff.2 ⟨?_, ?_⟩)
  all_goals (as_aux_lemma => kernel_rfl)
theorem tuneAll_row : Rows.FnExactTuneAllSaid :=
  OpenClaim.holds_of_wide 8 Tryd.f8 rfl rfl rfl rfl rfl rfl rfl ⟨rfl, rfl, rfl, rfl, rfl⟩ rfl rfl rfl rfl rfl (by as_aux_lemma => kernel_rfl) Tryd.func8 tuneAll_closed
    (of_decide_eq_true (by kernel_rfl)) (by unfold Func.isWrapper; first | (rw [if_pos (by decide +kernel)]; kernel_rfl) | (rw [if_neg (by decide +kernel)]; exact ⟨rfl, rfl⟩))
    (fun os started H enc _ => tuneAll_lifted os started H enc)
theorem tuneAll_holds : Rows.FnExactTuneAllCardSaid :=
  Claim7.holds_tied_plain_at .later [] [.data, .data, .data, .data, .pinned] true (true, "b15527c2c1a1128b12989c38e90117721567bf4e0e8de9067355d18ffbeb5ff9") false tuneAll_row (fun _ h => by cases h) (by kernel_rfl) (fun _ h => by cases h) fnExactTuneAll_row_tie rfl ⟨rfl, rfl⟩ (by kernel_rfl) rfl
    (fun f fn hf hfn => by
      obtain rfl : f = 8 := Option.some.inj ((show Tryd.prog.funcNamed "loop.example/g03326/laws.FnExactTuneAll" = some 8 by kernel_rfl).symm.trans hf) |>.symm
      obtain rfl : fn = Tryd.f8 := (Option.some.inj (Tryd.func8.symm.trans hfn)).symm
      exact ⟨by kernel_rfl, fun j t ht => by
        rw [Tryd.params8] at ht
        have hm : t ∈ [25, 23] := by simpa using Array.mem_of_getElem? ht
        have hall : ([25, 23].all fun u => !Tryd.prog.wantsStandIn u) = true := by kernel_rfl
        exact (show Tryd.prog.wantsStandIn t = false by simpa using List.all_eq_true.1 hall t hm)⟩)
    (by kernel_rfl)
end Go.Proofs.YtfmghfghhipmhaaDoor
