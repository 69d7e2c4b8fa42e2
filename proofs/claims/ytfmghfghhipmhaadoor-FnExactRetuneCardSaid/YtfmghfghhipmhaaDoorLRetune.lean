/- For all numbers of cells and rows and every log: Retune answers what the reference answers, in memory of its own, and leaves its arguments as they were (FnExactRetune returns true). -/
import Derived.Test.YtfmghfghhipmhaaDoorWRetune
import Derived.Test.YtfmghfghhipmhaaDoorRl
import Derived.Test.YtfmghfghhipmhaaDoorRo
import Derived.Test.YtfmghfghhipmhaaDoorRw
import Derived.Test.YtfmghfghhipmhaaDoorRx
import Derived.Test.YtfmghfghhipmhaaDoorGrT
import Derived.Test.YtfmghfghhipmhaaDoorRows
import Derived.Test.YtfmghfghhipmhaaDoorTie
import Derived.Test.YtfmghfghhipmhaaDoorCards
import Derived.SevenTiedAt
import Derived.ChangeMaps5
namespace Go.Proofs.YtfmghfghhipmhaaDoor
open Go.RowKit Go.Fx
set_option linter.unusedVariables false
set_option linter.unusedSimpArgs false
theorem retune_own : ownKnob Tryd.prog.godebug = none := by kernel_rfl
theorem retune_laid : laidOutB Tryd.prog = true := by kernel_rfl
open Go.ChangeShapes Go.WideShapes Go.ChangeAt in
theorem open_strP {H : Type} {enc : TypeId × Value → H} {P : Program} {w : World} {base : Nat} {t e : TypeId} {v : Value} {d : DataW H} {ps : List MemPlace} (ht : P.underlying t = some (.slice e)) (he : P.underlying e = some .string) (hc : P.cellsOf e = 1)
    (hval : Value.okWide P w .any base t v) (h : DataW.Trod enc P w 0 (fun _ => true) true t v d ps) : ∃ (A : Option Addr) (c : Nat) (rs : List ByteArray), v = .slice A rs.length c ∧ Rd w A (rs.map st) ∧ rs.length ≤ maxLen ∧ ∀ s ∈ rs, s.size ≤ maxLen := by
  obtain ⟨a0, len, cap, rfl⟩ := okWide_slice ht hval
  obtain ⟨fuel, hf⟩ := h
  have hf' : DataW.trod enc P w 0 (fun _ => true) true fuel t [.slice a0 len cap] = some (d, ps) := by simpa [Value.cells] using hf
  exact open_strL ht he hc hf'
theorem retune_env {W : World} (h : W.ShapedOpen Tryd.prog) (hL : laidMetH Tryd.prog Rows.fnExactRetuneRow.laid W) : Env W := by
  rw [MakeChecks.laidMetH_plain _ _ _ (by kernel_rfl)] at hL
  exact ⟨Lib.tabIs_of_head (g := 2) (t := ((Tryd.prog.globals[2]?).map (·.type)).getD 0) (e := 101) (n := 20) (by kernel_rfl) (by kernel_rfl) (by kernel_rfl) (by kernel_rfl) (by kernel_rfl) (by kernel_rfl) (laidMet.tail (laidMet.tail hL)), env_max h⟩
open Go.ChangeShapes Go.WideShapes Go.ChangeAt in
set_option maxRecDepth 100000 in
theorem retune_lifted (os : Os) (started : os.Started) (H : Type) (enc : TypeId × Value → H) :
    ReturnsInHanded {} Tryd.checked os 6 .any (fun w args => (Rows.fnExactRetuneSpec.pre enc Tryd.prog Tryd.f6 Rows.fnExactRetuneRow.domain false w args ∧ laidMetH Tryd.prog Rows.fnExactRetuneRow.laid w) ∧ sizedMet enc Tryd.prog Tryd.f6 (OpenSpec.ofChange Rows.fnExactRetuneSpec) false w args) (Rows.fnExactRetuneSpec.post enc Tryd.prog Tryd.f6 false true false false) := by
  refine handed_shaped (C := Tryd.checked) (X := fun w _ => laidMetH Tryd.prog Rows.fnExactRetuneRow.laid w) (fun _ _ _ hh h => h.of_heap hh) retune_own started (by kernel_rfl) Tryd.func6
    (ChangeSpec.witness_shaped (enc := enc) (C := Tryd.checked) (os := os) (X := fun w _ => laidMetH Tryd.prog Rows.fnExactRetuneRow.laid w) false (World.laidAll Tryd.prog os Rows.fnExactRetuneRow.laid) #[.int .i64 0, .int .i64 0, .slice none 0 0] 8 (World.laidAll_os _ _ _)
      (World.shaped_of_ZipB (by kernel_rfl) (by kernel_rfl)) (by kernel_rfl) (by kernel_rfl) (by kernel_rfl)
      (by rw [MakeChecks.laidMetH_plain _ _ _ (by kernel_rfl)]; exact laidMet_laidAll _ (by kernel_rfl) (by kernel_rfl))) ?_
  intro W base args ds gs before hSh hval0 hW hL
  have hval : ∀ (j : Nat) t v, Tryd.f6.params[j]? = some t → args[j]? = some v → Value.okWide Tryd.prog W .any base t v := hval0
  have hE := retune_env hSh hL
  have hlt : ∀ p ∈ before, p.block < W.heap.size := fun p hp => hW.lt p hp
  have hW' := hW
  obtain ⟨p, q, hA0, hV, rfl, hfz, hnd⟩ := hW
  have hA : DataW.TrodAll enc Tryd.prog W 0 (fun _ => true) true Tryd.f6.params.toList args.toList ds p := hA0
  rw [Tryd.params6] at hA hval
  obtain ⟨v0, v1, v2, d0_, d1_, d2_, p0, p1, p2, rfl, rfl, rfl, h0, h1, h2⟩ := trodAll_three hA
  obtain ⟨n0, rfl, -⟩ := open_i64 Tryd.underlying3 (hval 0 _ v0 rfl rfl) h0
  obtain ⟨n1, rfl, -⟩ := open_i64 Tryd.underlying3 (hval 1 _ v1 rfl rfl) h1
  obtain ⟨B2, d2, rs2, rfl, hr2, hn2, hb2⟩ := open_strP Tryd.underlying23 Tryd.underlying9 (by kernel_rfl) (hval 2 _ v2 rfl rfl) h2
  refine (retune_walk n0 n1 B2 d2 rs2 W hE   hr2 hn2 hb2).mono fun e W' ⟨he, hB⟩ => ?_
  subst he
  exact ⟨_, rfl, law_post retune_laid (by kernel_rfl) rfl (fun hg => by subst hg; rfl) rfl Tryd.underlying4 hW' hB⟩
theorem retune_inPlace : Tryd.prog.inPlace 6 = Rows.fnExactRetuneRow.inPlace := by unfold Program.inPlace; rw [closure_of]; kernel_rfl
theorem retune_unfollowed : Tryd.prog.unfollowed 6 = Rows.fnExactRetuneRow.unfollowed := by unfold Program.unfollowed; rw [closure_of]; kernel_rfl
theorem retune_recurses : Tryd.prog.recurses 6 = Rows.fnExactRetuneRow.recurses := by rw [recurses_of, retune_unfollowed, closure_of]; kernel_rfl
theorem retune_named : Tryd.prog.varsNamed 6 = Rows.fnExactRetuneRow.named := by unfold Program.varsNamed; rw [closure_of]; kernel_rfl
set_option maxHeartbeats 4000000 in
theorem retune_closed : joinedFacts Tryd.prog 6 Tryd.f6 Rows.fnExactRetuneSpec Rows.fnExactRetuneRow = true := by
  unfold joinedFacts
  rw [retune_inPlace, retune_unfollowed, retune_recurses, retune_named, may_enter, lifts_final, make_is]
  repeat' (with_reducible refine Bool.and_eq_true_iff.2 ⟨?_, ?_⟩)
  all_goals (as_aux_lemma => kernel_rfl)
theorem retune_row : Rows.FnExactRetuneSaid :=
  OpenClaim.holds_of_wide 6 Tryd.f6 rfl rfl rfl rfl rfl rfl rfl ⟨rfl, rfl, rfl, rfl, rfl⟩ rfl rfl rfl rfl rfl (by as_aux_lemma => kernel_rfl) Tryd.func6 retune_closed
    (of_decide_eq_true (by kernel_rfl)) (by unfold Func.isWrapper; first | (rw [if_pos (by decide +kernel)]; kernel_rfl) | (rw [if_neg (by decide +kernel)]; exact ⟨rfl, rfl⟩))
    (fun os started H enc _ => retune_lifted os started H enc)
theorem retune_holds : Rows.FnExactRetuneCardSaid :=
  Claim7.holds_tied_plain_at .later [] [.data, .data, .data, .data, .pinned] true (true, "b15527c2c1a1128b12989c38e90117721567bf4e0e8de9067355d18ffbeb5ff9") false retune_row (fun _ h => by cases h) (by kernel_rfl) (fun _ h => by cases h) fnExactRetune_row_tie rfl ⟨rfl, rfl⟩ (by kernel_rfl) rfl
    (fun f fn hf hfn => by
      obtain rfl : f = 6 := Option.some.inj ((show Tryd.prog.funcNamed "loop.example/g03326/laws.FnExactRetune" = some 6 by kernel_rfl).symm.trans hf) |>.symm
      obtain rfl : fn = Tryd.f6 := (Option.some.inj (Tryd.func6.symm.trans hfn)).symm
      exact ⟨by kernel_rfl, fun j t ht => by
        rw [Tryd.params6] at ht
        have hm : t ∈ [3, 3, 23] := by simpa using Array.mem_of_getElem? ht
        have hall : ([3, 3, 23].all fun u => !Tryd.prog.wantsStandIn u) = true := by kernel_rfl
        exact (show Tryd.prog.wantsStandIn t = false by simpa using List.all_eq_true.1 hall t hm)⟩)
    (by kernel_rfl)
end Go.Proofs.YtfmghfghhipmhaaDoor
