/-
  No cell of these rows narrows 'for every input' (looked for: loops, veiled, ifaces, maps, wideKeys, modest, calm, conditions, laid).
  DERIVED. THE GIVEN ROWS OF THIS SEAT. 32 by the template 'for every input the law returns true; each argument reads behind the call as it read before'; 0 by the template 'total and deterministic' (their statements: YtiddaabodkglmaaTotals.lean).
  GIVEN WITH THE SEED: the statements are not yours to turn. If you find one false, say at which input.
  Laid BY PROGRAM, IN A SANDBOX (cutbox-rows.mjs): the forced cells as the released guide's own fill.sh prints them over the translation d7b5cf871268469e… (all of the seat's roots in one cut). By AI agents, Wed Nov 11 2026. No macro, syntax, notation, axiom, sorry.
-/
import Derived.Test.YtiddaabodkglmaaChecked
import GoSem.Claim
import GoSem.ClaimJoined
import GoSem.ClaimMapViews
import Derived.JoinedTies
import Derived.KernelRfl
namespace Go.Proofs.Ytiddaabodkglmaa
/- THE CELL 'sum', in the pinned program and in every row, IS THE sha256 OF THE DUMP (.gsa) THAT YtiddaabodkglmaaProg.lean LOADS. Nothing in Lean hashes anything: it is a label: what it is worth is what the hold of that sum in a sandbox is worth. -/
noncomputable def Try.pinned : Pinned := { name := "ytiddaabodkglmaa", sum := "d7b5cf871268469ed0c6ef62df456b0ab249b57616652a866b51527ff1ab2c43", checked := Try.checked }
namespace Rows
def none {H : Type} : Left H := { results := [], args := [] }

/-- 'laws.FnExactSamplesOk': WHATEVER THE INPUT: true; the input reads as it did. -/
def fnExactSamplesOkSpec : ChangeSpec := { name := "fnExactSamplesOk", fn := fun _ => fun
  | [d] => { results := [.lit (.bool true)], args := [d] }
  | _ => none }
def fnExactSamplesOkRow : OpenClaim := { program := "ytiddaabodkglmaa", sum := "d7b5cf871268469ed0c6ef62df456b0ab249b57616652a866b51527ff1ab2c43", func := "loop.example/g03326/laws.FnExactSamplesOk", spec := "fnExactSamplesOk", unfollowed := true, recurses := true, apart := false }
def FnExactSamplesOkSaid : Prop := fnExactSamplesOkRow.holds Try.pinned (OpenSpec.ofChange fnExactSamplesOkSpec)

/-- ITS FALSE NEIGHBOUR: 'it returns false'. Refute it at one input. -/
def fnExactSamplesOkWrong : ChangeSpec := { name := "fnExactSamplesOk", fn := fun _ => fun
  | [d] => { results := [.lit (.bool false)], args := [d] }
  | _ => none }
def FnExactSamplesOkWrongFalsely : Prop := fnExactSamplesOkRow.holds Try.pinned (OpenSpec.ofChange fnExactSamplesOkWrong)

/-- 'laws.FnTop': WHATEVER THE INPUT: true; the input reads as it did. -/
def fnTopSpec : ChangeSpec := { name := "fnTop", fn := fun _ => fun
  | [d] => { results := [.lit (.bool true)], args := [d] }
  | _ => none }
def fnTopRow : OpenClaim := { program := "ytiddaabodkglmaa", sum := "d7b5cf871268469ed0c6ef62df456b0ab249b57616652a866b51527ff1ab2c43", func := "loop.example/g03326/laws.FnTop", spec := "fnTop", unfollowed := true, recurses := true, apart := false }
def FnTopSaid : Prop := fnTopRow.holds Try.pinned (OpenSpec.ofChange fnTopSpec)

/-- ITS FALSE NEIGHBOUR: 'it returns false'. Refute it at one input. -/
def fnTopWrong : ChangeSpec := { name := "fnTop", fn := fun _ => fun
  | [d] => { results := [.lit (.bool false)], args := [d] }
  | _ => none }
def FnTopWrongFalsely : Prop := fnTopRow.holds Try.pinned (OpenSpec.ofChange fnTopWrong)

/-- 'laws.FnExactErase': WHATEVER THE INPUT: true; the input reads as it did. -/
def fnExactEraseSpec : ChangeSpec := { name := "fnExactErase", fn := fun _ => fun
  | [d1, d2, d3] => { results := [.lit (.bool true)], args := [d1, d2, d3] }
  | _ => none }
def fnExactEraseRow : OpenClaim := { program := "ytiddaabodkglmaa", sum := "d7b5cf871268469ed0c6ef62df456b0ab249b57616652a866b51527ff1ab2c43", func := "loop.example/g03326/laws.FnExactErase", spec := "fnExactErase", apart := false }
def FnExactEraseSaid : Prop := fnExactEraseRow.holds Try.pinned (OpenSpec.ofChange fnExactEraseSpec)

/-- ITS FALSE NEIGHBOUR: 'it returns false'. Refute it at one input. -/
def fnExactEraseWrong : ChangeSpec := { name := "fnExactErase", fn := fun _ => fun
  | [d1, d2, d3] => { results := [.lit (.bool false)], args := [d1, d2, d3] }
  | _ => none }
def FnExactEraseWrongFalsely : Prop := fnExactEraseRow.holds Try.pinned (OpenSpec.ofChange fnExactEraseWrong)

/-- 'laws.FnPowers': WHATEVER THE INPUT: true; the input reads as it did. -/
def fnPowersSpec : ChangeSpec := { name := "fnPowers", fn := fun _ => fun
  | [d] => { results := [.lit (.bool true)], args := [d] }
  | _ => none }
def fnPowersRow : OpenClaim := { program := "ytiddaabodkglmaa", sum := "d7b5cf871268469ed0c6ef62df456b0ab249b57616652a866b51527ff1ab2c43", func := "loop.example/g03326/laws.FnPowers", spec := "fnPowers", apart := false }
def FnPowersSaid : Prop := fnPowersRow.holds Try.pinned (OpenSpec.ofChange fnPowersSpec)

/-- ITS FALSE NEIGHBOUR: 'it returns false'. Refute it at one input. -/
def fnPowersWrong : ChangeSpec := { name := "fnPowers", fn := fun _ => fun
  | [d] => { results := [.lit (.bool false)], args := [d] }
  | _ => none }
def FnPowersWrongFalsely : Prop := fnPowersRow.holds Try.pinned (OpenSpec.ofChange fnPowersWrong)

/-- 'laws.FnExactSetOk': WHATEVER THE INPUT: true; the input reads as it did. -/
def fnExactSetOkSpec : ChangeSpec := { name := "fnExactSetOk", fn := fun _ => fun
  | [d] => { results := [.lit (.bool true)], args := [d] }
  | _ => none }
def fnExactSetOkRow : OpenClaim := { program := "ytiddaabodkglmaa", sum := "d7b5cf871268469ed0c6ef62df456b0ab249b57616652a866b51527ff1ab2c43", func := "loop.example/g03326/laws.FnExactSetOk", spec := "fnExactSetOk", apart := false }
def FnExactSetOkSaid : Prop := fnExactSetOkRow.holds Try.pinned (OpenSpec.ofChange fnExactSetOkSpec)

/-- ITS FALSE NEIGHBOUR: 'it returns false'. Refute it at one input. -/
def fnExactSetOkWrong : ChangeSpec := { name := "fnExactSetOk", fn := fun _ => fun
  | [d] => { results := [.lit (.bool false)], args := [d] }
  | _ => none }
def FnExactSetOkWrongFalsely : Prop := fnExactSetOkRow.holds Try.pinned (OpenSpec.ofChange fnExactSetOkWrong)

/-- 'laws.FnExactNewSet': WHATEVER THE INPUT: true; the input reads as it did. -/
def fnExactNewSetSpec : ChangeSpec := { name := "fnExactNewSet", fn := fun _ => fun
  | [d1, d2] => { results := [.lit (.bool true)], args := [d1, d2] }
  | _ => none }
def fnExactNewSetRow : OpenClaim := { program := "ytiddaabodkglmaa", sum := "d7b5cf871268469ed0c6ef62df456b0ab249b57616652a866b51527ff1ab2c43", func := "loop.example/g03326/laws.FnExactNewSet", spec := "fnExactNewSet", apart := false }
def FnExactNewSetSaid : Prop := fnExactNewSetRow.holds Try.pinned (OpenSpec.ofChange fnExactNewSetSpec)

/-- ITS FALSE NEIGHBOUR: 'it returns false'. Refute it at one input. -/
def fnExactNewSetWrong : ChangeSpec := { name := "fnExactNewSet", fn := fun _ => fun
  | [d1, d2] => { results := [.lit (.bool false)], args := [d1, d2] }
  | _ => none }
def FnExactNewSetWrongFalsely : Prop := fnExactNewSetRow.holds Try.pinned (OpenSpec.ofChange fnExactNewSetWrong)

/-- 'laws.FnExactLows': WHATEVER THE INPUT: true; the input reads as it did. -/
def fnExactLowsSpec : ChangeSpec := { name := "fnExactLows", fn := fun _ => fun
  | [d1, d2] => { results := [.lit (.bool true)], args := [d1, d2] }
  | _ => none }
def fnExactLowsRow : OpenClaim := { program := "ytiddaabodkglmaa", sum := "d7b5cf871268469ed0c6ef62df456b0ab249b57616652a866b51527ff1ab2c43", func := "loop.example/g03326/laws.FnExactLows", spec := "fnExactLows", apart := false }
def FnExactLowsSaid : Prop := fnExactLowsRow.holds Try.pinned (OpenSpec.ofChange fnExactLowsSpec)

/-- ITS FALSE NEIGHBOUR: 'it returns false'. Refute it at one input. -/
def fnExactLowsWrong : ChangeSpec := { name := "fnExactLows", fn := fun _ => fun
  | [d1, d2] => { results := [.lit (.bool false)], args := [d1, d2] }
  | _ => none }
def FnExactLowsWrongFalsely : Prop := fnExactLowsRow.holds Try.pinned (OpenSpec.ofChange fnExactLowsWrong)

/-- 'laws.FnExactLevels': WHATEVER THE INPUT: true; the input reads as it did. -/
def fnExactLevelsSpec : ChangeSpec := { name := "fnExactLevels", fn := fun _ => fun
  | [d] => { results := [.lit (.bool true)], args := [d] }
  | _ => none }
def fnExactLevelsRow : OpenClaim := { program := "ytiddaabodkglmaa", sum := "d7b5cf871268469ed0c6ef62df456b0ab249b57616652a866b51527ff1ab2c43", func := "loop.example/g03326/laws.FnExactLevels", spec := "fnExactLevels", unfollowed := true, recurses := true, apart := false }
def FnExactLevelsSaid : Prop := fnExactLevelsRow.holds Try.pinned (OpenSpec.ofChange fnExactLevelsSpec)

/-- ITS FALSE NEIGHBOUR: 'it returns false'. Refute it at one input. -/
def fnExactLevelsWrong : ChangeSpec := { name := "fnExactLevels", fn := fun _ => fun
  | [d] => { results := [.lit (.bool false)], args := [d] }
  | _ => none }
def FnExactLevelsWrongFalsely : Prop := fnExactLevelsRow.holds Try.pinned (OpenSpec.ofChange fnExactLevelsWrong)

/-- 'laws.FnExactCutLines': WHATEVER THE INPUT: true; the input reads as it did. -/
def fnExactCutLinesSpec : ChangeSpec := { name := "fnExactCutLines", fn := fun _ => fun
  | [d1, d2, d3] => { results := [.lit (.bool true)], args := [d1, d2, d3] }
  | _ => none }
def fnExactCutLinesRow : OpenClaim := { program := "ytiddaabodkglmaa", sum := "d7b5cf871268469ed0c6ef62df456b0ab249b57616652a866b51527ff1ab2c43", func := "loop.example/g03326/laws.FnExactCutLines", spec := "fnExactCutLines", apart := false }
def FnExactCutLinesSaid : Prop := fnExactCutLinesRow.holds Try.pinned (OpenSpec.ofChange fnExactCutLinesSpec)

/-- ITS FALSE NEIGHBOUR: 'it returns false'. Refute it at one input. -/
def fnExactCutLinesWrong : ChangeSpec := { name := "fnExactCutLines", fn := fun _ => fun
  | [d1, d2, d3] => { results := [.lit (.bool false)], args := [d1, d2, d3] }
  | _ => none }
def FnExactCutLinesWrongFalsely : Prop := fnExactCutLinesRow.holds Try.pinned (OpenSpec.ofChange fnExactCutLinesWrong)

/-- 'laws.FnExactEcho': WHATEVER THE INPUT: true; the input reads as it did. -/
def fnExactEchoSpec : ChangeSpec := { name := "fnExactEcho", fn := fun _ => fun
  | [d1, d2, d3] => { results := [.lit (.bool true)], args := [d1, d2, d3] }
  | _ => none }
def fnExactEchoRow : OpenClaim := { program := "ytiddaabodkglmaa", sum := "d7b5cf871268469ed0c6ef62df456b0ab249b57616652a866b51527ff1ab2c43", func := "loop.example/g03326/laws.FnExactEcho", spec := "fnExactEcho", unfollowed := true, recurses := true, apart := false }
def FnExactEchoSaid : Prop := fnExactEchoRow.holds Try.pinned (OpenSpec.ofChange fnExactEchoSpec)

/-- ITS FALSE NEIGHBOUR: 'it returns false'. Refute it at one input. -/
def fnExactEchoWrong : ChangeSpec := { name := "fnExactEcho", fn := fun _ => fun
  | [d1, d2, d3] => { results := [.lit (.bool false)], args := [d1, d2, d3] }
  | _ => none }
def FnExactEchoWrongFalsely : Prop := fnExactEchoRow.holds Try.pinned (OpenSpec.ofChange fnExactEchoWrong)

/-- 'laws.FnHueTurnSides': WHATEVER THE INPUT: true; the input reads as it did. -/
def fnHueTurnSidesSpec : ChangeSpec := { name := "fnHueTurnSides", fn := fun _ => fun
  | [d] => { results := [.lit (.bool true)], args := [d] }
  | _ => none }
def fnHueTurnSidesRow : OpenClaim := { program := "ytiddaabodkglmaa", sum := "d7b5cf871268469ed0c6ef62df456b0ab249b57616652a866b51527ff1ab2c43", func := "loop.example/g03326/laws.FnHueTurnSides", spec := "fnHueTurnSides", unfollowed := true, recurses := true, apart := false }
def FnHueTurnSidesSaid : Prop := fnHueTurnSidesRow.holds Try.pinned (OpenSpec.ofChange fnHueTurnSidesSpec)

/-- ITS FALSE NEIGHBOUR: 'it returns false'. Refute it at one input. -/
def fnHueTurnSidesWrong : ChangeSpec := { name := "fnHueTurnSides", fn := fun _ => fun
  | [d] => { results := [.lit (.bool false)], args := [d] }
  | _ => none }
def FnHueTurnSidesWrongFalsely : Prop := fnHueTurnSidesRow.holds Try.pinned (OpenSpec.ofChange fnHueTurnSidesWrong)

/-- 'laws.FnTimes': WHATEVER THE INPUT: true; the input reads as it did. -/
def fnTimesSpec : ChangeSpec := { name := "fnTimes", fn := fun _ => fun
  | [d] => { results := [.lit (.bool true)], args := [d] }
  | _ => none }
def fnTimesRow : OpenClaim := { program := "ytiddaabodkglmaa", sum := "d7b5cf871268469ed0c6ef62df456b0ab249b57616652a866b51527ff1ab2c43", func := "loop.example/g03326/laws.FnTimes", spec := "fnTimes", apart := false }
def FnTimesSaid : Prop := fnTimesRow.holds Try.pinned (OpenSpec.ofChange fnTimesSpec)

/-- ITS FALSE NEIGHBOUR: 'it returns false'. Refute it at one input. -/
def fnTimesWrong : ChangeSpec := { name := "fnTimes", fn := fun _ => fun
  | [d] => { results := [.lit (.bool false)], args := [d] }
  | _ => none }
def FnTimesWrongFalsely : Prop := fnTimesRow.holds Try.pinned (OpenSpec.ofChange fnTimesWrong)

/-- 'laws.FnPlainChannel': WHATEVER THE INPUT: true; the input reads as it did. -/
def fnPlainChannelSpec : ChangeSpec := { name := "fnPlainChannel", fn := fun _ => fun
  | [d] => { results := [.lit (.bool true)], args := [d] }
  | _ => none }
def fnPlainChannelRow : OpenClaim := { program := "ytiddaabodkglmaa", sum := "d7b5cf871268469ed0c6ef62df456b0ab249b57616652a866b51527ff1ab2c43", func := "loop.example/g03326/laws.FnPlainChannel", spec := "fnPlainChannel", unfollowed := true, recurses := true, apart := false }
def FnPlainChannelSaid : Prop := fnPlainChannelRow.holds Try.pinned (OpenSpec.ofChange fnPlainChannelSpec)

/-- ITS FALSE NEIGHBOUR: 'it returns false'. Refute it at one input. -/
def fnPlainChannelWrong : ChangeSpec := { name := "fnPlainChannel", fn := fun _ => fun
  | [d] => { results := [.lit (.bool false)], args := [d] }
  | _ => none }
def FnPlainChannelWrongFalsely : Prop := fnPlainChannelRow.holds Try.pinned (OpenSpec.ofChange fnPlainChannelWrong)

/-- 'laws.FnExactStarts': WHATEVER THE INPUT: true; the input reads as it did. -/
def fnExactStartsSpec : ChangeSpec := { name := "fnExactStarts", fn := fun _ => fun
  | [d1, d2, d3, d4] => { results := [.lit (.bool true)], args := [d1, d2, d3, d4] }
  | _ => none }
def fnExactStartsRow : OpenClaim := { program := "ytiddaabodkglmaa", sum := "d7b5cf871268469ed0c6ef62df456b0ab249b57616652a866b51527ff1ab2c43", func := "loop.example/g03326/laws.FnExactStarts", spec := "fnExactStarts", unfollowed := true, recurses := true, apart := false }
def FnExactStartsSaid : Prop := fnExactStartsRow.holds Try.pinned (OpenSpec.ofChange fnExactStartsSpec)

/-- ITS FALSE NEIGHBOUR: 'it returns false'. Refute it at one input. -/
def fnExactStartsWrong : ChangeSpec := { name := "fnExactStarts", fn := fun _ => fun
  | [d1, d2, d3, d4] => { results := [.lit (.bool false)], args := [d1, d2, d3, d4] }
  | _ => none }
def FnExactStartsWrongFalsely : Prop := fnExactStartsRow.holds Try.pinned (OpenSpec.ofChange fnExactStartsWrong)

/-- 'laws.FnChained': WHATEVER THE INPUT: true; the input reads as it did. -/
def fnChainedSpec : ChangeSpec := { name := "fnChained", fn := fun _ => fun
  | [d] => { results := [.lit (.bool true)], args := [d] }
  | _ => none }
def fnChainedRow : OpenClaim := { program := "ytiddaabodkglmaa", sum := "d7b5cf871268469ed0c6ef62df456b0ab249b57616652a866b51527ff1ab2c43", func := "loop.example/g03326/laws.FnChained", spec := "fnChained", unfollowed := true, recurses := true, apart := false }
def FnChainedSaid : Prop := fnChainedRow.holds Try.pinned (OpenSpec.ofChange fnChainedSpec)

/-- ITS FALSE NEIGHBOUR: 'it returns false'. Refute it at one input. -/
def fnChainedWrong : ChangeSpec := { name := "fnChained", fn := fun _ => fun
  | [d] => { results := [.lit (.bool false)], args := [d] }
  | _ => none }
def FnChainedWrongFalsely : Prop := fnChainedRow.holds Try.pinned (OpenSpec.ofChange fnChainedWrong)

/-- 'laws.FnExactToLevel': WHATEVER THE INPUT: true; the input reads as it did. -/
def fnExactToLevelSpec : ChangeSpec := { name := "fnExactToLevel", fn := fun _ => fun
  | [d] => { results := [.lit (.bool true)], args := [d] }
  | _ => none }
def fnExactToLevelRow : OpenClaim := { program := "ytiddaabodkglmaa", sum := "d7b5cf871268469ed0c6ef62df456b0ab249b57616652a866b51527ff1ab2c43", func := "loop.example/g03326/laws.FnExactToLevel", spec := "fnExactToLevel", unfollowed := true, recurses := true, apart := false }
def FnExactToLevelSaid : Prop := fnExactToLevelRow.holds Try.pinned (OpenSpec.ofChange fnExactToLevelSpec)

/-- ITS FALSE NEIGHBOUR: 'it returns false'. Refute it at one input. -/
def fnExactToLevelWrong : ChangeSpec := { name := "fnExactToLevel", fn := fun _ => fun
  | [d] => { results := [.lit (.bool false)], args := [d] }
  | _ => none }
def FnExactToLevelWrongFalsely : Prop := fnExactToLevelRow.holds Try.pinned (OpenSpec.ofChange fnExactToLevelWrong)

/-- 'laws.FnLows': WHATEVER THE INPUT: true; the input reads as it did. -/
def fnLowsSpec : ChangeSpec := { name := "fnLows", fn := fun _ => fun
  | [d] => { results := [.lit (.bool true)], args := [d] }
  | _ => none }
def fnLowsRow : OpenClaim := { program := "ytiddaabodkglmaa", sum := "d7b5cf871268469ed0c6ef62df456b0ab249b57616652a866b51527ff1ab2c43", func := "loop.example/g03326/laws.FnLows", spec := "fnLows", apart := false }
def FnLowsSaid : Prop := fnLowsRow.holds Try.pinned (OpenSpec.ofChange fnLowsSpec)

/-- ITS FALSE NEIGHBOUR: 'it returns false'. Refute it at one input. -/
def fnLowsWrong : ChangeSpec := { name := "fnLows", fn := fun _ => fun
  | [d] => { results := [.lit (.bool false)], args := [d] }
  | _ => none }
def FnLowsWrongFalsely : Prop := fnLowsRow.holds Try.pinned (OpenSpec.ofChange fnLowsWrong)

/-- 'laws.FnErased': WHATEVER THE INPUT: true; the input reads as it did. -/
def fnErasedSpec : ChangeSpec := { name := "fnErased", fn := fun _ => fun
  | [d] => { results := [.lit (.bool true)], args := [d] }
  | _ => none }
def fnErasedRow : OpenClaim := { program := "ytiddaabodkglmaa", sum := "d7b5cf871268469ed0c6ef62df456b0ab249b57616652a866b51527ff1ab2c43", func := "loop.example/g03326/laws.FnErased", spec := "fnErased", apart := false }
def FnErasedSaid : Prop := fnErasedRow.holds Try.pinned (OpenSpec.ofChange fnErasedSpec)

/-- ITS FALSE NEIGHBOUR: 'it returns false'. Refute it at one input. -/
def fnErasedWrong : ChangeSpec := { name := "fnErased", fn := fun _ => fun
  | [d] => { results := [.lit (.bool false)], args := [d] }
  | _ => none }
def FnErasedWrongFalsely : Prop := fnErasedRow.holds Try.pinned (OpenSpec.ofChange fnErasedWrong)

/-- 'laws.FnExactDecodeAlone': WHATEVER THE INPUT: true; the input reads as it did. -/
def fnExactDecodeAloneSpec : ChangeSpec := { name := "fnExactDecodeAlone", fn := fun _ => fun
  | [d1, d2] => { results := [.lit (.bool true)], args := [d1, d2] }
  | _ => none }
def fnExactDecodeAloneRow : OpenClaim := { program := "ytiddaabodkglmaa", sum := "d7b5cf871268469ed0c6ef62df456b0ab249b57616652a866b51527ff1ab2c43", func := "loop.example/g03326/laws.FnExactDecodeAlone", spec := "fnExactDecodeAlone", unfollowed := true, recurses := true, apart := false }
def FnExactDecodeAloneSaid : Prop := fnExactDecodeAloneRow.holds Try.pinned (OpenSpec.ofChange fnExactDecodeAloneSpec)

/-- ITS FALSE NEIGHBOUR: 'it returns false'. Refute it at one input. -/
def fnExactDecodeAloneWrong : ChangeSpec := { name := "fnExactDecodeAlone", fn := fun _ => fun
  | [d1, d2] => { results := [.lit (.bool false)], args := [d1, d2] }
  | _ => none }
def FnExactDecodeAloneWrongFalsely : Prop := fnExactDecodeAloneRow.holds Try.pinned (OpenSpec.ofChange fnExactDecodeAloneWrong)

/-- 'laws.FnNoEcho': WHATEVER THE INPUT: true; the input reads as it did. -/
def fnNoEchoSpec : ChangeSpec := { name := "fnNoEcho", fn := fun _ => fun
  | [d] => { results := [.lit (.bool true)], args := [d] }
  | _ => none }
def fnNoEchoRow : OpenClaim := { program := "ytiddaabodkglmaa", sum := "d7b5cf871268469ed0c6ef62df456b0ab249b57616652a866b51527ff1ab2c43", func := "loop.example/g03326/laws.FnNoEcho", spec := "fnNoEcho", unfollowed := true, recurses := true, apart := false }
def FnNoEchoSaid : Prop := fnNoEchoRow.holds Try.pinned (OpenSpec.ofChange fnNoEchoSpec)

/-- ITS FALSE NEIGHBOUR: 'it returns false'. Refute it at one input. -/
def fnNoEchoWrong : ChangeSpec := { name := "fnNoEcho", fn := fun _ => fun
  | [d] => { results := [.lit (.bool false)], args := [d] }
  | _ => none }
def FnNoEchoWrongFalsely : Prop := fnNoEchoRow.holds Try.pinned (OpenSpec.ofChange fnNoEchoWrong)

/-- 'laws.FnLineParts': WHATEVER THE INPUT: true; the input reads as it did. -/
def fnLinePartsSpec : ChangeSpec := { name := "fnLineParts", fn := fun _ => fun
  | [d] => { results := [.lit (.bool true)], args := [d] }
  | _ => none }
def fnLinePartsRow : OpenClaim := { program := "ytiddaabodkglmaa", sum := "d7b5cf871268469ed0c6ef62df456b0ab249b57616652a866b51527ff1ab2c43", func := "loop.example/g03326/laws.FnLineParts", spec := "fnLineParts", unfollowed := true, recurses := true, apart := false }
def FnLinePartsSaid : Prop := fnLinePartsRow.holds Try.pinned (OpenSpec.ofChange fnLinePartsSpec)

/-- ITS FALSE NEIGHBOUR: 'it returns false'. Refute it at one input. -/
def fnLinePartsWrong : ChangeSpec := { name := "fnLineParts", fn := fun _ => fun
  | [d] => { results := [.lit (.bool false)], args := [d] }
  | _ => none }
def FnLinePartsWrongFalsely : Prop := fnLinePartsRow.holds Try.pinned (OpenSpec.ofChange fnLinePartsWrong)

/-- 'laws.FnAlone': WHATEVER THE INPUT: true; the input reads as it did. -/
def fnAloneSpec : ChangeSpec := { name := "fnAlone", fn := fun _ => fun
  | [d] => { results := [.lit (.bool true)], args := [d] }
  | _ => none }
def fnAloneRow : OpenClaim := { program := "ytiddaabodkglmaa", sum := "d7b5cf871268469ed0c6ef62df456b0ab249b57616652a866b51527ff1ab2c43", func := "loop.example/g03326/laws.FnAlone", spec := "fnAlone", unfollowed := true, recurses := true, apart := false }
def FnAloneSaid : Prop := fnAloneRow.holds Try.pinned (OpenSpec.ofChange fnAloneSpec)

/-- ITS FALSE NEIGHBOUR: 'it returns false'. Refute it at one input. -/
def fnAloneWrong : ChangeSpec := { name := "fnAlone", fn := fun _ => fun
  | [d] => { results := [.lit (.bool false)], args := [d] }
  | _ => none }
def FnAloneWrongFalsely : Prop := fnAloneRow.holds Try.pinned (OpenSpec.ofChange fnAloneWrong)

/-- 'laws.FnExactIsKilled': WHATEVER THE INPUT: true; the input reads as it did. -/
def fnExactIsKilledSpec : ChangeSpec := { name := "fnExactIsKilled", fn := fun _ => fun
  | [d1, d2, d3] => { results := [.lit (.bool true)], args := [d1, d2, d3] }
  | _ => none }
def fnExactIsKilledRow : OpenClaim := { program := "ytiddaabodkglmaa", sum := "d7b5cf871268469ed0c6ef62df456b0ab249b57616652a866b51527ff1ab2c43", func := "loop.example/g03326/laws.FnExactIsKilled", spec := "fnExactIsKilled", unfollowed := true, recurses := true, apart := false }
def FnExactIsKilledSaid : Prop := fnExactIsKilledRow.holds Try.pinned (OpenSpec.ofChange fnExactIsKilledSpec)

/-- ITS FALSE NEIGHBOUR: 'it returns false'. Refute it at one input. -/
def fnExactIsKilledWrong : ChangeSpec := { name := "fnExactIsKilled", fn := fun _ => fun
  | [d1, d2, d3] => { results := [.lit (.bool false)], args := [d1, d2, d3] }
  | _ => none }
def FnExactIsKilledWrongFalsely : Prop := fnExactIsKilledRow.holds Try.pinned (OpenSpec.ofChange fnExactIsKilledWrong)

/-- 'laws.FnBurstsSwing': WHATEVER THE INPUT: true; the input reads as it did. -/
def fnBurstsSwingSpec : ChangeSpec := { name := "fnBurstsSwing", fn := fun _ => fun
  | [d] => { results := [.lit (.bool true)], args := [d] }
  | _ => none }
def fnBurstsSwingRow : OpenClaim := { program := "ytiddaabodkglmaa", sum := "d7b5cf871268469ed0c6ef62df456b0ab249b57616652a866b51527ff1ab2c43", func := "loop.example/g03326/laws.FnBurstsSwing", spec := "fnBurstsSwing", unfollowed := true, recurses := true, apart := false }
def FnBurstsSwingSaid : Prop := fnBurstsSwingRow.holds Try.pinned (OpenSpec.ofChange fnBurstsSwingSpec)

/-- ITS FALSE NEIGHBOUR: 'it returns false'. Refute it at one input. -/
def fnBurstsSwingWrong : ChangeSpec := { name := "fnBurstsSwing", fn := fun _ => fun
  | [d] => { results := [.lit (.bool false)], args := [d] }
  | _ => none }
def FnBurstsSwingWrongFalsely : Prop := fnBurstsSwingRow.holds Try.pinned (OpenSpec.ofChange fnBurstsSwingWrong)

/-- 'laws.FnLevelled': WHATEVER THE INPUT: true; the input reads as it did. -/
def fnLevelledSpec : ChangeSpec := { name := "fnLevelled", fn := fun _ => fun
  | [d] => { results := [.lit (.bool true)], args := [d] }
  | _ => none }
def fnLevelledRow : OpenClaim := { program := "ytiddaabodkglmaa", sum := "d7b5cf871268469ed0c6ef62df456b0ab249b57616652a866b51527ff1ab2c43", func := "loop.example/g03326/laws.FnLevelled", spec := "fnLevelled", unfollowed := true, recurses := true, apart := false }
def FnLevelledSaid : Prop := fnLevelledRow.holds Try.pinned (OpenSpec.ofChange fnLevelledSpec)

/-- ITS FALSE NEIGHBOUR: 'it returns false'. Refute it at one input. -/
def fnLevelledWrong : ChangeSpec := { name := "fnLevelled", fn := fun _ => fun
  | [d] => { results := [.lit (.bool false)], args := [d] }
  | _ => none }
def FnLevelledWrongFalsely : Prop := fnLevelledRow.holds Try.pinned (OpenSpec.ofChange fnLevelledWrong)

/-- 'laws.FnCutJoined': WHATEVER THE INPUT: true; the input reads as it did. -/
def fnCutJoinedSpec : ChangeSpec := { name := "fnCutJoined", fn := fun _ => fun
  | [d] => { results := [.lit (.bool true)], args := [d] }
  | _ => none }
def fnCutJoinedRow : OpenClaim := { program := "ytiddaabodkglmaa", sum := "d7b5cf871268469ed0c6ef62df456b0ab249b57616652a866b51527ff1ab2c43", func := "loop.example/g03326/laws.FnCutJoined", spec := "fnCutJoined", unfollowed := true, recurses := true, apart := false }
def FnCutJoinedSaid : Prop := fnCutJoinedRow.holds Try.pinned (OpenSpec.ofChange fnCutJoinedSpec)

/-- ITS FALSE NEIGHBOUR: 'it returns false'. Refute it at one input. -/
def fnCutJoinedWrong : ChangeSpec := { name := "fnCutJoined", fn := fun _ => fun
  | [d] => { results := [.lit (.bool false)], args := [d] }
  | _ => none }
def FnCutJoinedWrongFalsely : Prop := fnCutJoinedRow.holds Try.pinned (OpenSpec.ofChange fnCutJoinedWrong)

/-- 'laws.FnHueLost': WHATEVER THE INPUT: true; the input reads as it did. -/
def fnHueLostSpec : ChangeSpec := { name := "fnHueLost", fn := fun _ => fun
  | [d] => { results := [.lit (.bool true)], args := [d] }
  | _ => none }
def fnHueLostRow : OpenClaim := { program := "ytiddaabodkglmaa", sum := "d7b5cf871268469ed0c6ef62df456b0ab249b57616652a866b51527ff1ab2c43", func := "loop.example/g03326/laws.FnHueLost", spec := "fnHueLost", unfollowed := true, recurses := true, apart := false }
def FnHueLostSaid : Prop := fnHueLostRow.holds Try.pinned (OpenSpec.ofChange fnHueLostSpec)

/-- ITS FALSE NEIGHBOUR: 'it returns false'. Refute it at one input. -/
def fnHueLostWrong : ChangeSpec := { name := "fnHueLost", fn := fun _ => fun
  | [d] => { results := [.lit (.bool false)], args := [d] }
  | _ => none }
def FnHueLostWrongFalsely : Prop := fnHueLostRow.holds Try.pinned (OpenSpec.ofChange fnHueLostWrong)

/-- 'laws.FnSwingTurned': WHATEVER THE INPUT: true; the input reads as it did. -/
def fnSwingTurnedSpec : ChangeSpec := { name := "fnSwingTurned", fn := fun _ => fun
  | [d] => { results := [.lit (.bool true)], args := [d] }
  | _ => none }
def fnSwingTurnedRow : OpenClaim := { program := "ytiddaabodkglmaa", sum := "d7b5cf871268469ed0c6ef62df456b0ab249b57616652a866b51527ff1ab2c43", func := "loop.example/g03326/laws.FnSwingTurned", spec := "fnSwingTurned", unfollowed := true, recurses := true, apart := false }
def FnSwingTurnedSaid : Prop := fnSwingTurnedRow.holds Try.pinned (OpenSpec.ofChange fnSwingTurnedSpec)

/-- ITS FALSE NEIGHBOUR: 'it returns false'. Refute it at one input. -/
def fnSwingTurnedWrong : ChangeSpec := { name := "fnSwingTurned", fn := fun _ => fun
  | [d] => { results := [.lit (.bool false)], args := [d] }
  | _ => none }
def FnSwingTurnedWrongFalsely : Prop := fnSwingTurnedRow.holds Try.pinned (OpenSpec.ofChange fnSwingTurnedWrong)

/-- 'laws.FnExactDecodePair': WHATEVER THE INPUT: true; the input reads as it did. -/
def fnExactDecodePairSpec : ChangeSpec := { name := "fnExactDecodePair", fn := fun _ => fun
  | [d1, d2] => { results := [.lit (.bool true)], args := [d1, d2] }
  | _ => none }
def fnExactDecodePairRow : OpenClaim := { program := "ytiddaabodkglmaa", sum := "d7b5cf871268469ed0c6ef62df456b0ab249b57616652a866b51527ff1ab2c43", func := "loop.example/g03326/laws.FnExactDecodePair", spec := "fnExactDecodePair", unfollowed := true, recurses := true, apart := false }
def FnExactDecodePairSaid : Prop := fnExactDecodePairRow.holds Try.pinned (OpenSpec.ofChange fnExactDecodePairSpec)

/-- ITS FALSE NEIGHBOUR: 'it returns false'. Refute it at one input. -/
def fnExactDecodePairWrong : ChangeSpec := { name := "fnExactDecodePair", fn := fun _ => fun
  | [d1, d2] => { results := [.lit (.bool false)], args := [d1, d2] }
  | _ => none }
def FnExactDecodePairWrongFalsely : Prop := fnExactDecodePairRow.holds Try.pinned (OpenSpec.ofChange fnExactDecodePairWrong)

/-- 'laws.FnSaturated': WHATEVER THE INPUT: true; the input reads as it did. -/
def fnSaturatedSpec : ChangeSpec := { name := "fnSaturated", fn := fun _ => fun
  | [d] => { results := [.lit (.bool true)], args := [d] }
  | _ => none }
def fnSaturatedRow : OpenClaim := { program := "ytiddaabodkglmaa", sum := "d7b5cf871268469ed0c6ef62df456b0ab249b57616652a866b51527ff1ab2c43", func := "loop.example/g03326/laws.FnSaturated", spec := "fnSaturated", unfollowed := true, recurses := true, apart := false }
def FnSaturatedSaid : Prop := fnSaturatedRow.holds Try.pinned (OpenSpec.ofChange fnSaturatedSpec)

/-- ITS FALSE NEIGHBOUR: 'it returns false'. Refute it at one input. -/
def fnSaturatedWrong : ChangeSpec := { name := "fnSaturated", fn := fun _ => fun
  | [d] => { results := [.lit (.bool false)], args := [d] }
  | _ => none }
def FnSaturatedWrongFalsely : Prop := fnSaturatedRow.holds Try.pinned (OpenSpec.ofChange fnSaturatedWrong)

/-- 'laws.FnExactTakePair': WHATEVER THE INPUT: true; the input reads as it did. -/
def fnExactTakePairSpec : ChangeSpec := { name := "fnExactTakePair", fn := fun _ => fun
  | [d1, d2, d3, d4] => { results := [.lit (.bool true)], args := [d1, d2, d3, d4] }
  | _ => none }
def fnExactTakePairRow : OpenClaim := { program := "ytiddaabodkglmaa", sum := "d7b5cf871268469ed0c6ef62df456b0ab249b57616652a866b51527ff1ab2c43", func := "loop.example/g03326/laws.FnExactTakePair", spec := "fnExactTakePair", unfollowed := true, recurses := true, apart := false }
def FnExactTakePairSaid : Prop := fnExactTakePairRow.holds Try.pinned (OpenSpec.ofChange fnExactTakePairSpec)

/-- ITS FALSE NEIGHBOUR: 'it returns false'. Refute it at one input. -/
def fnExactTakePairWrong : ChangeSpec := { name := "fnExactTakePair", fn := fun _ => fun
  | [d1, d2, d3, d4] => { results := [.lit (.bool false)], args := [d1, d2, d3, d4] }
  | _ => none }
def FnExactTakePairWrongFalsely : Prop := fnExactTakePairRow.holds Try.pinned (OpenSpec.ofChange fnExactTakePairWrong)

/-- 'laws.FnKilled': WHATEVER THE INPUT: true; the input reads as it did. -/
def fnKilledSpec : ChangeSpec := { name := "fnKilled", fn := fun _ => fun
  | [d] => { results := [.lit (.bool true)], args := [d] }
  | _ => none }
def fnKilledRow : OpenClaim := { program := "ytiddaabodkglmaa", sum := "d7b5cf871268469ed0c6ef62df456b0ab249b57616652a866b51527ff1ab2c43", func := "loop.example/g03326/laws.FnKilled", spec := "fnKilled", unfollowed := true, recurses := true, apart := false }
def FnKilledSaid : Prop := fnKilledRow.holds Try.pinned (OpenSpec.ofChange fnKilledSpec)

/-- ITS FALSE NEIGHBOUR: 'it returns false'. Refute it at one input. -/
def fnKilledWrong : ChangeSpec := { name := "fnKilled", fn := fun _ => fun
  | [d] => { results := [.lit (.bool false)], args := [d] }
  | _ => none }
def FnKilledWrongFalsely : Prop := fnKilledRow.holds Try.pinned (OpenSpec.ofChange fnKilledWrong)

/- THE SECOND FORM. 'bulk': how many values and letters a reading holds, each counted each time it is reached (what is shared counts as often as it is met; a slice's spare places count too). A statement '..UptoSaid' is the law's where the arguments, and the package variables that the reading takes, are together of bulk at most 1048576: NARROWER than '..Said'. Prove '..Said' where nothing that the law and all that it calls make is longer than what came in: it says more and counts as full. Else prove '..UptoSaid'. A law counts once. -/
mutual
def uptoBulk {H : Type} : DataW H → Nat
  | .lit (.string bytes) => bytes.length + 1
  | .lit _ => 1
  | .nil => 1
  | .ptr d => uptoBulk d + 1
  | .slice elems spare => uptoBulkAll elems + uptoBulkAll spare + 1
  | .agg parts => uptoBulkAll parts + 1
  | .iface _ d => uptoBulk d + 1
  | .map entries => uptoBulkEntries entries + 1
  | .held _ => 1
def uptoBulkAll {H : Type} : List (DataW H) → Nat
  | [] => 0
  | d :: r => uptoBulk d + uptoBulkAll r
def uptoBulkEntries {H : Type} : List (Lit × DataW H) → Nat
  | [] => 0
  | x :: r => uptoBulkEntry x + uptoBulkEntries r
def uptoBulkEntry {H : Type} : Lit × DataW H → Nat
  | (.string bytes, d) => bytes.length + uptoBulk d + 1
  | (_, d) => uptoBulk d + 1
 end
def uptoSmall : (H : Type) → List (DataW H) → Bool := fun _ ds => decide (uptoBulkAll ds ≤ 1048576)
def OpenSpec.upto (s : _root_.Go.ChangeSpec) : _root_.Go.OpenSpec := { _root_.Go.OpenSpec.ofChange s with cond := some uptoSmall }

/-- 'laws.FnExactSamplesOk', WHERE WHAT IT READS IS OF BULK AT MOST 1048576: true; the input reads as it did. -/
def fnExactSamplesOkUptoRow : OpenClaim := { program := "ytiddaabodkglmaa", sum := "d7b5cf871268469ed0c6ef62df456b0ab249b57616652a866b51527ff1ab2c43", func := "loop.example/g03326/laws.FnExactSamplesOk", spec := "fnExactSamplesOk", unfollowed := true, recurses := true, apart := false, narrowed := true }
def FnExactSamplesOkUptoSaid : Prop := fnExactSamplesOkUptoRow.holds Try.pinned (OpenSpec.upto fnExactSamplesOkSpec)

/-- 'laws.FnTop', WHERE WHAT IT READS IS OF BULK AT MOST 1048576: true; the input reads as it did. -/
def fnTopUptoRow : OpenClaim := { program := "ytiddaabodkglmaa", sum := "d7b5cf871268469ed0c6ef62df456b0ab249b57616652a866b51527ff1ab2c43", func := "loop.example/g03326/laws.FnTop", spec := "fnTop", unfollowed := true, recurses := true, apart := false, narrowed := true }
def FnTopUptoSaid : Prop := fnTopUptoRow.holds Try.pinned (OpenSpec.upto fnTopSpec)

/-- 'laws.FnExactErase', WHERE WHAT IT READS IS OF BULK AT MOST 1048576: true; the input reads as it did. -/
def fnExactEraseUptoRow : OpenClaim := { program := "ytiddaabodkglmaa", sum := "d7b5cf871268469ed0c6ef62df456b0ab249b57616652a866b51527ff1ab2c43", func := "loop.example/g03326/laws.FnExactErase", spec := "fnExactErase", apart := false, narrowed := true }
def FnExactEraseUptoSaid : Prop := fnExactEraseUptoRow.holds Try.pinned (OpenSpec.upto fnExactEraseSpec)

/-- 'laws.FnPowers', WHERE WHAT IT READS IS OF BULK AT MOST 1048576: true; the input reads as it did. -/
def fnPowersUptoRow : OpenClaim := { program := "ytiddaabodkglmaa", sum := "d7b5cf871268469ed0c6ef62df456b0ab249b57616652a866b51527ff1ab2c43", func := "loop.example/g03326/laws.FnPowers", spec := "fnPowers", apart := false, narrowed := true }
def FnPowersUptoSaid : Prop := fnPowersUptoRow.holds Try.pinned (OpenSpec.upto fnPowersSpec)

/-- 'laws.FnExactSetOk', WHERE WHAT IT READS IS OF BULK AT MOST 1048576: true; the input reads as it did. -/
def fnExactSetOkUptoRow : OpenClaim := { program := "ytiddaabodkglmaa", sum := "d7b5cf871268469ed0c6ef62df456b0ab249b57616652a866b51527ff1ab2c43", func := "loop.example/g03326/laws.FnExactSetOk", spec := "fnExactSetOk", apart := false, narrowed := true }
def FnExactSetOkUptoSaid : Prop := fnExactSetOkUptoRow.holds Try.pinned (OpenSpec.upto fnExactSetOkSpec)

/-- 'laws.FnExactNewSet', WHERE WHAT IT READS IS OF BULK AT MOST 1048576: true; the input reads as it did. -/
def fnExactNewSetUptoRow : OpenClaim := { program := "ytiddaabodkglmaa", sum := "d7b5cf871268469ed0c6ef62df456b0ab249b57616652a866b51527ff1ab2c43", func := "loop.example/g03326/laws.FnExactNewSet", spec := "fnExactNewSet", apart := false, narrowed := true }
def FnExactNewSetUptoSaid : Prop := fnExactNewSetUptoRow.holds Try.pinned (OpenSpec.upto fnExactNewSetSpec)

/-- 'laws.FnExactLows', WHERE WHAT IT READS IS OF BULK AT MOST 1048576: true; the input reads as it did. -/
def fnExactLowsUptoRow : OpenClaim := { program := "ytiddaabodkglmaa", sum := "d7b5cf871268469ed0c6ef62df456b0ab249b57616652a866b51527ff1ab2c43", func := "loop.example/g03326/laws.FnExactLows", spec := "fnExactLows", apart := false, narrowed := true }
def FnExactLowsUptoSaid : Prop := fnExactLowsUptoRow.holds Try.pinned (OpenSpec.upto fnExactLowsSpec)

/-- 'laws.FnExactLevels', WHERE WHAT IT READS IS OF BULK AT MOST 1048576: true; the input reads as it did. -/
def fnExactLevelsUptoRow : OpenClaim := { program := "ytiddaabodkglmaa", sum := "d7b5cf871268469ed0c6ef62df456b0ab249b57616652a866b51527ff1ab2c43", func := "loop.example/g03326/laws.FnExactLevels", spec := "fnExactLevels", unfollowed := true, recurses := true, apart := false, narrowed := true }
def FnExactLevelsUptoSaid : Prop := fnExactLevelsUptoRow.holds Try.pinned (OpenSpec.upto fnExactLevelsSpec)

/-- 'laws.FnExactCutLines', WHERE WHAT IT READS IS OF BULK AT MOST 1048576: true; the input reads as it did. -/
def fnExactCutLinesUptoRow : OpenClaim := { program := "ytiddaabodkglmaa", sum := "d7b5cf871268469ed0c6ef62df456b0ab249b57616652a866b51527ff1ab2c43", func := "loop.example/g03326/laws.FnExactCutLines", spec := "fnExactCutLines", apart := false, narrowed := true }
def FnExactCutLinesUptoSaid : Prop := fnExactCutLinesUptoRow.holds Try.pinned (OpenSpec.upto fnExactCutLinesSpec)

/-- 'laws.FnExactEcho', WHERE WHAT IT READS IS OF BULK AT MOST 1048576: true; the input reads as it did. -/
def fnExactEchoUptoRow : OpenClaim := { program := "ytiddaabodkglmaa", sum := "d7b5cf871268469ed0c6ef62df456b0ab249b57616652a866b51527ff1ab2c43", func := "loop.example/g03326/laws.FnExactEcho", spec := "fnExactEcho", unfollowed := true, recurses := true, apart := false, narrowed := true }
def FnExactEchoUptoSaid : Prop := fnExactEchoUptoRow.holds Try.pinned (OpenSpec.upto fnExactEchoSpec)

/-- 'laws.FnHueTurnSides', WHERE WHAT IT READS IS OF BULK AT MOST 1048576: true; the input reads as it did. -/
def fnHueTurnSidesUptoRow : OpenClaim := { program := "ytiddaabodkglmaa", sum := "d7b5cf871268469ed0c6ef62df456b0ab249b57616652a866b51527ff1ab2c43", func := "loop.example/g03326/laws.FnHueTurnSides", spec := "fnHueTurnSides", unfollowed := true, recurses := true, apart := false, narrowed := true }
def FnHueTurnSidesUptoSaid : Prop := fnHueTurnSidesUptoRow.holds Try.pinned (OpenSpec.upto fnHueTurnSidesSpec)

/-- 'laws.FnTimes', WHERE WHAT IT READS IS OF BULK AT MOST 1048576: true; the input reads as it did. -/
def fnTimesUptoRow : OpenClaim := { program := "ytiddaabodkglmaa", sum := "d7b5cf871268469ed0c6ef62df456b0ab249b57616652a866b51527ff1ab2c43", func := "loop.example/g03326/laws.FnTimes", spec := "fnTimes", apart := false, narrowed := true }
def FnTimesUptoSaid : Prop := fnTimesUptoRow.holds Try.pinned (OpenSpec.upto fnTimesSpec)

/-- 'laws.FnPlainChannel', WHERE WHAT IT READS IS OF BULK AT MOST 1048576: true; the input reads as it did. -/
def fnPlainChannelUptoRow : OpenClaim := { program := "ytiddaabodkglmaa", sum := "d7b5cf871268469ed0c6ef62df456b0ab249b57616652a866b51527ff1ab2c43", func := "loop.example/g03326/laws.FnPlainChannel", spec := "fnPlainChannel", unfollowed := true, recurses := true, apart := false, narrowed := true }
def FnPlainChannelUptoSaid : Prop := fnPlainChannelUptoRow.holds Try.pinned (OpenSpec.upto fnPlainChannelSpec)

/-- 'laws.FnExactStarts', WHERE WHAT IT READS IS OF BULK AT MOST 1048576: true; the input reads as it did. -/
def fnExactStartsUptoRow : OpenClaim := { program := "ytiddaabodkglmaa", sum := "d7b5cf871268469ed0c6ef62df456b0ab249b57616652a866b51527ff1ab2c43", func := "loop.example/g03326/laws.FnExactStarts", spec := "fnExactStarts", unfollowed := true, recurses := true, apart := false, narrowed := true }
def FnExactStartsUptoSaid : Prop := fnExactStartsUptoRow.holds Try.pinned (OpenSpec.upto fnExactStartsSpec)

/-- 'laws.FnChained', WHERE WHAT IT READS IS OF BULK AT MOST 1048576: true; the input reads as it did. -/
def fnChainedUptoRow : OpenClaim := { program := "ytiddaabodkglmaa", sum := "d7b5cf871268469ed0c6ef62df456b0ab249b57616652a866b51527ff1ab2c43", func := "loop.example/g03326/laws.FnChained", spec := "fnChained", unfollowed := true, recurses := true, apart := false, narrowed := true }
def FnChainedUptoSaid : Prop := fnChainedUptoRow.holds Try.pinned (OpenSpec.upto fnChainedSpec)

/-- 'laws.FnExactToLevel', WHERE WHAT IT READS IS OF BULK AT MOST 1048576: true; the input reads as it did. -/
def fnExactToLevelUptoRow : OpenClaim := { program := "ytiddaabodkglmaa", sum := "d7b5cf871268469ed0c6ef62df456b0ab249b57616652a866b51527ff1ab2c43", func := "loop.example/g03326/laws.FnExactToLevel", spec := "fnExactToLevel", unfollowed := true, recurses := true, apart := false, narrowed := true }
def FnExactToLevelUptoSaid : Prop := fnExactToLevelUptoRow.holds Try.pinned (OpenSpec.upto fnExactToLevelSpec)

/-- 'laws.FnLows', WHERE WHAT IT READS IS OF BULK AT MOST 1048576: true; the input reads as it did. -/
def fnLowsUptoRow : OpenClaim := { program := "ytiddaabodkglmaa", sum := "d7b5cf871268469ed0c6ef62df456b0ab249b57616652a866b51527ff1ab2c43", func := "loop.example/g03326/laws.FnLows", spec := "fnLows", apart := false, narrowed := true }
def FnLowsUptoSaid : Prop := fnLowsUptoRow.holds Try.pinned (OpenSpec.upto fnLowsSpec)

/-- 'laws.FnErased', WHERE WHAT IT READS IS OF BULK AT MOST 1048576: true; the input reads as it did. -/
def fnErasedUptoRow : OpenClaim := { program := "ytiddaabodkglmaa", sum := "d7b5cf871268469ed0c6ef62df456b0ab249b57616652a866b51527ff1ab2c43", func := "loop.example/g03326/laws.FnErased", spec := "fnErased", apart := false, narrowed := true }
def FnErasedUptoSaid : Prop := fnErasedUptoRow.holds Try.pinned (OpenSpec.upto fnErasedSpec)

/-- 'laws.FnExactDecodeAlone', WHERE WHAT IT READS IS OF BULK AT MOST 1048576: true; the input reads as it did. -/
def fnExactDecodeAloneUptoRow : OpenClaim := { program := "ytiddaabodkglmaa", sum := "d7b5cf871268469ed0c6ef62df456b0ab249b57616652a866b51527ff1ab2c43", func := "loop.example/g03326/laws.FnExactDecodeAlone", spec := "fnExactDecodeAlone", unfollowed := true, recurses := true, apart := false, narrowed := true }
def FnExactDecodeAloneUptoSaid : Prop := fnExactDecodeAloneUptoRow.holds Try.pinned (OpenSpec.upto fnExactDecodeAloneSpec)

/-- 'laws.FnNoEcho', WHERE WHAT IT READS IS OF BULK AT MOST 1048576: true; the input reads as it did. -/
def fnNoEchoUptoRow : OpenClaim := { program := "ytiddaabodkglmaa", sum := "d7b5cf871268469ed0c6ef62df456b0ab249b57616652a866b51527ff1ab2c43", func := "loop.example/g03326/laws.FnNoEcho", spec := "fnNoEcho", unfollowed := true, recurses := true, apart := false, narrowed := true }
def FnNoEchoUptoSaid : Prop := fnNoEchoUptoRow.holds Try.pinned (OpenSpec.upto fnNoEchoSpec)

/-- 'laws.FnLineParts', WHERE WHAT IT READS IS OF BULK AT MOST 1048576: true; the input reads as it did. -/
def fnLinePartsUptoRow : OpenClaim := { program := "ytiddaabodkglmaa", sum := "d7b5cf871268469ed0c6ef62df456b0ab249b57616652a866b51527ff1ab2c43", func := "loop.example/g03326/laws.FnLineParts", spec := "fnLineParts", unfollowed := true, recurses := true, apart := false, narrowed := true }
def FnLinePartsUptoSaid : Prop := fnLinePartsUptoRow.holds Try.pinned (OpenSpec.upto fnLinePartsSpec)

/-- 'laws.FnAlone', WHERE WHAT IT READS IS OF BULK AT MOST 1048576: true; the input reads as it did. -/
def fnAloneUptoRow : OpenClaim := { program := "ytiddaabodkglmaa", sum := "d7b5cf871268469ed0c6ef62df456b0ab249b57616652a866b51527ff1ab2c43", func := "loop.example/g03326/laws.FnAlone", spec := "fnAlone", unfollowed := true, recurses := true, apart := false, narrowed := true }
def FnAloneUptoSaid : Prop := fnAloneUptoRow.holds Try.pinned (OpenSpec.upto fnAloneSpec)

/-- 'laws.FnExactIsKilled', WHERE WHAT IT READS IS OF BULK AT MOST 1048576: true; the input reads as it did. -/
def fnExactIsKilledUptoRow : OpenClaim := { program := "ytiddaabodkglmaa", sum := "d7b5cf871268469ed0c6ef62df456b0ab249b57616652a866b51527ff1ab2c43", func := "loop.example/g03326/laws.FnExactIsKilled", spec := "fnExactIsKilled", unfollowed := true, recurses := true, apart := false, narrowed := true }
def FnExactIsKilledUptoSaid : Prop := fnExactIsKilledUptoRow.holds Try.pinned (OpenSpec.upto fnExactIsKilledSpec)

/-- 'laws.FnBurstsSwing', WHERE WHAT IT READS IS OF BULK AT MOST 1048576: true; the input reads as it did. -/
def fnBurstsSwingUptoRow : OpenClaim := { program := "ytiddaabodkglmaa", sum := "d7b5cf871268469ed0c6ef62df456b0ab249b57616652a866b51527ff1ab2c43", func := "loop.example/g03326/laws.FnBurstsSwing", spec := "fnBurstsSwing", unfollowed := true, recurses := true, apart := false, narrowed := true }
def FnBurstsSwingUptoSaid : Prop := fnBurstsSwingUptoRow.holds Try.pinned (OpenSpec.upto fnBurstsSwingSpec)

/-- 'laws.FnLevelled', WHERE WHAT IT READS IS OF BULK AT MOST 1048576: true; the input reads as it did. -/
def fnLevelledUptoRow : OpenClaim := { program := "ytiddaabodkglmaa", sum := "d7b5cf871268469ed0c6ef62df456b0ab249b57616652a866b51527ff1ab2c43", func := "loop.example/g03326/laws.FnLevelled", spec := "fnLevelled", unfollowed := true, recurses := true, apart := false, narrowed := true }
def FnLevelledUptoSaid : Prop := fnLevelledUptoRow.holds Try.pinned (OpenSpec.upto fnLevelledSpec)

/-- 'laws.FnCutJoined', WHERE WHAT IT READS IS OF BULK AT MOST 1048576: true; the input reads as it did. -/
def fnCutJoinedUptoRow : OpenClaim := { program := "ytiddaabodkglmaa", sum := "d7b5cf871268469ed0c6ef62df456b0ab249b57616652a866b51527ff1ab2c43", func := "loop.example/g03326/laws.FnCutJoined", spec := "fnCutJoined", unfollowed := true, recurses := true, apart := false, narrowed := true }
def FnCutJoinedUptoSaid : Prop := fnCutJoinedUptoRow.holds Try.pinned (OpenSpec.upto fnCutJoinedSpec)

/-- 'laws.FnHueLost', WHERE WHAT IT READS IS OF BULK AT MOST 1048576: true; the input reads as it did. -/
def fnHueLostUptoRow : OpenClaim := { program := "ytiddaabodkglmaa", sum := "d7b5cf871268469ed0c6ef62df456b0ab249b57616652a866b51527ff1ab2c43", func := "loop.example/g03326/laws.FnHueLost", spec := "fnHueLost", unfollowed := true, recurses := true, apart := false, narrowed := true }
def FnHueLostUptoSaid : Prop := fnHueLostUptoRow.holds Try.pinned (OpenSpec.upto fnHueLostSpec)

/-- 'laws.FnSwingTurned', WHERE WHAT IT READS IS OF BULK AT MOST 1048576: true; the input reads as it did. -/
def fnSwingTurnedUptoRow : OpenClaim := { program := "ytiddaabodkglmaa", sum := "d7b5cf871268469ed0c6ef62df456b0ab249b57616652a866b51527ff1ab2c43", func := "loop.example/g03326/laws.FnSwingTurned", spec := "fnSwingTurned", unfollowed := true, recurses := true, apart := false, narrowed := true }
def FnSwingTurnedUptoSaid : Prop := fnSwingTurnedUptoRow.holds Try.pinned (OpenSpec.upto fnSwingTurnedSpec)

/-- 'laws.FnExactDecodePair', WHERE WHAT IT READS IS OF BULK AT MOST 1048576: true; the input reads as it did. -/
def fnExactDecodePairUptoRow : OpenClaim := { program := "ytiddaabodkglmaa", sum := "d7b5cf871268469ed0c6ef62df456b0ab249b57616652a866b51527ff1ab2c43", func := "loop.example/g03326/laws.FnExactDecodePair", spec := "fnExactDecodePair", unfollowed := true, recurses := true, apart := false, narrowed := true }
def FnExactDecodePairUptoSaid : Prop := fnExactDecodePairUptoRow.holds Try.pinned (OpenSpec.upto fnExactDecodePairSpec)

/-- 'laws.FnSaturated', WHERE WHAT IT READS IS OF BULK AT MOST 1048576: true; the input reads as it did. -/
def fnSaturatedUptoRow : OpenClaim := { program := "ytiddaabodkglmaa", sum := "d7b5cf871268469ed0c6ef62df456b0ab249b57616652a866b51527ff1ab2c43", func := "loop.example/g03326/laws.FnSaturated", spec := "fnSaturated", unfollowed := true, recurses := true, apart := false, narrowed := true }
def FnSaturatedUptoSaid : Prop := fnSaturatedUptoRow.holds Try.pinned (OpenSpec.upto fnSaturatedSpec)

/-- 'laws.FnExactTakePair', WHERE WHAT IT READS IS OF BULK AT MOST 1048576: true; the input reads as it did. -/
def fnExactTakePairUptoRow : OpenClaim := { program := "ytiddaabodkglmaa", sum := "d7b5cf871268469ed0c6ef62df456b0ab249b57616652a866b51527ff1ab2c43", func := "loop.example/g03326/laws.FnExactTakePair", spec := "fnExactTakePair", unfollowed := true, recurses := true, apart := false, narrowed := true }
def FnExactTakePairUptoSaid : Prop := fnExactTakePairUptoRow.holds Try.pinned (OpenSpec.upto fnExactTakePairSpec)

/-- 'laws.FnKilled', WHERE WHAT IT READS IS OF BULK AT MOST 1048576: true; the input reads as it did. -/
def fnKilledUptoRow : OpenClaim := { program := "ytiddaabodkglmaa", sum := "d7b5cf871268469ed0c6ef62df456b0ab249b57616652a866b51527ff1ab2c43", func := "loop.example/g03326/laws.FnKilled", spec := "fnKilled", unfollowed := true, recurses := true, apart := false, narrowed := true }
def FnKilledUptoSaid : Prop := fnKilledUptoRow.holds Try.pinned (OpenSpec.upto fnKilledSpec)

end Rows
end Go.Proofs.Ytiddaabodkglmaa
