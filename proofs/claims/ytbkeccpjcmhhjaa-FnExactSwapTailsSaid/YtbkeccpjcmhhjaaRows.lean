/-
  No cell of these rows narrows 'for every input' (looked for: loops, veiled, ifaces, maps, wideKeys, modest, calm, conditions, laid).
  DERIVED. THE GIVEN ROWS OF THIS SEAT. 15 by the template 'for every input the law returns true; each argument reads behind the call as it read before'; 0 by the template 'total and deterministic' (their statements: YtbkeccpjcmhhjaaTotals.lean).
  GIVEN WITH THE SEED: the statements are not yours to turn. If you find one false, say at which input.
  Laid BY PROGRAM, IN A SANDBOX (cutbox-rows.mjs): the forced cells as the released guide's own fill.sh prints them over the translation 550ce20858cec5d7… (all of the seat's roots in one cut). By AI agents, Wed Nov 11 2026. No macro, syntax, notation, axiom, sorry.
-/
import Derived.Test.YtbkeccpjcmhhjaaChecked
import GoSem.Claim
import GoSem.ClaimJoined
import GoSem.ClaimMapViews
import Derived.JoinedTies
import Derived.KernelRfl
namespace Go.Proofs.Ytbkeccpjcmhhjaa
/- THE CELL 'sum', in the pinned program and in every row, IS THE sha256 OF THE DUMP (.gsa) THAT YtbkeccpjcmhhjaaProg.lean LOADS. Nothing in Lean hashes anything: it is a label: what it is worth is what the hold of that sum in a sandbox is worth. -/
noncomputable def Try.pinned : Pinned := { name := "ytbkeccpjcmhhjaa", sum := "550ce20858cec5d74ac89d6a6194bff9a2f2c380ed27c5ff0065c0397b552c16", checked := Try.checked }
namespace Rows
def none {H : Type} : Left H := { results := [], args := [] }

/-- 'laws.FnExactTurnRoster': WHATEVER THE INPUT: true; the input reads as it did. -/
def fnExactTurnRosterSpec : ChangeSpec := { name := "fnExactTurnRoster", fn := fun _ => fun
  | [d1, d2] => { results := [.lit (.bool true)], args := [d1, d2] }
  | _ => none }
def fnExactTurnRosterRow : OpenClaim := { program := "ytbkeccpjcmhhjaa", sum := "550ce20858cec5d74ac89d6a6194bff9a2f2c380ed27c5ff0065c0397b552c16", func := "loop.example/g00900/laws.FnExactTurnRoster", spec := "fnExactTurnRoster", plainKeys := false, apart := false }
def FnExactTurnRosterSaid : Prop := fnExactTurnRosterRow.holds Try.pinned (OpenSpec.ofChange fnExactTurnRosterSpec)

/-- ITS FALSE NEIGHBOUR: 'it returns false'. Refute it at one input. -/
def fnExactTurnRosterWrong : ChangeSpec := { name := "fnExactTurnRoster", fn := fun _ => fun
  | [d1, d2] => { results := [.lit (.bool false)], args := [d1, d2] }
  | _ => none }
def FnExactTurnRosterWrongFalsely : Prop := fnExactTurnRosterRow.holds Try.pinned (OpenSpec.ofChange fnExactTurnRosterWrong)

/-- 'laws.FnExactTransferWait': WHATEVER THE INPUT: true; the input reads as it did. -/
def fnExactTransferWaitSpec : ChangeSpec := { name := "fnExactTransferWait", fn := fun _ => fun
  | [d1, d2, d3, d4, d5, d6, d7] => { results := [.lit (.bool true)], args := [d1, d2, d3, d4, d5, d6, d7] }
  | _ => none }
def fnExactTransferWaitRow : OpenClaim := { program := "ytbkeccpjcmhhjaa", sum := "550ce20858cec5d74ac89d6a6194bff9a2f2c380ed27c5ff0065c0397b552c16", func := "loop.example/g00900/laws.FnExactTransferWait", spec := "fnExactTransferWait", plainKeys := false, apart := false }
def FnExactTransferWaitSaid : Prop := fnExactTransferWaitRow.holds Try.pinned (OpenSpec.ofChange fnExactTransferWaitSpec)

/-- ITS FALSE NEIGHBOUR: 'it returns false'. Refute it at one input. -/
def fnExactTransferWaitWrong : ChangeSpec := { name := "fnExactTransferWait", fn := fun _ => fun
  | [d1, d2, d3, d4, d5, d6, d7] => { results := [.lit (.bool false)], args := [d1, d2, d3, d4, d5, d6, d7] }
  | _ => none }
def FnExactTransferWaitWrongFalsely : Prop := fnExactTransferWaitRow.holds Try.pinned (OpenSpec.ofChange fnExactTransferWaitWrong)

/-- 'laws.FnExactChangeTime': WHATEVER THE INPUT: true; the input reads as it did. -/
def fnExactChangeTimeSpec : ChangeSpec := { name := "fnExactChangeTime", fn := fun _ => fun
  | [d1, d2, d3, d4] => { results := [.lit (.bool true)], args := [d1, d2, d3, d4] }
  | _ => none }
def fnExactChangeTimeRow : OpenClaim := { program := "ytbkeccpjcmhhjaa", sum := "550ce20858cec5d74ac89d6a6194bff9a2f2c380ed27c5ff0065c0397b552c16", func := "loop.example/g00900/laws.FnExactChangeTime", spec := "fnExactChangeTime", unfollowed := true, recurses := true, plainKeys := false, apart := false }
def FnExactChangeTimeSaid : Prop := fnExactChangeTimeRow.holds Try.pinned (OpenSpec.ofChange fnExactChangeTimeSpec)

/-- ITS FALSE NEIGHBOUR: 'it returns false'. Refute it at one input. -/
def fnExactChangeTimeWrong : ChangeSpec := { name := "fnExactChangeTime", fn := fun _ => fun
  | [d1, d2, d3, d4] => { results := [.lit (.bool false)], args := [d1, d2, d3, d4] }
  | _ => none }
def FnExactChangeTimeWrongFalsely : Prop := fnExactChangeTimeRow.holds Try.pinned (OpenSpec.ofChange fnExactChangeTimeWrong)

/-- 'laws.FnExactEarliestJourney': WHATEVER THE INPUT: true; the input reads as it did. -/
def fnExactEarliestJourneySpec : ChangeSpec := { name := "fnExactEarliestJourney", fn := fun _ => fun
  | [d1, d2, d3, d4, d5] => { results := [.lit (.bool true)], args := [d1, d2, d3, d4, d5] }
  | _ => none }
def fnExactEarliestJourneyRow : OpenClaim := { program := "ytbkeccpjcmhhjaa", sum := "550ce20858cec5d74ac89d6a6194bff9a2f2c380ed27c5ff0065c0397b552c16", func := "loop.example/g00900/laws.FnExactEarliestJourney", spec := "fnExactEarliestJourney", recurses := true, plainKeys := false, apart := false }
def FnExactEarliestJourneySaid : Prop := fnExactEarliestJourneyRow.holds Try.pinned (OpenSpec.ofChange fnExactEarliestJourneySpec)

/-- ITS FALSE NEIGHBOUR: 'it returns false'. Refute it at one input. -/
def fnExactEarliestJourneyWrong : ChangeSpec := { name := "fnExactEarliestJourney", fn := fun _ => fun
  | [d1, d2, d3, d4, d5] => { results := [.lit (.bool false)], args := [d1, d2, d3, d4, d5] }
  | _ => none }
def FnExactEarliestJourneyWrongFalsely : Prop := fnExactEarliestJourneyRow.holds Try.pinned (OpenSpec.ofChange fnExactEarliestJourneyWrong)

/-- 'laws.FnExactSwapTails': WHATEVER THE INPUT: true; the input reads as it did. -/
def fnExactSwapTailsSpec : ChangeSpec := { name := "fnExactSwapTails", fn := fun _ => fun
  | [d1, d2, d3, d4, d5] => { results := [.lit (.bool true)], args := [d1, d2, d3, d4, d5] }
  | _ => none }
def fnExactSwapTailsRow : OpenClaim := { program := "ytbkeccpjcmhhjaa", sum := "550ce20858cec5d74ac89d6a6194bff9a2f2c380ed27c5ff0065c0397b552c16", func := "loop.example/g00900/laws.FnExactSwapTails", spec := "fnExactSwapTails", unfollowed := true, recurses := true, plainKeys := false, apart := false }
def FnExactSwapTailsSaid : Prop := fnExactSwapTailsRow.holds Try.pinned (OpenSpec.ofChange fnExactSwapTailsSpec)

/-- ITS FALSE NEIGHBOUR: 'it returns false'. Refute it at one input. -/
def fnExactSwapTailsWrong : ChangeSpec := { name := "fnExactSwapTails", fn := fun _ => fun
  | [d1, d2, d3, d4, d5] => { results := [.lit (.bool false)], args := [d1, d2, d3, d4, d5] }
  | _ => none }
def FnExactSwapTailsWrongFalsely : Prop := fnExactSwapTailsRow.holds Try.pinned (OpenSpec.ofChange fnExactSwapTailsWrong)

/-- 'laws.FnExactParetoJourneys': WHATEVER THE INPUT: true; the input reads as it did. -/
def fnExactParetoJourneysSpec : ChangeSpec := { name := "fnExactParetoJourneys", fn := fun _ => fun
  | [d1, d2, d3, d4, d5] => { results := [.lit (.bool true)], args := [d1, d2, d3, d4, d5] }
  | _ => none }
def fnExactParetoJourneysRow : OpenClaim := { program := "ytbkeccpjcmhhjaa", sum := "550ce20858cec5d74ac89d6a6194bff9a2f2c380ed27c5ff0065c0397b552c16", func := "loop.example/g00900/laws.FnExactParetoJourneys", spec := "fnExactParetoJourneys", recurses := true, plainKeys := false, apart := false }
def FnExactParetoJourneysSaid : Prop := fnExactParetoJourneysRow.holds Try.pinned (OpenSpec.ofChange fnExactParetoJourneysSpec)

/-- ITS FALSE NEIGHBOUR: 'it returns false'. Refute it at one input. -/
def fnExactParetoJourneysWrong : ChangeSpec := { name := "fnExactParetoJourneys", fn := fun _ => fun
  | [d1, d2, d3, d4, d5] => { results := [.lit (.bool false)], args := [d1, d2, d3, d4, d5] }
  | _ => none }
def FnExactParetoJourneysWrongFalsely : Prop := fnExactParetoJourneysRow.holds Try.pinned (OpenSpec.ofChange fnExactParetoJourneysWrong)

/-- 'laws.FnExactMakeBlocks': WHATEVER THE INPUT: true; the input reads as it did. -/
def fnExactMakeBlocksSpec : ChangeSpec := { name := "fnExactMakeBlocks", fn := fun _ => fun
  | [d1, d2] => { results := [.lit (.bool true)], args := [d1, d2] }
  | _ => none }
def fnExactMakeBlocksRow : OpenClaim := { program := "ytbkeccpjcmhhjaa", sum := "550ce20858cec5d74ac89d6a6194bff9a2f2c380ed27c5ff0065c0397b552c16", func := "loop.example/g00900/laws.FnExactMakeBlocks", spec := "fnExactMakeBlocks", recurses := true, plainKeys := false, apart := false }
def FnExactMakeBlocksSaid : Prop := fnExactMakeBlocksRow.holds Try.pinned (OpenSpec.ofChange fnExactMakeBlocksSpec)

/-- ITS FALSE NEIGHBOUR: 'it returns false'. Refute it at one input. -/
def fnExactMakeBlocksWrong : ChangeSpec := { name := "fnExactMakeBlocks", fn := fun _ => fun
  | [d1, d2] => { results := [.lit (.bool false)], args := [d1, d2] }
  | _ => none }
def FnExactMakeBlocksWrongFalsely : Prop := fnExactMakeBlocksRow.holds Try.pinned (OpenSpec.ofChange fnExactMakeBlocksWrong)

/-- 'laws.FnExactDoubleWait': WHATEVER THE INPUT: true; the input reads as it did. -/
def fnExactDoubleWaitSpec : ChangeSpec := { name := "fnExactDoubleWait", fn := fun _ => fun
  | [d1, d2, d3, d4] => { results := [.lit (.bool true)], args := [d1, d2, d3, d4] }
  | _ => none }
def fnExactDoubleWaitRow : OpenClaim := { program := "ytbkeccpjcmhhjaa", sum := "550ce20858cec5d74ac89d6a6194bff9a2f2c380ed27c5ff0065c0397b552c16", func := "loop.example/g00900/laws.FnExactDoubleWait", spec := "fnExactDoubleWait", recurses := true, plainKeys := false, apart := false }
def FnExactDoubleWaitSaid : Prop := fnExactDoubleWaitRow.holds Try.pinned (OpenSpec.ofChange fnExactDoubleWaitSpec)

/-- ITS FALSE NEIGHBOUR: 'it returns false'. Refute it at one input. -/
def fnExactDoubleWaitWrong : ChangeSpec := { name := "fnExactDoubleWait", fn := fun _ => fun
  | [d1, d2, d3, d4] => { results := [.lit (.bool false)], args := [d1, d2, d3, d4] }
  | _ => none }
def FnExactDoubleWaitWrongFalsely : Prop := fnExactDoubleWaitRow.holds Try.pinned (OpenSpec.ofChange fnExactDoubleWaitWrong)

/-- 'laws.FnExactLargestGap': WHATEVER THE INPUT: true; the input reads as it did. -/
def fnExactLargestGapSpec : ChangeSpec := { name := "fnExactLargestGap", fn := fun _ => fun
  | [d1, d2, d3, d4] => { results := [.lit (.bool true)], args := [d1, d2, d3, d4] }
  | _ => none }
def fnExactLargestGapRow : OpenClaim := { program := "ytbkeccpjcmhhjaa", sum := "550ce20858cec5d74ac89d6a6194bff9a2f2c380ed27c5ff0065c0397b552c16", func := "loop.example/g00900/laws.FnExactLargestGap", spec := "fnExactLargestGap", recurses := true, plainKeys := false, apart := false }
def FnExactLargestGapSaid : Prop := fnExactLargestGapRow.holds Try.pinned (OpenSpec.ofChange fnExactLargestGapSpec)

/-- ITS FALSE NEIGHBOUR: 'it returns false'. Refute it at one input. -/
def fnExactLargestGapWrong : ChangeSpec := { name := "fnExactLargestGap", fn := fun _ => fun
  | [d1, d2, d3, d4] => { results := [.lit (.bool false)], args := [d1, d2, d3, d4] }
  | _ => none }
def FnExactLargestGapWrongFalsely : Prop := fnExactLargestGapRow.holds Try.pinned (OpenSpec.ofChange fnExactLargestGapWrong)

/-- 'laws.FnExactUnevenness': WHATEVER THE INPUT: true; the input reads as it did. -/
def fnExactUnevennessSpec : ChangeSpec := { name := "fnExactUnevenness", fn := fun _ => fun
  | [d1, d2, d3, d4] => { results := [.lit (.bool true)], args := [d1, d2, d3, d4] }
  | _ => none }
def fnExactUnevennessRow : OpenClaim := { program := "ytbkeccpjcmhhjaa", sum := "550ce20858cec5d74ac89d6a6194bff9a2f2c380ed27c5ff0065c0397b552c16", func := "loop.example/g00900/laws.FnExactUnevenness", spec := "fnExactUnevenness", recurses := true, plainKeys := false, apart := false }
def FnExactUnevennessSaid : Prop := fnExactUnevennessRow.holds Try.pinned (OpenSpec.ofChange fnExactUnevennessSpec)

/-- ITS FALSE NEIGHBOUR: 'it returns false'. Refute it at one input. -/
def fnExactUnevennessWrong : ChangeSpec := { name := "fnExactUnevenness", fn := fun _ => fun
  | [d1, d2, d3, d4] => { results := [.lit (.bool false)], args := [d1, d2, d3, d4] }
  | _ => none }
def FnExactUnevennessWrongFalsely : Prop := fnExactUnevennessRow.holds Try.pinned (OpenSpec.ofChange fnExactUnevennessWrong)

/-- 'laws.FnExactCatchTrips': WHATEVER THE INPUT: true; the input reads as it did. -/
def fnExactCatchTripsSpec : ChangeSpec := { name := "fnExactCatchTrips", fn := fun _ => fun
  | [d1, d2, d3, d4] => { results := [.lit (.bool true)], args := [d1, d2, d3, d4] }
  | _ => none }
def fnExactCatchTripsRow : OpenClaim := { program := "ytbkeccpjcmhhjaa", sum := "550ce20858cec5d74ac89d6a6194bff9a2f2c380ed27c5ff0065c0397b552c16", func := "loop.example/g00900/laws.FnExactCatchTrips", spec := "fnExactCatchTrips", unfollowed := true, recurses := true, plainKeys := false, apart := false }
def FnExactCatchTripsSaid : Prop := fnExactCatchTripsRow.holds Try.pinned (OpenSpec.ofChange fnExactCatchTripsSpec)

/-- ITS FALSE NEIGHBOUR: 'it returns false'. Refute it at one input. -/
def fnExactCatchTripsWrong : ChangeSpec := { name := "fnExactCatchTrips", fn := fun _ => fun
  | [d1, d2, d3, d4] => { results := [.lit (.bool false)], args := [d1, d2, d3, d4] }
  | _ => none }
def FnExactCatchTripsWrongFalsely : Prop := fnExactCatchTripsRow.holds Try.pinned (OpenSpec.ofChange fnExactCatchTripsWrong)

/-- 'laws.FnExactBestOffsets': WHATEVER THE INPUT: true; the input reads as it did. -/
def fnExactBestOffsetsSpec : ChangeSpec := { name := "fnExactBestOffsets", fn := fun _ => fun
  | [d1, d2, d3, d4] => { results := [.lit (.bool true)], args := [d1, d2, d3, d4] }
  | _ => none }
def fnExactBestOffsetsRow : OpenClaim := { program := "ytbkeccpjcmhhjaa", sum := "550ce20858cec5d74ac89d6a6194bff9a2f2c380ed27c5ff0065c0397b552c16", func := "loop.example/g00900/laws.FnExactBestOffsets", spec := "fnExactBestOffsets", unfollowed := true, recurses := true, plainKeys := false, apart := false }
def FnExactBestOffsetsSaid : Prop := fnExactBestOffsetsRow.holds Try.pinned (OpenSpec.ofChange fnExactBestOffsetsSpec)

/-- ITS FALSE NEIGHBOUR: 'it returns false'. Refute it at one input. -/
def fnExactBestOffsetsWrong : ChangeSpec := { name := "fnExactBestOffsets", fn := fun _ => fun
  | [d1, d2, d3, d4] => { results := [.lit (.bool false)], args := [d1, d2, d3, d4] }
  | _ => none }
def FnExactBestOffsetsWrongFalsely : Prop := fnExactBestOffsetsRow.holds Try.pinned (OpenSpec.ofChange fnExactBestOffsetsWrong)

/-- 'laws.FnExactLatestDeparture': WHATEVER THE INPUT: true; the input reads as it did. -/
def fnExactLatestDepartureSpec : ChangeSpec := { name := "fnExactLatestDeparture", fn := fun _ => fun
  | [d1, d2, d3, d4, d5] => { results := [.lit (.bool true)], args := [d1, d2, d3, d4, d5] }
  | _ => none }
def fnExactLatestDepartureRow : OpenClaim := { program := "ytbkeccpjcmhhjaa", sum := "550ce20858cec5d74ac89d6a6194bff9a2f2c380ed27c5ff0065c0397b552c16", func := "loop.example/g00900/laws.FnExactLatestDeparture", spec := "fnExactLatestDeparture", unfollowed := true, recurses := true, plainKeys := false, apart := false }
def FnExactLatestDepartureSaid : Prop := fnExactLatestDepartureRow.holds Try.pinned (OpenSpec.ofChange fnExactLatestDepartureSpec)

/-- ITS FALSE NEIGHBOUR: 'it returns false'. Refute it at one input. -/
def fnExactLatestDepartureWrong : ChangeSpec := { name := "fnExactLatestDeparture", fn := fun _ => fun
  | [d1, d2, d3, d4, d5] => { results := [.lit (.bool false)], args := [d1, d2, d3, d4, d5] }
  | _ => none }
def FnExactLatestDepartureWrongFalsely : Prop := fnExactLatestDepartureRow.holds Try.pinned (OpenSpec.ofChange fnExactLatestDepartureWrong)

/-- 'laws.FnExactFastestChoice': WHATEVER THE INPUT: true; the input reads as it did. -/
def fnExactFastestChoiceSpec : ChangeSpec := { name := "fnExactFastestChoice", fn := fun _ => fun
  | [d1, d2, d3, d4] => { results := [.lit (.bool true)], args := [d1, d2, d3, d4] }
  | _ => none }
def fnExactFastestChoiceRow : OpenClaim := { program := "ytbkeccpjcmhhjaa", sum := "550ce20858cec5d74ac89d6a6194bff9a2f2c380ed27c5ff0065c0397b552c16", func := "loop.example/g00900/laws.FnExactFastestChoice", spec := "fnExactFastestChoice", unfollowed := true, recurses := true, plainKeys := false, apart := false }
def FnExactFastestChoiceSaid : Prop := fnExactFastestChoiceRow.holds Try.pinned (OpenSpec.ofChange fnExactFastestChoiceSpec)

/-- ITS FALSE NEIGHBOUR: 'it returns false'. Refute it at one input. -/
def fnExactFastestChoiceWrong : ChangeSpec := { name := "fnExactFastestChoice", fn := fun _ => fun
  | [d1, d2, d3, d4] => { results := [.lit (.bool false)], args := [d1, d2, d3, d4] }
  | _ => none }
def FnExactFastestChoiceWrongFalsely : Prop := fnExactFastestChoiceRow.holds Try.pinned (OpenSpec.ofChange fnExactFastestChoiceWrong)

/-- 'laws.FnExactBestByCost': WHATEVER THE INPUT: true; the input reads as it did. -/
def fnExactBestByCostSpec : ChangeSpec := { name := "fnExactBestByCost", fn := fun _ => fun
  | [d1, d2, d3, d4, d5, d6] => { results := [.lit (.bool true)], args := [d1, d2, d3, d4, d5, d6] }
  | _ => none }
def fnExactBestByCostRow : OpenClaim := { program := "ytbkeccpjcmhhjaa", sum := "550ce20858cec5d74ac89d6a6194bff9a2f2c380ed27c5ff0065c0397b552c16", func := "loop.example/g00900/laws.FnExactBestByCost", spec := "fnExactBestByCost", unfollowed := true, recurses := true, plainKeys := false, apart := false }
def FnExactBestByCostSaid : Prop := fnExactBestByCostRow.holds Try.pinned (OpenSpec.ofChange fnExactBestByCostSpec)

/-- ITS FALSE NEIGHBOUR: 'it returns false'. Refute it at one input. -/
def fnExactBestByCostWrong : ChangeSpec := { name := "fnExactBestByCost", fn := fun _ => fun
  | [d1, d2, d3, d4, d5, d6] => { results := [.lit (.bool false)], args := [d1, d2, d3, d4, d5, d6] }
  | _ => none }
def FnExactBestByCostWrongFalsely : Prop := fnExactBestByCostRow.holds Try.pinned (OpenSpec.ofChange fnExactBestByCostWrong)

/- THE SECOND FORM. 'bulk': how many values and letters a reading holds, each counted each time it is reached (what is shared counts as often as it is met; a slice's spare places count too). A statement '..UptoSaid' is the law's where the arguments, and the package variables that the reading takes, are together of bulk at most 1048576: NARROWER than '..Said'. Prove '..Said' where nothing that the law and all that it calls make is longer than what came in: it says more and counts as full. Else prove '..UptoSaid'. A law counts once. -/
mutual
def uptoBulk {H : Type} : DataW H → Nat
  | .lit (.string bytes) => bytes.length + 1
  | .lit _ => 1
  | .nil => 1
  | .ptr d => uptoBulk d + 1
  | .slice elems spare => uptoBulkAll elems + uptoBulkAll spare + 1
  | .agg parts => uptoBulkAll parts + 1
  | .iface _ d => uptoBulk d + 1
  | .map entries => uptoBulkEntries entries + 1
  | .held _ => 1
def uptoBulkAll {H : Type} : List (DataW H) → Nat
  | [] => 0
  | d :: r => uptoBulk d + uptoBulkAll r
def uptoBulkEntries {H : Type} : List (Lit × DataW H) → Nat
  | [] => 0
  | x :: r => uptoBulkEntry x + uptoBulkEntries r
def uptoBulkEntry {H : Type} : Lit × DataW H → Nat
  | (.string bytes, d) => bytes.length + uptoBulk d + 1
  | (_, d) => uptoBulk d + 1
 end
def uptoSmall : (H : Type) → List (DataW H) → Bool := fun _ ds => decide (uptoBulkAll ds ≤ 1048576)
def OpenSpec.upto (s : _root_.Go.ChangeSpec) : _root_.Go.OpenSpec := { _root_.Go.OpenSpec.ofChange s with cond := some uptoSmall }

/-- 'laws.FnExactTurnRoster', WHERE WHAT IT READS IS OF BULK AT MOST 1048576: true; the input reads as it did. -/
def fnExactTurnRosterUptoRow : OpenClaim := { program := "ytbkeccpjcmhhjaa", sum := "550ce20858cec5d74ac89d6a6194bff9a2f2c380ed27c5ff0065c0397b552c16", func := "loop.example/g00900/laws.FnExactTurnRoster", spec := "fnExactTurnRoster", plainKeys := false, apart := false, narrowed := true }
def FnExactTurnRosterUptoSaid : Prop := fnExactTurnRosterUptoRow.holds Try.pinned (OpenSpec.upto fnExactTurnRosterSpec)

/-- 'laws.FnExactTransferWait', WHERE WHAT IT READS IS OF BULK AT MOST 1048576: true; the input reads as it did. -/
def fnExactTransferWaitUptoRow : OpenClaim := { program := "ytbkeccpjcmhhjaa", sum := "550ce20858cec5d74ac89d6a6194bff9a2f2c380ed27c5ff0065c0397b552c16", func := "loop.example/g00900/laws.FnExactTransferWait", spec := "fnExactTransferWait", plainKeys := false, apart := false, narrowed := true }
def FnExactTransferWaitUptoSaid : Prop := fnExactTransferWaitUptoRow.holds Try.pinned (OpenSpec.upto fnExactTransferWaitSpec)

/-- 'laws.FnExactChangeTime', WHERE WHAT IT READS IS OF BULK AT MOST 1048576: true; the input reads as it did. -/
def fnExactChangeTimeUptoRow : OpenClaim := { program := "ytbkeccpjcmhhjaa", sum := "550ce20858cec5d74ac89d6a6194bff9a2f2c380ed27c5ff0065c0397b552c16", func := "loop.example/g00900/laws.FnExactChangeTime", spec := "fnExactChangeTime", unfollowed := true, recurses := true, plainKeys := false, apart := false, narrowed := true }
def FnExactChangeTimeUptoSaid : Prop := fnExactChangeTimeUptoRow.holds Try.pinned (OpenSpec.upto fnExactChangeTimeSpec)

/-- 'laws.FnExactEarliestJourney', WHERE WHAT IT READS IS OF BULK AT MOST 1048576: true; the input reads as it did. -/
def fnExactEarliestJourneyUptoRow : OpenClaim := { program := "ytbkeccpjcmhhjaa", sum := "550ce20858cec5d74ac89d6a6194bff9a2f2c380ed27c5ff0065c0397b552c16", func := "loop.example/g00900/laws.FnExactEarliestJourney", spec := "fnExactEarliestJourney", recurses := true, plainKeys := false, apart := false, narrowed := true }
def FnExactEarliestJourneyUptoSaid : Prop := fnExactEarliestJourneyUptoRow.holds Try.pinned (OpenSpec.upto fnExactEarliestJourneySpec)

/-- 'laws.FnExactSwapTails', WHERE WHAT IT READS IS OF BULK AT MOST 1048576: true; the input reads as it did. -/
def fnExactSwapTailsUptoRow : OpenClaim := { program := "ytbkeccpjcmhhjaa", sum := "550ce20858cec5d74ac89d6a6194bff9a2f2c380ed27c5ff0065c0397b552c16", func := "loop.example/g00900/laws.FnExactSwapTails", spec := "fnExactSwapTails", unfollowed := true, recurses := true, plainKeys := false, apart := false, narrowed := true }
def FnExactSwapTailsUptoSaid : Prop := fnExactSwapTailsUptoRow.holds Try.pinned (OpenSpec.upto fnExactSwapTailsSpec)

/-- 'laws.FnExactParetoJourneys', WHERE WHAT IT READS IS OF BULK AT MOST 1048576: true; the input reads as it did. -/
def fnExactParetoJourneysUptoRow : OpenClaim := { program := "ytbkeccpjcmhhjaa", sum := "550ce20858cec5d74ac89d6a6194bff9a2f2c380ed27c5ff0065c0397b552c16", func := "loop.example/g00900/laws.FnExactParetoJourneys", spec := "fnExactParetoJourneys", recurses := true, plainKeys := false, apart := false, narrowed := true }
def FnExactParetoJourneysUptoSaid : Prop := fnExactParetoJourneysUptoRow.holds Try.pinned (OpenSpec.upto fnExactParetoJourneysSpec)

/-- 'laws.FnExactMakeBlocks', WHERE WHAT IT READS IS OF BULK AT MOST 1048576: true; the input reads as it did. -/
def fnExactMakeBlocksUptoRow : OpenClaim := { program := "ytbkeccpjcmhhjaa", sum := "550ce20858cec5d74ac89d6a6194bff9a2f2c380ed27c5ff0065c0397b552c16", func := "loop.example/g00900/laws.FnExactMakeBlocks", spec := "fnExactMakeBlocks", recurses := true, plainKeys := false, apart := false, narrowed := true }
def FnExactMakeBlocksUptoSaid : Prop := fnExactMakeBlocksUptoRow.holds Try.pinned (OpenSpec.upto fnExactMakeBlocksSpec)

/-- 'laws.FnExactDoubleWait', WHERE WHAT IT READS IS OF BULK AT MOST 1048576: true; the input reads as it did. -/
def fnExactDoubleWaitUptoRow : OpenClaim := { program := "ytbkeccpjcmhhjaa", sum := "550ce20858cec5d74ac89d6a6194bff9a2f2c380ed27c5ff0065c0397b552c16", func := "loop.example/g00900/laws.FnExactDoubleWait", spec := "fnExactDoubleWait", recurses := true, plainKeys := false, apart := false, narrowed := true }
def FnExactDoubleWaitUptoSaid : Prop := fnExactDoubleWaitUptoRow.holds Try.pinned (OpenSpec.upto fnExactDoubleWaitSpec)

/-- 'laws.FnExactLargestGap', WHERE WHAT IT READS IS OF BULK AT MOST 1048576: true; the input reads as it did. -/
def fnExactLargestGapUptoRow : OpenClaim := { program := "ytbkeccpjcmhhjaa", sum := "550ce20858cec5d74ac89d6a6194bff9a2f2c380ed27c5ff0065c0397b552c16", func := "loop.example/g00900/laws.FnExactLargestGap", spec := "fnExactLargestGap", recurses := true, plainKeys := false, apart := false, narrowed := true }
def FnExactLargestGapUptoSaid : Prop := fnExactLargestGapUptoRow.holds Try.pinned (OpenSpec.upto fnExactLargestGapSpec)

/-- 'laws.FnExactUnevenness', WHERE WHAT IT READS IS OF BULK AT MOST 1048576: true; the input reads as it did. -/
def fnExactUnevennessUptoRow : OpenClaim := { program := "ytbkeccpjcmhhjaa", sum := "550ce20858cec5d74ac89d6a6194bff9a2f2c380ed27c5ff0065c0397b552c16", func := "loop.example/g00900/laws.FnExactUnevenness", spec := "fnExactUnevenness", recurses := true, plainKeys := false, apart := false, narrowed := true }
def FnExactUnevennessUptoSaid : Prop := fnExactUnevennessUptoRow.holds Try.pinned (OpenSpec.upto fnExactUnevennessSpec)

/-- 'laws.FnExactCatchTrips', WHERE WHAT IT READS IS OF BULK AT MOST 1048576: true; the input reads as it did. -/
def fnExactCatchTripsUptoRow : OpenClaim := { program := "ytbkeccpjcmhhjaa", sum := "550ce20858cec5d74ac89d6a6194bff9a2f2c380ed27c5ff0065c0397b552c16", func := "loop.example/g00900/laws.FnExactCatchTrips", spec := "fnExactCatchTrips", unfollowed := true, recurses := true, plainKeys := false, apart := false, narrowed := true }
def FnExactCatchTripsUptoSaid : Prop := fnExactCatchTripsUptoRow.holds Try.pinned (OpenSpec.upto fnExactCatchTripsSpec)

/-- 'laws.FnExactBestOffsets', WHERE WHAT IT READS IS OF BULK AT MOST 1048576: true; the input reads as it did. -/
def fnExactBestOffsetsUptoRow : OpenClaim := { program := "ytbkeccpjcmhhjaa", sum := "550ce20858cec5d74ac89d6a6194bff9a2f2c380ed27c5ff0065c0397b552c16", func := "loop.example/g00900/laws.FnExactBestOffsets", spec := "fnExactBestOffsets", unfollowed := true, recurses := true, plainKeys := false, apart := false, narrowed := true }
def FnExactBestOffsetsUptoSaid : Prop := fnExactBestOffsetsUptoRow.holds Try.pinned (OpenSpec.upto fnExactBestOffsetsSpec)

/-- 'laws.FnExactLatestDeparture', WHERE WHAT IT READS IS OF BULK AT MOST 1048576: true; the input reads as it did. -/
def fnExactLatestDepartureUptoRow : OpenClaim := { program := "ytbkeccpjcmhhjaa", sum := "550ce20858cec5d74ac89d6a6194bff9a2f2c380ed27c5ff0065c0397b552c16", func := "loop.example/g00900/laws.FnExactLatestDeparture", spec := "fnExactLatestDeparture", unfollowed := true, recurses := true, plainKeys := false, apart := false, narrowed := true }
def FnExactLatestDepartureUptoSaid : Prop := fnExactLatestDepartureUptoRow.holds Try.pinned (OpenSpec.upto fnExactLatestDepartureSpec)

/-- 'laws.FnExactFastestChoice', WHERE WHAT IT READS IS OF BULK AT MOST 1048576: true; the input reads as it did. -/
def fnExactFastestChoiceUptoRow : OpenClaim := { program := "ytbkeccpjcmhhjaa", sum := "550ce20858cec5d74ac89d6a6194bff9a2f2c380ed27c5ff0065c0397b552c16", func := "loop.example/g00900/laws.FnExactFastestChoice", spec := "fnExactFastestChoice", unfollowed := true, recurses := true, plainKeys := false, apart := false, narrowed := true }
def FnExactFastestChoiceUptoSaid : Prop := fnExactFastestChoiceUptoRow.holds Try.pinned (OpenSpec.upto fnExactFastestChoiceSpec)

/-- 'laws.FnExactBestByCost', WHERE WHAT IT READS IS OF BULK AT MOST 1048576: true; the input reads as it did. -/
def fnExactBestByCostUptoRow : OpenClaim := { program := "ytbkeccpjcmhhjaa", sum := "550ce20858cec5d74ac89d6a6194bff9a2f2c380ed27c5ff0065c0397b552c16", func := "loop.example/g00900/laws.FnExactBestByCost", spec := "fnExactBestByCost", unfollowed := true, recurses := true, plainKeys := false, apart := false, narrowed := true }
def FnExactBestByCostUptoSaid : Prop := fnExactBestByCostUptoRow.holds Try.pinned (OpenSpec.upto fnExactBestByCostSpec)

end Rows
end Go.Proofs.Ytbkeccpjcmhhjaa
