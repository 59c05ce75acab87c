/-
  No cell of these rows narrows 'for every input' (looked for: loops, veiled, ifaces, maps, wideKeys, modest, calm, conditions, laid).
  DERIVED. THE GIVEN ROWS OF THIS SEAT. 7 by the template 'for every input the law returns true; each argument reads behind the call as it read before'; 0 by the template 'total and deterministic' (their statements: YteijofkkggifhaaTotals.lean).
  GIVEN WITH THE SEED: the statements are not yours to turn. If you find one false, say at which input.
  Laid BY PROGRAM, IN A SANDBOX (cutbox-rows.mjs): the forced cells as the released guide's own fill.sh prints them over the translation 1ccfa0c073614a93… (all of the seat's roots in one cut). By AI agents, Wed Nov 11 2026. No macro, syntax, notation, axiom, sorry.
-/
import Derived.Test.YteijofkkggifhaaChecked
import GoSem.Claim
import GoSem.ClaimJoined
import GoSem.ClaimMapViews
import Derived.JoinedTies
import Derived.KernelRfl
namespace Go.Proofs.Yteijofkkggifhaa
/- THE CELL 'sum', in the pinned program and in every row, IS THE sha256 OF THE DUMP (.gsa) THAT YteijofkkggifhaaProg.lean LOADS. Nothing in Lean hashes anything: it is a label: what it is worth is what the hold of that sum in a sandbox is worth. -/
noncomputable def Try.pinned : Pinned := { name := "yteijofkkggifhaa", sum := "1ccfa0c073614a93681b9b6573a47f20c2f68fe3284dccc738a7445151a6e13a", checked := Try.checked }
namespace Rows
def none {H : Type} : Left H := { results := [], args := [] }

/-- 'laws.FnExactChangeTime': WHATEVER THE INPUT: true; the input reads as it did. -/
def fnExactChangeTimeSpec : ChangeSpec := { name := "fnExactChangeTime", fn := fun _ => fun
  | [d1, d2, d3, d4] => { results := [.lit (.bool true)], args := [d1, d2, d3, d4] }
  | _ => none }
def fnExactChangeTimeRow : OpenClaim := { program := "yteijofkkggifhaa", sum := "1ccfa0c073614a93681b9b6573a47f20c2f68fe3284dccc738a7445151a6e13a", func := "loop.example/g00900/laws.FnExactChangeTime", spec := "fnExactChangeTime", unfollowed := true, recurses := true, plainKeys := false, apart := false }
def FnExactChangeTimeSaid : Prop := fnExactChangeTimeRow.holds Try.pinned (OpenSpec.ofChange fnExactChangeTimeSpec)

/-- ITS FALSE NEIGHBOUR: 'it returns false'. Refute it at one input. -/
def fnExactChangeTimeWrong : ChangeSpec := { name := "fnExactChangeTime", fn := fun _ => fun
  | [d1, d2, d3, d4] => { results := [.lit (.bool false)], args := [d1, d2, d3, d4] }
  | _ => none }
def FnExactChangeTimeWrongFalsely : Prop := fnExactChangeTimeRow.holds Try.pinned (OpenSpec.ofChange fnExactChangeTimeWrong)

/-- 'laws.FnExactEarliestJourney': WHATEVER THE INPUT: true; the input reads as it did. -/
def fnExactEarliestJourneySpec : ChangeSpec := { name := "fnExactEarliestJourney", fn := fun _ => fun
  | [d1, d2, d3, d4, d5] => { results := [.lit (.bool true)], args := [d1, d2, d3, d4, d5] }
  | _ => none }
def fnExactEarliestJourneyRow : OpenClaim := { program := "yteijofkkggifhaa", sum := "1ccfa0c073614a93681b9b6573a47f20c2f68fe3284dccc738a7445151a6e13a", func := "loop.example/g00900/laws.FnExactEarliestJourney", spec := "fnExactEarliestJourney", recurses := true, plainKeys := false, apart := false }
def FnExactEarliestJourneySaid : Prop := fnExactEarliestJourneyRow.holds Try.pinned (OpenSpec.ofChange fnExactEarliestJourneySpec)

/-- ITS FALSE NEIGHBOUR: 'it returns false'. Refute it at one input. -/
def fnExactEarliestJourneyWrong : ChangeSpec := { name := "fnExactEarliestJourney", fn := fun _ => fun
  | [d1, d2, d3, d4, d5] => { results := [.lit (.bool false)], args := [d1, d2, d3, d4, d5] }
  | _ => none }
def FnExactEarliestJourneyWrongFalsely : Prop := fnExactEarliestJourneyRow.holds Try.pinned (OpenSpec.ofChange fnExactEarliestJourneyWrong)

/-- 'laws.FnExactParetoJourneys': WHATEVER THE INPUT: true; the input reads as it did. -/
def fnExactParetoJourneysSpec : ChangeSpec := { name := "fnExactParetoJourneys", fn := fun _ => fun
  | [d1, d2, d3, d4, d5] => { results := [.lit (.bool true)], args := [d1, d2, d3, d4, d5] }
  | _ => none }
def fnExactParetoJourneysRow : OpenClaim := { program := "yteijofkkggifhaa", sum := "1ccfa0c073614a93681b9b6573a47f20c2f68fe3284dccc738a7445151a6e13a", func := "loop.example/g00900/laws.FnExactParetoJourneys", spec := "fnExactParetoJourneys", recurses := true, plainKeys := false, apart := false }
def FnExactParetoJourneysSaid : Prop := fnExactParetoJourneysRow.holds Try.pinned (OpenSpec.ofChange fnExactParetoJourneysSpec)

/-- ITS FALSE NEIGHBOUR: 'it returns false'. Refute it at one input. -/
def fnExactParetoJourneysWrong : ChangeSpec := { name := "fnExactParetoJourneys", fn := fun _ => fun
  | [d1, d2, d3, d4, d5] => { results := [.lit (.bool false)], args := [d1, d2, d3, d4, d5] }
  | _ => none }
def FnExactParetoJourneysWrongFalsely : Prop := fnExactParetoJourneysRow.holds Try.pinned (OpenSpec.ofChange fnExactParetoJourneysWrong)

/-- 'laws.FnExactMakeBlocks': WHATEVER THE INPUT: true; the input reads as it did. -/
def fnExactMakeBlocksSpec : ChangeSpec := { name := "fnExactMakeBlocks", fn := fun _ => fun
  | [d1, d2] => { results := [.lit (.bool true)], args := [d1, d2] }
  | _ => none }
def fnExactMakeBlocksRow : OpenClaim := { program := "yteijofkkggifhaa", sum := "1ccfa0c073614a93681b9b6573a47f20c2f68fe3284dccc738a7445151a6e13a", func := "loop.example/g00900/laws.FnExactMakeBlocks", spec := "fnExactMakeBlocks", recurses := true, plainKeys := false, apart := false }
def FnExactMakeBlocksSaid : Prop := fnExactMakeBlocksRow.holds Try.pinned (OpenSpec.ofChange fnExactMakeBlocksSpec)

/-- ITS FALSE NEIGHBOUR: 'it returns false'. Refute it at one input. -/
def fnExactMakeBlocksWrong : ChangeSpec := { name := "fnExactMakeBlocks", fn := fun _ => fun
  | [d1, d2] => { results := [.lit (.bool false)], args := [d1, d2] }
  | _ => none }
def FnExactMakeBlocksWrongFalsely : Prop := fnExactMakeBlocksRow.holds Try.pinned (OpenSpec.ofChange fnExactMakeBlocksWrong)

/-- 'laws.FnExactCatchTrips': WHATEVER THE INPUT: true; the input reads as it did. -/
def fnExactCatchTripsSpec : ChangeSpec := { name := "fnExactCatchTrips", fn := fun _ => fun
  | [d1, d2, d3, d4] => { results := [.lit (.bool true)], args := [d1, d2, d3, d4] }
  | _ => none }
def fnExactCatchTripsRow : OpenClaim := { program := "yteijofkkggifhaa", sum := "1ccfa0c073614a93681b9b6573a47f20c2f68fe3284dccc738a7445151a6e13a", func := "loop.example/g00900/laws.FnExactCatchTrips", spec := "fnExactCatchTrips", unfollowed := true, recurses := true, plainKeys := false, apart := false }
def FnExactCatchTripsSaid : Prop := fnExactCatchTripsRow.holds Try.pinned (OpenSpec.ofChange fnExactCatchTripsSpec)

/-- ITS FALSE NEIGHBOUR: 'it returns false'. Refute it at one input. -/
def fnExactCatchTripsWrong : ChangeSpec := { name := "fnExactCatchTrips", fn := fun _ => fun
  | [d1, d2, d3, d4] => { results := [.lit (.bool false)], args := [d1, d2, d3, d4] }
  | _ => none }
def FnExactCatchTripsWrongFalsely : Prop := fnExactCatchTripsRow.holds Try.pinned (OpenSpec.ofChange fnExactCatchTripsWrong)

/-- 'laws.FnExactBestOffsets': WHATEVER THE INPUT: true; the input reads as it did. -/
def fnExactBestOffsetsSpec : ChangeSpec := { name := "fnExactBestOffsets", fn := fun _ => fun
  | [d1, d2, d3, d4] => { results := [.lit (.bool true)], args := [d1, d2, d3, d4] }
  | _ => none }
def fnExactBestOffsetsRow : OpenClaim := { program := "yteijofkkggifhaa", sum := "1ccfa0c073614a93681b9b6573a47f20c2f68fe3284dccc738a7445151a6e13a", func := "loop.example/g00900/laws.FnExactBestOffsets", spec := "fnExactBestOffsets", unfollowed := true, recurses := true, plainKeys := false, apart := false }
def FnExactBestOffsetsSaid : Prop := fnExactBestOffsetsRow.holds Try.pinned (OpenSpec.ofChange fnExactBestOffsetsSpec)

/-- ITS FALSE NEIGHBOUR: 'it returns false'. Refute it at one input. -/
def fnExactBestOffsetsWrong : ChangeSpec := { name := "fnExactBestOffsets", fn := fun _ => fun
  | [d1, d2, d3, d4] => { results := [.lit (.bool false)], args := [d1, d2, d3, d4] }
  | _ => none }
def FnExactBestOffsetsWrongFalsely : Prop := fnExactBestOffsetsRow.holds Try.pinned (OpenSpec.ofChange fnExactBestOffsetsWrong)

/-- 'laws.FnExactLatestDeparture': WHATEVER THE INPUT: true; the input reads as it did. -/
def fnExactLatestDepartureSpec : ChangeSpec := { name := "fnExactLatestDeparture", fn := fun _ => fun
  | [d1, d2, d3, d4, d5] => { results := [.lit (.bool true)], args := [d1, d2, d3, d4, d5] }
  | _ => none }
def fnExactLatestDepartureRow : OpenClaim := { program := "yteijofkkggifhaa", sum := "1ccfa0c073614a93681b9b6573a47f20c2f68fe3284dccc738a7445151a6e13a", func := "loop.example/g00900/laws.FnExactLatestDeparture", spec := "fnExactLatestDeparture", unfollowed := true, recurses := true, plainKeys := false, apart := false }
def FnExactLatestDepartureSaid : Prop := fnExactLatestDepartureRow.holds Try.pinned (OpenSpec.ofChange fnExactLatestDepartureSpec)

/-- ITS FALSE NEIGHBOUR: 'it returns false'. Refute it at one input. -/
def fnExactLatestDepartureWrong : ChangeSpec := { name := "fnExactLatestDeparture", fn := fun _ => fun
  | [d1, d2, d3, d4, d5] => { results := [.lit (.bool false)], args := [d1, d2, d3, d4, d5] }
  | _ => none }
def FnExactLatestDepartureWrongFalsely : Prop := fnExactLatestDepartureRow.holds Try.pinned (OpenSpec.ofChange fnExactLatestDepartureWrong)

/- THE SECOND FORM. 'bulk': how many values and letters a reading holds, each counted each time it is reached (what is shared counts as often as it is met; a slice's spare places count too). A statement '..UptoSaid' is the law's where the arguments, and the package variables that the reading takes, are together of bulk at most 1048576: NARROWER than '..Said'. Prove '..Said' where nothing that the law and all that it calls make is longer than what came in: it says more and counts as full. Else prove '..UptoSaid'. A law counts once. -/
mutual
def uptoBulk {H : Type} : DataW H → Nat
  | .lit (.string bytes) => bytes.length + 1
  | .lit _ => 1
  | .nil => 1
  | .ptr d => uptoBulk d + 1
  | .slice elems spare => uptoBulkAll elems + uptoBulkAll spare + 1
  | .agg parts => uptoBulkAll parts + 1
  | .iface _ d => uptoBulk d + 1
  | .map entries => uptoBulkEntries entries + 1
  | .held _ => 1
def uptoBulkAll {H : Type} : List (DataW H) → Nat
  | [] => 0
  | d :: r => uptoBulk d + uptoBulkAll r
def uptoBulkEntries {H : Type} : List (Lit × DataW H) → Nat
  | [] => 0
  | x :: r => uptoBulkEntry x + uptoBulkEntries r
def uptoBulkEntry {H : Type} : Lit × DataW H → Nat
  | (.string bytes, d) => bytes.length + uptoBulk d + 1
  | (_, d) => uptoBulk d + 1
 end
def uptoSmall : (H : Type) → List (DataW H) → Bool := fun _ ds => decide (uptoBulkAll ds ≤ 1048576)
def OpenSpec.upto (s : _root_.Go.ChangeSpec) : _root_.Go.OpenSpec := { _root_.Go.OpenSpec.ofChange s with cond := some uptoSmall }

/-- 'laws.FnExactChangeTime', WHERE WHAT IT READS IS OF BULK AT MOST 1048576: true; the input reads as it did. -/
def fnExactChangeTimeUptoRow : OpenClaim := { program := "yteijofkkggifhaa", sum := "1ccfa0c073614a93681b9b6573a47f20c2f68fe3284dccc738a7445151a6e13a", func := "loop.example/g00900/laws.FnExactChangeTime", spec := "fnExactChangeTime", unfollowed := true, recurses := true, plainKeys := false, apart := false, narrowed := true }
def FnExactChangeTimeUptoSaid : Prop := fnExactChangeTimeUptoRow.holds Try.pinned (OpenSpec.upto fnExactChangeTimeSpec)

/-- 'laws.FnExactEarliestJourney', WHERE WHAT IT READS IS OF BULK AT MOST 1048576: true; the input reads as it did. -/
def fnExactEarliestJourneyUptoRow : OpenClaim := { program := "yteijofkkggifhaa", sum := "1ccfa0c073614a93681b9b6573a47f20c2f68fe3284dccc738a7445151a6e13a", func := "loop.example/g00900/laws.FnExactEarliestJourney", spec := "fnExactEarliestJourney", recurses := true, plainKeys := false, apart := false, narrowed := true }
def FnExactEarliestJourneyUptoSaid : Prop := fnExactEarliestJourneyUptoRow.holds Try.pinned (OpenSpec.upto fnExactEarliestJourneySpec)

/-- 'laws.FnExactParetoJourneys', WHERE WHAT IT READS IS OF BULK AT MOST 1048576: true; the input reads as it did. -/
def fnExactParetoJourneysUptoRow : OpenClaim := { program := "yteijofkkggifhaa", sum := "1ccfa0c073614a93681b9b6573a47f20c2f68fe3284dccc738a7445151a6e13a", func := "loop.example/g00900/laws.FnExactParetoJourneys", spec := "fnExactParetoJourneys", recurses := true, plainKeys := false, apart := false, narrowed := true }
def FnExactParetoJourneysUptoSaid : Prop := fnExactParetoJourneysUptoRow.holds Try.pinned (OpenSpec.upto fnExactParetoJourneysSpec)

/-- 'laws.FnExactMakeBlocks', WHERE WHAT IT READS IS OF BULK AT MOST 1048576: true; the input reads as it did. -/
def fnExactMakeBlocksUptoRow : OpenClaim := { program := "yteijofkkggifhaa", sum := "1ccfa0c073614a93681b9b6573a47f20c2f68fe3284dccc738a7445151a6e13a", func := "loop.example/g00900/laws.FnExactMakeBlocks", spec := "fnExactMakeBlocks", recurses := true, plainKeys := false, apart := false, narrowed := true }
def FnExactMakeBlocksUptoSaid : Prop := fnExactMakeBlocksUptoRow.holds Try.pinned (OpenSpec.upto fnExactMakeBlocksSpec)

/-- 'laws.FnExactCatchTrips', WHERE WHAT IT READS IS OF BULK AT MOST 1048576: true; the input reads as it did. -/
def fnExactCatchTripsUptoRow : OpenClaim := { program := "yteijofkkggifhaa", sum := "1ccfa0c073614a93681b9b6573a47f20c2f68fe3284dccc738a7445151a6e13a", func := "loop.example/g00900/laws.FnExactCatchTrips", spec := "fnExactCatchTrips", unfollowed := true, recurses := true, plainKeys := false, apart := false, narrowed := true }
def FnExactCatchTripsUptoSaid : Prop := fnExactCatchTripsUptoRow.holds Try.pinned (OpenSpec.upto fnExactCatchTripsSpec)

/-- 'laws.FnExactBestOffsets', WHERE WHAT IT READS IS OF BULK AT MOST 1048576: true; the input reads as it did. -/
def fnExactBestOffsetsUptoRow : OpenClaim := { program := "yteijofkkggifhaa", sum := "1ccfa0c073614a93681b9b6573a47f20c2f68fe3284dccc738a7445151a6e13a", func := "loop.example/g00900/laws.FnExactBestOffsets", spec := "fnExactBestOffsets", unfollowed := true, recurses := true, plainKeys := false, apart := false, narrowed := true }
def FnExactBestOffsetsUptoSaid : Prop := fnExactBestOffsetsUptoRow.holds Try.pinned (OpenSpec.upto fnExactBestOffsetsSpec)

/-- 'laws.FnExactLatestDeparture', WHERE WHAT IT READS IS OF BULK AT MOST 1048576: true; the input reads as it did. -/
def fnExactLatestDepartureUptoRow : OpenClaim := { program := "yteijofkkggifhaa", sum := "1ccfa0c073614a93681b9b6573a47f20c2f68fe3284dccc738a7445151a6e13a", func := "loop.example/g00900/laws.FnExactLatestDeparture", spec := "fnExactLatestDeparture", unfollowed := true, recurses := true, plainKeys := false, apart := false, narrowed := true }
def FnExactLatestDepartureUptoSaid : Prop := fnExactLatestDepartureUptoRow.holds Try.pinned (OpenSpec.upto fnExactLatestDepartureSpec)

end Rows
end Go.Proofs.Yteijofkkggifhaa
