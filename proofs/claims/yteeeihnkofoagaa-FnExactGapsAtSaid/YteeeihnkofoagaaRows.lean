/-
  No cell of these rows narrows 'for every input' (looked for: loops, veiled, ifaces, maps, wideKeys, modest, calm, conditions, laid).
  DERIVED. THE GIVEN ROWS OF THIS SEAT. 12 by the template 'for every input the law returns true; each argument reads behind the call as it read before'; 0 by the template 'total and deterministic' (their statements: YteeeihnkofoagaaTotals.lean).
  GIVEN WITH THE SEED: the statements are not yours to turn. If you find one false, say at which input.
  Laid BY PROGRAM, IN A SANDBOX (cutbox-rows.mjs): the forced cells as the released guide's own fill.sh prints them over the translation 03206b38312efbe6… (all of the seat's roots in one cut). By AI agents, Wed Nov 11 2026. No macro, syntax, notation, axiom, sorry.
-/
import Derived.Test.YteeeihnkofoagaaChecked
import GoSem.Claim
import GoSem.ClaimJoined
import GoSem.ClaimMapViews
import Derived.JoinedTies
import Derived.KernelRfl
namespace Go.Proofs.Yteeeihnkofoagaa
/- THE CELL 'sum', in the pinned program and in every row, IS THE sha256 OF THE DUMP (.gsa) THAT YteeeihnkofoagaaProg.lean LOADS. Nothing in Lean hashes anything: it is a label: what it is worth is what the hold of that sum in a sandbox is worth. -/
noncomputable def Try.pinned : Pinned := { name := "yteeeihnkofoagaa", sum := "03206b38312efbe6a1b93f637cce3b42b2351442b90e6e8c37af046e1fe47cad", checked := Try.checked }
namespace Rows
def none {H : Type} : Left H := { results := [], args := [] }

/-- 'laws.FnExactTransferWait': WHATEVER THE INPUT: true; the input reads as it did. -/
def fnExactTransferWaitSpec : ChangeSpec := { name := "fnExactTransferWait", fn := fun _ => fun
  | [d1, d2, d3, d4, d5, d6, d7] => { results := [.lit (.bool true)], args := [d1, d2, d3, d4, d5, d6, d7] }
  | _ => none }
def fnExactTransferWaitRow : OpenClaim := { program := "yteeeihnkofoagaa", sum := "03206b38312efbe6a1b93f637cce3b42b2351442b90e6e8c37af046e1fe47cad", func := "loop.example/g00900/laws.FnExactTransferWait", spec := "fnExactTransferWait", apart := false }
def FnExactTransferWaitSaid : Prop := fnExactTransferWaitRow.holds Try.pinned (OpenSpec.ofChange fnExactTransferWaitSpec)

/-- ITS FALSE NEIGHBOUR: 'it returns false'. Refute it at one input. -/
def fnExactTransferWaitWrong : ChangeSpec := { name := "fnExactTransferWait", fn := fun _ => fun
  | [d1, d2, d3, d4, d5, d6, d7] => { results := [.lit (.bool false)], args := [d1, d2, d3, d4, d5, d6, d7] }
  | _ => none }
def FnExactTransferWaitWrongFalsely : Prop := fnExactTransferWaitRow.holds Try.pinned (OpenSpec.ofChange fnExactTransferWaitWrong)

/-- 'laws.FnExactSurvivesDelay': WHATEVER THE INPUT: true; the input reads as it did. -/
def fnExactSurvivesDelaySpec : ChangeSpec := { name := "fnExactSurvivesDelay", fn := fun _ => fun
  | [d1, d2, d3, d4, d5] => { results := [.lit (.bool true)], args := [d1, d2, d3, d4, d5] }
  | _ => none }
def fnExactSurvivesDelayRow : OpenClaim := { program := "yteeeihnkofoagaa", sum := "03206b38312efbe6a1b93f637cce3b42b2351442b90e6e8c37af046e1fe47cad", func := "loop.example/g00900/laws.FnExactSurvivesDelay", spec := "fnExactSurvivesDelay", unfollowed := true, recurses := true, apart := false }
def FnExactSurvivesDelaySaid : Prop := fnExactSurvivesDelayRow.holds Try.pinned (OpenSpec.ofChange fnExactSurvivesDelaySpec)

/-- ITS FALSE NEIGHBOUR: 'it returns false'. Refute it at one input. -/
def fnExactSurvivesDelayWrong : ChangeSpec := { name := "fnExactSurvivesDelay", fn := fun _ => fun
  | [d1, d2, d3, d4, d5] => { results := [.lit (.bool false)], args := [d1, d2, d3, d4, d5] }
  | _ => none }
def FnExactSurvivesDelayWrongFalsely : Prop := fnExactSurvivesDelayRow.holds Try.pinned (OpenSpec.ofChange fnExactSurvivesDelayWrong)

/-- 'laws.FnExactSlackOf': WHATEVER THE INPUT: true; the input reads as it did. -/
def fnExactSlackOfSpec : ChangeSpec := { name := "fnExactSlackOf", fn := fun _ => fun
  | [d1, d2, d3] => { results := [.lit (.bool true)], args := [d1, d2, d3] }
  | _ => none }
def fnExactSlackOfRow : OpenClaim := { program := "yteeeihnkofoagaa", sum := "03206b38312efbe6a1b93f637cce3b42b2351442b90e6e8c37af046e1fe47cad", func := "loop.example/g00900/laws.FnExactSlackOf", spec := "fnExactSlackOf", unfollowed := true, recurses := true, apart := false }
def FnExactSlackOfSaid : Prop := fnExactSlackOfRow.holds Try.pinned (OpenSpec.ofChange fnExactSlackOfSpec)

/-- ITS FALSE NEIGHBOUR: 'it returns false'. Refute it at one input. -/
def fnExactSlackOfWrong : ChangeSpec := { name := "fnExactSlackOf", fn := fun _ => fun
  | [d1, d2, d3] => { results := [.lit (.bool false)], args := [d1, d2, d3] }
  | _ => none }
def FnExactSlackOfWrongFalsely : Prop := fnExactSlackOfRow.holds Try.pinned (OpenSpec.ofChange fnExactSlackOfWrong)

/-- 'laws.FnExactServedStops': WHATEVER THE INPUT: true; the input reads as it did. -/
def fnExactServedStopsSpec : ChangeSpec := { name := "fnExactServedStops", fn := fun _ => fun
  | [d1, d2, d3] => { results := [.lit (.bool true)], args := [d1, d2, d3] }
  | _ => none }
def fnExactServedStopsRow : OpenClaim := { program := "yteeeihnkofoagaa", sum := "03206b38312efbe6a1b93f637cce3b42b2351442b90e6e8c37af046e1fe47cad", func := "loop.example/g00900/laws.FnExactServedStops", spec := "fnExactServedStops", unfollowed := true, recurses := true, apart := false }
def FnExactServedStopsSaid : Prop := fnExactServedStopsRow.holds Try.pinned (OpenSpec.ofChange fnExactServedStopsSpec)

/-- ITS FALSE NEIGHBOUR: 'it returns false'. Refute it at one input. -/
def fnExactServedStopsWrong : ChangeSpec := { name := "fnExactServedStops", fn := fun _ => fun
  | [d1, d2, d3] => { results := [.lit (.bool false)], args := [d1, d2, d3] }
  | _ => none }
def FnExactServedStopsWrongFalsely : Prop := fnExactServedStopsRow.holds Try.pinned (OpenSpec.ofChange fnExactServedStopsWrong)

/-- 'laws.FnExactEarliestJourney': WHATEVER THE INPUT: true; the input reads as it did. -/
def fnExactEarliestJourneySpec : ChangeSpec := { name := "fnExactEarliestJourney", fn := fun _ => fun
  | [d1, d2, d3, d4, d5] => { results := [.lit (.bool true)], args := [d1, d2, d3, d4, d5] }
  | _ => none }
def fnExactEarliestJourneyRow : OpenClaim := { program := "yteeeihnkofoagaa", sum := "03206b38312efbe6a1b93f637cce3b42b2351442b90e6e8c37af046e1fe47cad", func := "loop.example/g00900/laws.FnExactEarliestJourney", spec := "fnExactEarliestJourney", recurses := true, apart := false }
def FnExactEarliestJourneySaid : Prop := fnExactEarliestJourneyRow.holds Try.pinned (OpenSpec.ofChange fnExactEarliestJourneySpec)

/-- ITS FALSE NEIGHBOUR: 'it returns false'. Refute it at one input. -/
def fnExactEarliestJourneyWrong : ChangeSpec := { name := "fnExactEarliestJourney", fn := fun _ => fun
  | [d1, d2, d3, d4, d5] => { results := [.lit (.bool false)], args := [d1, d2, d3, d4, d5] }
  | _ => none }
def FnExactEarliestJourneyWrongFalsely : Prop := fnExactEarliestJourneyRow.holds Try.pinned (OpenSpec.ofChange fnExactEarliestJourneyWrong)

/-- 'laws.FnExactDoubleWait': WHATEVER THE INPUT: true; the input reads as it did. -/
def fnExactDoubleWaitSpec : ChangeSpec := { name := "fnExactDoubleWait", fn := fun _ => fun
  | [d1, d2, d3, d4] => { results := [.lit (.bool true)], args := [d1, d2, d3, d4] }
  | _ => none }
def fnExactDoubleWaitRow : OpenClaim := { program := "yteeeihnkofoagaa", sum := "03206b38312efbe6a1b93f637cce3b42b2351442b90e6e8c37af046e1fe47cad", func := "loop.example/g00900/laws.FnExactDoubleWait", spec := "fnExactDoubleWait", recurses := true, apart := false }
def FnExactDoubleWaitSaid : Prop := fnExactDoubleWaitRow.holds Try.pinned (OpenSpec.ofChange fnExactDoubleWaitSpec)

/-- ITS FALSE NEIGHBOUR: 'it returns false'. Refute it at one input. -/
def fnExactDoubleWaitWrong : ChangeSpec := { name := "fnExactDoubleWait", fn := fun _ => fun
  | [d1, d2, d3, d4] => { results := [.lit (.bool false)], args := [d1, d2, d3, d4] }
  | _ => none }
def FnExactDoubleWaitWrongFalsely : Prop := fnExactDoubleWaitRow.holds Try.pinned (OpenSpec.ofChange fnExactDoubleWaitWrong)

/-- 'laws.FnExactLargestGap': WHATEVER THE INPUT: true; the input reads as it did. -/
def fnExactLargestGapSpec : ChangeSpec := { name := "fnExactLargestGap", fn := fun _ => fun
  | [d1, d2, d3, d4] => { results := [.lit (.bool true)], args := [d1, d2, d3, d4] }
  | _ => none }
def fnExactLargestGapRow : OpenClaim := { program := "yteeeihnkofoagaa", sum := "03206b38312efbe6a1b93f637cce3b42b2351442b90e6e8c37af046e1fe47cad", func := "loop.example/g00900/laws.FnExactLargestGap", spec := "fnExactLargestGap", recurses := true, apart := false }
def FnExactLargestGapSaid : Prop := fnExactLargestGapRow.holds Try.pinned (OpenSpec.ofChange fnExactLargestGapSpec)

/-- ITS FALSE NEIGHBOUR: 'it returns false'. Refute it at one input. -/
def fnExactLargestGapWrong : ChangeSpec := { name := "fnExactLargestGap", fn := fun _ => fun
  | [d1, d2, d3, d4] => { results := [.lit (.bool false)], args := [d1, d2, d3, d4] }
  | _ => none }
def FnExactLargestGapWrongFalsely : Prop := fnExactLargestGapRow.holds Try.pinned (OpenSpec.ofChange fnExactLargestGapWrong)

/-- 'laws.FnExactPassingRests': WHATEVER THE INPUT: true; the input reads as it did. -/
def fnExactPassingRestsSpec : ChangeSpec := { name := "fnExactPassingRests", fn := fun _ => fun
  | [d1, d2, d3, d4] => { results := [.lit (.bool true)], args := [d1, d2, d3, d4] }
  | _ => none }
def fnExactPassingRestsRow : OpenClaim := { program := "yteeeihnkofoagaa", sum := "03206b38312efbe6a1b93f637cce3b42b2351442b90e6e8c37af046e1fe47cad", func := "loop.example/g00900/laws.FnExactPassingRests", spec := "fnExactPassingRests", recurses := true, apart := false }
def FnExactPassingRestsSaid : Prop := fnExactPassingRestsRow.holds Try.pinned (OpenSpec.ofChange fnExactPassingRestsSpec)

/-- ITS FALSE NEIGHBOUR: 'it returns false'. Refute it at one input. -/
def fnExactPassingRestsWrong : ChangeSpec := { name := "fnExactPassingRests", fn := fun _ => fun
  | [d1, d2, d3, d4] => { results := [.lit (.bool false)], args := [d1, d2, d3, d4] }
  | _ => none }
def FnExactPassingRestsWrongFalsely : Prop := fnExactPassingRestsRow.holds Try.pinned (OpenSpec.ofChange fnExactPassingRestsWrong)

/-- 'laws.FnExactUnevenness': WHATEVER THE INPUT: true; the input reads as it did. -/
def fnExactUnevennessSpec : ChangeSpec := { name := "fnExactUnevenness", fn := fun _ => fun
  | [d1, d2, d3, d4] => { results := [.lit (.bool true)], args := [d1, d2, d3, d4] }
  | _ => none }
def fnExactUnevennessRow : OpenClaim := { program := "yteeeihnkofoagaa", sum := "03206b38312efbe6a1b93f637cce3b42b2351442b90e6e8c37af046e1fe47cad", func := "loop.example/g00900/laws.FnExactUnevenness", spec := "fnExactUnevenness", recurses := true, apart := false }
def FnExactUnevennessSaid : Prop := fnExactUnevennessRow.holds Try.pinned (OpenSpec.ofChange fnExactUnevennessSpec)

/-- ITS FALSE NEIGHBOUR: 'it returns false'. Refute it at one input. -/
def fnExactUnevennessWrong : ChangeSpec := { name := "fnExactUnevenness", fn := fun _ => fun
  | [d1, d2, d3, d4] => { results := [.lit (.bool false)], args := [d1, d2, d3, d4] }
  | _ => none }
def FnExactUnevennessWrongFalsely : Prop := fnExactUnevennessRow.holds Try.pinned (OpenSpec.ofChange fnExactUnevennessWrong)

/-- 'laws.FnExactGapsAt': WHATEVER THE INPUT: true; the input reads as it did. -/
def fnExactGapsAtSpec : ChangeSpec := { name := "fnExactGapsAt", fn := fun _ => fun
  | [d1, d2, d3, d4] => { results := [.lit (.bool true)], args := [d1, d2, d3, d4] }
  | _ => none }
def fnExactGapsAtRow : OpenClaim := { program := "yteeeihnkofoagaa", sum := "03206b38312efbe6a1b93f637cce3b42b2351442b90e6e8c37af046e1fe47cad", func := "loop.example/g00900/laws.FnExactGapsAt", spec := "fnExactGapsAt", recurses := true, apart := false }
def FnExactGapsAtSaid : Prop := fnExactGapsAtRow.holds Try.pinned (OpenSpec.ofChange fnExactGapsAtSpec)

/-- ITS FALSE NEIGHBOUR: 'it returns false'. Refute it at one input. -/
def fnExactGapsAtWrong : ChangeSpec := { name := "fnExactGapsAt", fn := fun _ => fun
  | [d1, d2, d3, d4] => { results := [.lit (.bool false)], args := [d1, d2, d3, d4] }
  | _ => none }
def FnExactGapsAtWrongFalsely : Prop := fnExactGapsAtRow.holds Try.pinned (OpenSpec.ofChange fnExactGapsAtWrong)

/-- 'laws.FnExactBestOffsets': WHATEVER THE INPUT: true; the input reads as it did. -/
def fnExactBestOffsetsSpec : ChangeSpec := { name := "fnExactBestOffsets", fn := fun _ => fun
  | [d1, d2, d3, d4] => { results := [.lit (.bool true)], args := [d1, d2, d3, d4] }
  | _ => none }
def fnExactBestOffsetsRow : OpenClaim := { program := "yteeeihnkofoagaa", sum := "03206b38312efbe6a1b93f637cce3b42b2351442b90e6e8c37af046e1fe47cad", func := "loop.example/g00900/laws.FnExactBestOffsets", spec := "fnExactBestOffsets", unfollowed := true, recurses := true, apart := false }
def FnExactBestOffsetsSaid : Prop := fnExactBestOffsetsRow.holds Try.pinned (OpenSpec.ofChange fnExactBestOffsetsSpec)

/-- ITS FALSE NEIGHBOUR: 'it returns false'. Refute it at one input. -/
def fnExactBestOffsetsWrong : ChangeSpec := { name := "fnExactBestOffsets", fn := fun _ => fun
  | [d1, d2, d3, d4] => { results := [.lit (.bool false)], args := [d1, d2, d3, d4] }
  | _ => none }
def FnExactBestOffsetsWrongFalsely : Prop := fnExactBestOffsetsRow.holds Try.pinned (OpenSpec.ofChange fnExactBestOffsetsWrong)

/-- 'laws.FnExactLatestDeparture': WHATEVER THE INPUT: true; the input reads as it did. -/
def fnExactLatestDepartureSpec : ChangeSpec := { name := "fnExactLatestDeparture", fn := fun _ => fun
  | [d1, d2, d3, d4, d5] => { results := [.lit (.bool true)], args := [d1, d2, d3, d4, d5] }
  | _ => none }
def fnExactLatestDepartureRow : OpenClaim := { program := "yteeeihnkofoagaa", sum := "03206b38312efbe6a1b93f637cce3b42b2351442b90e6e8c37af046e1fe47cad", func := "loop.example/g00900/laws.FnExactLatestDeparture", spec := "fnExactLatestDeparture", unfollowed := true, recurses := true, apart := false }
def FnExactLatestDepartureSaid : Prop := fnExactLatestDepartureRow.holds Try.pinned (OpenSpec.ofChange fnExactLatestDepartureSpec)

/-- ITS FALSE NEIGHBOUR: 'it returns false'. Refute it at one input. -/
def fnExactLatestDepartureWrong : ChangeSpec := { name := "fnExactLatestDeparture", fn := fun _ => fun
  | [d1, d2, d3, d4, d5] => { results := [.lit (.bool false)], args := [d1, d2, d3, d4, d5] }
  | _ => none }
def FnExactLatestDepartureWrongFalsely : Prop := fnExactLatestDepartureRow.holds Try.pinned (OpenSpec.ofChange fnExactLatestDepartureWrong)

/- THE SECOND FORM. 'bulk': how many values and letters a reading holds, each counted each time it is reached (what is shared counts as often as it is met; a slice's spare places count too). A statement '..UptoSaid' is the law's where the arguments, and the package variables that the reading takes, are together of bulk at most 1048576: NARROWER than '..Said'. Prove '..Said' where nothing that the law and all that it calls make is longer than what came in: it says more and counts as full. Else prove '..UptoSaid'. A law counts once. -/
mutual
def uptoBulk {H : Type} : DataW H → Nat
  | .lit (.string bytes) => bytes.length + 1
  | .lit _ => 1
  | .nil => 1
  | .ptr d => uptoBulk d + 1
  | .slice elems spare => uptoBulkAll elems + uptoBulkAll spare + 1
  | .agg parts => uptoBulkAll parts + 1
  | .iface _ d => uptoBulk d + 1
  | .map entries => uptoBulkEntries entries + 1
  | .held _ => 1
def uptoBulkAll {H : Type} : List (DataW H) → Nat
  | [] => 0
  | d :: r => uptoBulk d + uptoBulkAll r
def uptoBulkEntries {H : Type} : List (Lit × DataW H) → Nat
  | [] => 0
  | x :: r => uptoBulkEntry x + uptoBulkEntries r
def uptoBulkEntry {H : Type} : Lit × DataW H → Nat
  | (.string bytes, d) => bytes.length + uptoBulk d + 1
  | (_, d) => uptoBulk d + 1
 end
def uptoSmall : (H : Type) → List (DataW H) → Bool := fun _ ds => decide (uptoBulkAll ds ≤ 1048576)
def OpenSpec.upto (s : _root_.Go.ChangeSpec) : _root_.Go.OpenSpec := { _root_.Go.OpenSpec.ofChange s with cond := some uptoSmall }

/-- 'laws.FnExactTransferWait', WHERE WHAT IT READS IS OF BULK AT MOST 1048576: true; the input reads as it did. -/
def fnExactTransferWaitUptoRow : OpenClaim := { program := "yteeeihnkofoagaa", sum := "03206b38312efbe6a1b93f637cce3b42b2351442b90e6e8c37af046e1fe47cad", func := "loop.example/g00900/laws.FnExactTransferWait", spec := "fnExactTransferWait", apart := false, narrowed := true }
def FnExactTransferWaitUptoSaid : Prop := fnExactTransferWaitUptoRow.holds Try.pinned (OpenSpec.upto fnExactTransferWaitSpec)

/-- 'laws.FnExactSurvivesDelay', WHERE WHAT IT READS IS OF BULK AT MOST 1048576: true; the input reads as it did. -/
def fnExactSurvivesDelayUptoRow : OpenClaim := { program := "yteeeihnkofoagaa", sum := "03206b38312efbe6a1b93f637cce3b42b2351442b90e6e8c37af046e1fe47cad", func := "loop.example/g00900/laws.FnExactSurvivesDelay", spec := "fnExactSurvivesDelay", unfollowed := true, recurses := true, apart := false, narrowed := true }
def FnExactSurvivesDelayUptoSaid : Prop := fnExactSurvivesDelayUptoRow.holds Try.pinned (OpenSpec.upto fnExactSurvivesDelaySpec)

/-- 'laws.FnExactSlackOf', WHERE WHAT IT READS IS OF BULK AT MOST 1048576: true; the input reads as it did. -/
def fnExactSlackOfUptoRow : OpenClaim := { program := "yteeeihnkofoagaa", sum := "03206b38312efbe6a1b93f637cce3b42b2351442b90e6e8c37af046e1fe47cad", func := "loop.example/g00900/laws.FnExactSlackOf", spec := "fnExactSlackOf", unfollowed := true, recurses := true, apart := false, narrowed := true }
def FnExactSlackOfUptoSaid : Prop := fnExactSlackOfUptoRow.holds Try.pinned (OpenSpec.upto fnExactSlackOfSpec)

/-- 'laws.FnExactServedStops', WHERE WHAT IT READS IS OF BULK AT MOST 1048576: true; the input reads as it did. -/
def fnExactServedStopsUptoRow : OpenClaim := { program := "yteeeihnkofoagaa", sum := "03206b38312efbe6a1b93f637cce3b42b2351442b90e6e8c37af046e1fe47cad", func := "loop.example/g00900/laws.FnExactServedStops", spec := "fnExactServedStops", unfollowed := true, recurses := true, apart := false, narrowed := true }
def FnExactServedStopsUptoSaid : Prop := fnExactServedStopsUptoRow.holds Try.pinned (OpenSpec.upto fnExactServedStopsSpec)

/-- 'laws.FnExactEarliestJourney', WHERE WHAT IT READS IS OF BULK AT MOST 1048576: true; the input reads as it did. -/
def fnExactEarliestJourneyUptoRow : OpenClaim := { program := "yteeeihnkofoagaa", sum := "03206b38312efbe6a1b93f637cce3b42b2351442b90e6e8c37af046e1fe47cad", func := "loop.example/g00900/laws.FnExactEarliestJourney", spec := "fnExactEarliestJourney", recurses := true, apart := false, narrowed := true }
def FnExactEarliestJourneyUptoSaid : Prop := fnExactEarliestJourneyUptoRow.holds Try.pinned (OpenSpec.upto fnExactEarliestJourneySpec)

/-- 'laws.FnExactDoubleWait', WHERE WHAT IT READS IS OF BULK AT MOST 1048576: true; the input reads as it did. -/
def fnExactDoubleWaitUptoRow : OpenClaim := { program := "yteeeihnkofoagaa", sum := "03206b38312efbe6a1b93f637cce3b42b2351442b90e6e8c37af046e1fe47cad", func := "loop.example/g00900/laws.FnExactDoubleWait", spec := "fnExactDoubleWait", recurses := true, apart := false, narrowed := true }
def FnExactDoubleWaitUptoSaid : Prop := fnExactDoubleWaitUptoRow.holds Try.pinned (OpenSpec.upto fnExactDoubleWaitSpec)

/-- 'laws.FnExactLargestGap', WHERE WHAT IT READS IS OF BULK AT MOST 1048576: true; the input reads as it did. -/
def fnExactLargestGapUptoRow : OpenClaim := { program := "yteeeihnkofoagaa", sum := "03206b38312efbe6a1b93f637cce3b42b2351442b90e6e8c37af046e1fe47cad", func := "loop.example/g00900/laws.FnExactLargestGap", spec := "fnExactLargestGap", recurses := true, apart := false, narrowed := true }
def FnExactLargestGapUptoSaid : Prop := fnExactLargestGapUptoRow.holds Try.pinned (OpenSpec.upto fnExactLargestGapSpec)

/-- 'laws.FnExactPassingRests', WHERE WHAT IT READS IS OF BULK AT MOST 1048576: true; the input reads as it did. -/
def fnExactPassingRestsUptoRow : OpenClaim := { program := "yteeeihnkofoagaa", sum := "03206b38312efbe6a1b93f637cce3b42b2351442b90e6e8c37af046e1fe47cad", func := "loop.example/g00900/laws.FnExactPassingRests", spec := "fnExactPassingRests", recurses := true, apart := false, narrowed := true }
def FnExactPassingRestsUptoSaid : Prop := fnExactPassingRestsUptoRow.holds Try.pinned (OpenSpec.upto fnExactPassingRestsSpec)

/-- 'laws.FnExactUnevenness', WHERE WHAT IT READS IS OF BULK AT MOST 1048576: true; the input reads as it did. -/
def fnExactUnevennessUptoRow : OpenClaim := { program := "yteeeihnkofoagaa", sum := "03206b38312efbe6a1b93f637cce3b42b2351442b90e6e8c37af046e1fe47cad", func := "loop.example/g00900/laws.FnExactUnevenness", spec := "fnExactUnevenness", recurses := true, apart := false, narrowed := true }
def FnExactUnevennessUptoSaid : Prop := fnExactUnevennessUptoRow.holds Try.pinned (OpenSpec.upto fnExactUnevennessSpec)

/-- 'laws.FnExactGapsAt', WHERE WHAT IT READS IS OF BULK AT MOST 1048576: true; the input reads as it did. -/
def fnExactGapsAtUptoRow : OpenClaim := { program := "yteeeihnkofoagaa", sum := "03206b38312efbe6a1b93f637cce3b42b2351442b90e6e8c37af046e1fe47cad", func := "loop.example/g00900/laws.FnExactGapsAt", spec := "fnExactGapsAt", recurses := true, apart := false, narrowed := true }
def FnExactGapsAtUptoSaid : Prop := fnExactGapsAtUptoRow.holds Try.pinned (OpenSpec.upto fnExactGapsAtSpec)

/-- 'laws.FnExactBestOffsets', WHERE WHAT IT READS IS OF BULK AT MOST 1048576: true; the input reads as it did. -/
def fnExactBestOffsetsUptoRow : OpenClaim := { program := "yteeeihnkofoagaa", sum := "03206b38312efbe6a1b93f637cce3b42b2351442b90e6e8c37af046e1fe47cad", func := "loop.example/g00900/laws.FnExactBestOffsets", spec := "fnExactBestOffsets", unfollowed := true, recurses := true, apart := false, narrowed := true }
def FnExactBestOffsetsUptoSaid : Prop := fnExactBestOffsetsUptoRow.holds Try.pinned (OpenSpec.upto fnExactBestOffsetsSpec)

/-- 'laws.FnExactLatestDeparture', WHERE WHAT IT READS IS OF BULK AT MOST 1048576: true; the input reads as it did. -/
def fnExactLatestDepartureUptoRow : OpenClaim := { program := "yteeeihnkofoagaa", sum := "03206b38312efbe6a1b93f637cce3b42b2351442b90e6e8c37af046e1fe47cad", func := "loop.example/g00900/laws.FnExactLatestDeparture", spec := "fnExactLatestDeparture", unfollowed := true, recurses := true, apart := false, narrowed := true }
def FnExactLatestDepartureUptoSaid : Prop := fnExactLatestDepartureUptoRow.holds Try.pinned (OpenSpec.upto fnExactLatestDepartureSpec)

end Rows
end Go.Proofs.Yteeeihnkofoagaa
