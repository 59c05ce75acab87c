/-
  No cell of these rows narrows 'for every input' (looked for: loops, veiled, ifaces, maps, wideKeys, modest, calm, conditions, laid).
  DERIVED. THE GIVEN ROWS OF THIS SEAT. 10 by the template 'for every input the law returns true; each argument reads behind the call as it read before'; 0 by the template 'total and deterministic' (their statements: YthoappgpkelakaaTotals.lean).
  GIVEN WITH THE SEED: the statements are not yours to turn. If you find one false, say at which input.
  Laid BY PROGRAM, IN A SANDBOX (cutbox-rows.mjs): the forced cells as the released guide's own fill.sh prints them over the translation 55687ff810d02775… (all of the seat's roots in one cut). By AI agents, Wed Nov 11 2026. No macro, syntax, notation, axiom, sorry.
-/
import Derived.Test.YthoappgpkelakaaChecked
import GoSem.Claim
import GoSem.ClaimJoined
import GoSem.ClaimMapViews
import Derived.JoinedTies
import Derived.KernelRfl
namespace Go.Proofs.Ythoappgpkelakaa
/- THE CELL 'sum', in the pinned program and in every row, IS THE sha256 OF THE DUMP (.gsa) THAT YthoappgpkelakaaProg.lean LOADS. Nothing in Lean hashes anything: it is a label: what it is worth is what the hold of that sum in a sandbox is worth. -/
noncomputable def Try.pinned : Pinned := { name := "ythoappgpkelakaa", sum := "55687ff810d02775c27bada9de4cbb115ea664a1c7db29f56d1a21bf78ccf077", checked := Try.checked }
namespace Rows
def none {H : Type} : Left H := { results := [], args := [] }

/-- 'laws.FnExactIsValidRules': WHATEVER THE INPUT: true; the input reads as it did. -/
def fnExactIsValidRulesSpec : ChangeSpec := { name := "fnExactIsValidRules", fn := fun _ => fun
  | [d] => { results := [.lit (.bool true)], args := [d] }
  | _ => none }
def fnExactIsValidRulesRow : OpenClaim := { program := "ythoappgpkelakaa", sum := "55687ff810d02775c27bada9de4cbb115ea664a1c7db29f56d1a21bf78ccf077", func := "loop.example/g00900/laws.FnExactIsValidRules", spec := "fnExactIsValidRules", apart := false }
def FnExactIsValidRulesSaid : Prop := fnExactIsValidRulesRow.holds Try.pinned (OpenSpec.ofChange fnExactIsValidRulesSpec)

/-- ITS FALSE NEIGHBOUR: 'it returns false'. Refute it at one input. -/
def fnExactIsValidRulesWrong : ChangeSpec := { name := "fnExactIsValidRules", fn := fun _ => fun
  | [d] => { results := [.lit (.bool false)], args := [d] }
  | _ => none }
def FnExactIsValidRulesWrongFalsely : Prop := fnExactIsValidRulesRow.holds Try.pinned (OpenSpec.ofChange fnExactIsValidRulesWrong)

/-- 'laws.FnExactEvenTimes': WHATEVER THE INPUT: true; the input reads as it did. -/
def fnExactEvenTimesSpec : ChangeSpec := { name := "fnExactEvenTimes", fn := fun _ => fun
  | [d1, d2] => { results := [.lit (.bool true)], args := [d1, d2] }
  | _ => none }
def fnExactEvenTimesRow : OpenClaim := { program := "ythoappgpkelakaa", sum := "55687ff810d02775c27bada9de4cbb115ea664a1c7db29f56d1a21bf78ccf077", func := "loop.example/g00900/laws.FnExactEvenTimes", spec := "fnExactEvenTimes", apart := false }
def FnExactEvenTimesSaid : Prop := fnExactEvenTimesRow.holds Try.pinned (OpenSpec.ofChange fnExactEvenTimesSpec)

/-- ITS FALSE NEIGHBOUR: 'it returns false'. Refute it at one input. -/
def fnExactEvenTimesWrong : ChangeSpec := { name := "fnExactEvenTimes", fn := fun _ => fun
  | [d1, d2] => { results := [.lit (.bool false)], args := [d1, d2] }
  | _ => none }
def FnExactEvenTimesWrongFalsely : Prop := fnExactEvenTimesRow.holds Try.pinned (OpenSpec.ofChange fnExactEvenTimesWrong)

/-- 'laws.FnExactIsValidRoster': WHATEVER THE INPUT: true; the input reads as it did. -/
def fnExactIsValidRosterSpec : ChangeSpec := { name := "fnExactIsValidRoster", fn := fun _ => fun
  | [d] => { results := [.lit (.bool true)], args := [d] }
  | _ => none }
def fnExactIsValidRosterRow : OpenClaim := { program := "ythoappgpkelakaa", sum := "55687ff810d02775c27bada9de4cbb115ea664a1c7db29f56d1a21bf78ccf077", func := "loop.example/g00900/laws.FnExactIsValidRoster", spec := "fnExactIsValidRoster", apart := false }
def FnExactIsValidRosterSaid : Prop := fnExactIsValidRosterRow.holds Try.pinned (OpenSpec.ofChange fnExactIsValidRosterSpec)

/-- ITS FALSE NEIGHBOUR: 'it returns false'. Refute it at one input. -/
def fnExactIsValidRosterWrong : ChangeSpec := { name := "fnExactIsValidRoster", fn := fun _ => fun
  | [d] => { results := [.lit (.bool false)], args := [d] }
  | _ => none }
def FnExactIsValidRosterWrongFalsely : Prop := fnExactIsValidRosterRow.holds Try.pinned (OpenSpec.ofChange fnExactIsValidRosterWrong)

/-- 'laws.FnExactLongestRow': WHATEVER THE INPUT: true; the input reads as it did. -/
def fnExactLongestRowSpec : ChangeSpec := { name := "fnExactLongestRow", fn := fun _ => fun
  | [d1, d2] => { results := [.lit (.bool true)], args := [d1, d2] }
  | _ => none }
def fnExactLongestRowRow : OpenClaim := { program := "ythoappgpkelakaa", sum := "55687ff810d02775c27bada9de4cbb115ea664a1c7db29f56d1a21bf78ccf077", func := "loop.example/g00900/laws.FnExactLongestRow", spec := "fnExactLongestRow", apart := false }
def FnExactLongestRowSaid : Prop := fnExactLongestRowRow.holds Try.pinned (OpenSpec.ofChange fnExactLongestRowSpec)

/-- ITS FALSE NEIGHBOUR: 'it returns false'. Refute it at one input. -/
def fnExactLongestRowWrong : ChangeSpec := { name := "fnExactLongestRow", fn := fun _ => fun
  | [d1, d2] => { results := [.lit (.bool false)], args := [d1, d2] }
  | _ => none }
def FnExactLongestRowWrongFalsely : Prop := fnExactLongestRowRow.holds Try.pinned (OpenSpec.ofChange fnExactLongestRowWrong)

/-- 'laws.FnExactWorkedMinutes': WHATEVER THE INPUT: true; the input reads as it did. -/
def fnExactWorkedMinutesSpec : ChangeSpec := { name := "fnExactWorkedMinutes", fn := fun _ => fun
  | [d1, d2] => { results := [.lit (.bool true)], args := [d1, d2] }
  | _ => none }
def fnExactWorkedMinutesRow : OpenClaim := { program := "ythoappgpkelakaa", sum := "55687ff810d02775c27bada9de4cbb115ea664a1c7db29f56d1a21bf78ccf077", func := "loop.example/g00900/laws.FnExactWorkedMinutes", spec := "fnExactWorkedMinutes", apart := false }
def FnExactWorkedMinutesSaid : Prop := fnExactWorkedMinutesRow.holds Try.pinned (OpenSpec.ofChange fnExactWorkedMinutesSpec)

/-- ITS FALSE NEIGHBOUR: 'it returns false'. Refute it at one input. -/
def fnExactWorkedMinutesWrong : ChangeSpec := { name := "fnExactWorkedMinutes", fn := fun _ => fun
  | [d1, d2] => { results := [.lit (.bool false)], args := [d1, d2] }
  | _ => none }
def FnExactWorkedMinutesWrongFalsely : Prop := fnExactWorkedMinutesRow.holds Try.pinned (OpenSpec.ofChange fnExactWorkedMinutesWrong)

/-- 'laws.FnExactBusiestWeek': WHATEVER THE INPUT: true; the input reads as it did. -/
def fnExactBusiestWeekSpec : ChangeSpec := { name := "fnExactBusiestWeek", fn := fun _ => fun
  | [d1, d2] => { results := [.lit (.bool true)], args := [d1, d2] }
  | _ => none }
def fnExactBusiestWeekRow : OpenClaim := { program := "ythoappgpkelakaa", sum := "55687ff810d02775c27bada9de4cbb115ea664a1c7db29f56d1a21bf78ccf077", func := "loop.example/g00900/laws.FnExactBusiestWeek", spec := "fnExactBusiestWeek", apart := false }
def FnExactBusiestWeekSaid : Prop := fnExactBusiestWeekRow.holds Try.pinned (OpenSpec.ofChange fnExactBusiestWeekSpec)

/-- ITS FALSE NEIGHBOUR: 'it returns false'. Refute it at one input. -/
def fnExactBusiestWeekWrong : ChangeSpec := { name := "fnExactBusiestWeek", fn := fun _ => fun
  | [d1, d2] => { results := [.lit (.bool false)], args := [d1, d2] }
  | _ => none }
def FnExactBusiestWeekWrongFalsely : Prop := fnExactBusiestWeekRow.holds Try.pinned (OpenSpec.ofChange fnExactBusiestWeekWrong)

/-- 'laws.FnExactMissingShifts': WHATEVER THE INPUT: true; the input reads as it did. -/
def fnExactMissingShiftsSpec : ChangeSpec := { name := "fnExactMissingShifts", fn := fun _ => fun
  | [d1, d2] => { results := [.lit (.bool true)], args := [d1, d2] }
  | _ => none }
def fnExactMissingShiftsRow : OpenClaim := { program := "ythoappgpkelakaa", sum := "55687ff810d02775c27bada9de4cbb115ea664a1c7db29f56d1a21bf78ccf077", func := "loop.example/g00900/laws.FnExactMissingShifts", spec := "fnExactMissingShifts", unfollowed := true, recurses := true, apart := false }
def FnExactMissingShiftsSaid : Prop := fnExactMissingShiftsRow.holds Try.pinned (OpenSpec.ofChange fnExactMissingShiftsSpec)

/-- ITS FALSE NEIGHBOUR: 'it returns false'. Refute it at one input. -/
def fnExactMissingShiftsWrong : ChangeSpec := { name := "fnExactMissingShifts", fn := fun _ => fun
  | [d1, d2] => { results := [.lit (.bool false)], args := [d1, d2] }
  | _ => none }
def FnExactMissingShiftsWrongFalsely : Prop := fnExactMissingShiftsRow.holds Try.pinned (OpenSpec.ofChange fnExactMissingShiftsWrong)

/-- 'laws.FnExactBrokenRests': WHATEVER THE INPUT: true; the input reads as it did. -/
def fnExactBrokenRestsSpec : ChangeSpec := { name := "fnExactBrokenRests", fn := fun _ => fun
  | [d1, d2] => { results := [.lit (.bool true)], args := [d1, d2] }
  | _ => none }
def fnExactBrokenRestsRow : OpenClaim := { program := "ythoappgpkelakaa", sum := "55687ff810d02775c27bada9de4cbb115ea664a1c7db29f56d1a21bf78ccf077", func := "loop.example/g00900/laws.FnExactBrokenRests", spec := "fnExactBrokenRests", apart := false }
def FnExactBrokenRestsSaid : Prop := fnExactBrokenRestsRow.holds Try.pinned (OpenSpec.ofChange fnExactBrokenRestsSpec)

/-- ITS FALSE NEIGHBOUR: 'it returns false'. Refute it at one input. -/
def fnExactBrokenRestsWrong : ChangeSpec := { name := "fnExactBrokenRests", fn := fun _ => fun
  | [d1, d2] => { results := [.lit (.bool false)], args := [d1, d2] }
  | _ => none }
def FnExactBrokenRestsWrongFalsely : Prop := fnExactBrokenRestsRow.holds Try.pinned (OpenSpec.ofChange fnExactBrokenRestsWrong)

/-- 'laws.FnExactTurnRoster': WHATEVER THE INPUT: true; the input reads as it did. -/
def fnExactTurnRosterSpec : ChangeSpec := { name := "fnExactTurnRoster", fn := fun _ => fun
  | [d1, d2] => { results := [.lit (.bool true)], args := [d1, d2] }
  | _ => none }
def fnExactTurnRosterRow : OpenClaim := { program := "ythoappgpkelakaa", sum := "55687ff810d02775c27bada9de4cbb115ea664a1c7db29f56d1a21bf78ccf077", func := "loop.example/g00900/laws.FnExactTurnRoster", spec := "fnExactTurnRoster", apart := false }
def FnExactTurnRosterSaid : Prop := fnExactTurnRosterRow.holds Try.pinned (OpenSpec.ofChange fnExactTurnRosterSpec)

/-- ITS FALSE NEIGHBOUR: 'it returns false'. Refute it at one input. -/
def fnExactTurnRosterWrong : ChangeSpec := { name := "fnExactTurnRoster", fn := fun _ => fun
  | [d1, d2] => { results := [.lit (.bool false)], args := [d1, d2] }
  | _ => none }
def FnExactTurnRosterWrongFalsely : Prop := fnExactTurnRosterRow.holds Try.pinned (OpenSpec.ofChange fnExactTurnRosterWrong)

/-- 'laws.FnExactKeepsRules': WHATEVER THE INPUT: true; the input reads as it did. -/
def fnExactKeepsRulesSpec : ChangeSpec := { name := "fnExactKeepsRules", fn := fun _ => fun
  | [d] => { results := [.lit (.bool true)], args := [d] }
  | _ => none }
def fnExactKeepsRulesRow : OpenClaim := { program := "ythoappgpkelakaa", sum := "55687ff810d02775c27bada9de4cbb115ea664a1c7db29f56d1a21bf78ccf077", func := "loop.example/g00900/laws.FnExactKeepsRules", spec := "fnExactKeepsRules", apart := false }
def FnExactKeepsRulesSaid : Prop := fnExactKeepsRulesRow.holds Try.pinned (OpenSpec.ofChange fnExactKeepsRulesSpec)

/-- ITS FALSE NEIGHBOUR: 'it returns false'. Refute it at one input. -/
def fnExactKeepsRulesWrong : ChangeSpec := { name := "fnExactKeepsRules", fn := fun _ => fun
  | [d] => { results := [.lit (.bool false)], args := [d] }
  | _ => none }
def FnExactKeepsRulesWrongFalsely : Prop := fnExactKeepsRulesRow.holds Try.pinned (OpenSpec.ofChange fnExactKeepsRulesWrong)

/- THE SECOND FORM. 'bulk': how many values and letters a reading holds, each counted each time it is reached (what is shared counts as often as it is met; a slice's spare places count too). A statement '..UptoSaid' is the law's where the arguments, and the package variables that the reading takes, are together of bulk at most 1048576: NARROWER than '..Said'. Prove '..Said' where nothing that the law and all that it calls make is longer than what came in: it says more and counts as full. Else prove '..UptoSaid'. A law counts once. -/
mutual
def uptoBulk {H : Type} : DataW H → Nat
  | .lit (.string bytes) => bytes.length + 1
  | .lit _ => 1
  | .nil => 1
  | .ptr d => uptoBulk d + 1
  | .slice elems spare => uptoBulkAll elems + uptoBulkAll spare + 1
  | .agg parts => uptoBulkAll parts + 1
  | .iface _ d => uptoBulk d + 1
  | .map entries => uptoBulkEntries entries + 1
  | .held _ => 1
def uptoBulkAll {H : Type} : List (DataW H) → Nat
  | [] => 0
  | d :: r => uptoBulk d + uptoBulkAll r
def uptoBulkEntries {H : Type} : List (Lit × DataW H) → Nat
  | [] => 0
  | x :: r => uptoBulkEntry x + uptoBulkEntries r
def uptoBulkEntry {H : Type} : Lit × DataW H → Nat
  | (.string bytes, d) => bytes.length + uptoBulk d + 1
  | (_, d) => uptoBulk d + 1
 end
def uptoSmall : (H : Type) → List (DataW H) → Bool := fun _ ds => decide (uptoBulkAll ds ≤ 1048576)
def OpenSpec.upto (s : _root_.Go.ChangeSpec) : _root_.Go.OpenSpec := { _root_.Go.OpenSpec.ofChange s with cond := some uptoSmall }

/-- 'laws.FnExactIsValidRules', WHERE WHAT IT READS IS OF BULK AT MOST 1048576: true; the input reads as it did. -/
def fnExactIsValidRulesUptoRow : OpenClaim := { program := "ythoappgpkelakaa", sum := "55687ff810d02775c27bada9de4cbb115ea664a1c7db29f56d1a21bf78ccf077", func := "loop.example/g00900/laws.FnExactIsValidRules", spec := "fnExactIsValidRules", apart := false, narrowed := true }
def FnExactIsValidRulesUptoSaid : Prop := fnExactIsValidRulesUptoRow.holds Try.pinned (OpenSpec.upto fnExactIsValidRulesSpec)

/-- 'laws.FnExactEvenTimes', WHERE WHAT IT READS IS OF BULK AT MOST 1048576: true; the input reads as it did. -/
def fnExactEvenTimesUptoRow : OpenClaim := { program := "ythoappgpkelakaa", sum := "55687ff810d02775c27bada9de4cbb115ea664a1c7db29f56d1a21bf78ccf077", func := "loop.example/g00900/laws.FnExactEvenTimes", spec := "fnExactEvenTimes", apart := false, narrowed := true }
def FnExactEvenTimesUptoSaid : Prop := fnExactEvenTimesUptoRow.holds Try.pinned (OpenSpec.upto fnExactEvenTimesSpec)

/-- 'laws.FnExactIsValidRoster', WHERE WHAT IT READS IS OF BULK AT MOST 1048576: true; the input reads as it did. -/
def fnExactIsValidRosterUptoRow : OpenClaim := { program := "ythoappgpkelakaa", sum := "55687ff810d02775c27bada9de4cbb115ea664a1c7db29f56d1a21bf78ccf077", func := "loop.example/g00900/laws.FnExactIsValidRoster", spec := "fnExactIsValidRoster", apart := false, narrowed := true }
def FnExactIsValidRosterUptoSaid : Prop := fnExactIsValidRosterUptoRow.holds Try.pinned (OpenSpec.upto fnExactIsValidRosterSpec)

/-- 'laws.FnExactLongestRow', WHERE WHAT IT READS IS OF BULK AT MOST 1048576: true; the input reads as it did. -/
def fnExactLongestRowUptoRow : OpenClaim := { program := "ythoappgpkelakaa", sum := "55687ff810d02775c27bada9de4cbb115ea664a1c7db29f56d1a21bf78ccf077", func := "loop.example/g00900/laws.FnExactLongestRow", spec := "fnExactLongestRow", apart := false, narrowed := true }
def FnExactLongestRowUptoSaid : Prop := fnExactLongestRowUptoRow.holds Try.pinned (OpenSpec.upto fnExactLongestRowSpec)

/-- 'laws.FnExactWorkedMinutes', WHERE WHAT IT READS IS OF BULK AT MOST 1048576: true; the input reads as it did. -/
def fnExactWorkedMinutesUptoRow : OpenClaim := { program := "ythoappgpkelakaa", sum := "55687ff810d02775c27bada9de4cbb115ea664a1c7db29f56d1a21bf78ccf077", func := "loop.example/g00900/laws.FnExactWorkedMinutes", spec := "fnExactWorkedMinutes", apart := false, narrowed := true }
def FnExactWorkedMinutesUptoSaid : Prop := fnExactWorkedMinutesUptoRow.holds Try.pinned (OpenSpec.upto fnExactWorkedMinutesSpec)

/-- 'laws.FnExactBusiestWeek', WHERE WHAT IT READS IS OF BULK AT MOST 1048576: true; the input reads as it did. -/
def fnExactBusiestWeekUptoRow : OpenClaim := { program := "ythoappgpkelakaa", sum := "55687ff810d02775c27bada9de4cbb115ea664a1c7db29f56d1a21bf78ccf077", func := "loop.example/g00900/laws.FnExactBusiestWeek", spec := "fnExactBusiestWeek", apart := false, narrowed := true }
def FnExactBusiestWeekUptoSaid : Prop := fnExactBusiestWeekUptoRow.holds Try.pinned (OpenSpec.upto fnExactBusiestWeekSpec)

/-- 'laws.FnExactMissingShifts', WHERE WHAT IT READS IS OF BULK AT MOST 1048576: true; the input reads as it did. -/
def fnExactMissingShiftsUptoRow : OpenClaim := { program := "ythoappgpkelakaa", sum := "55687ff810d02775c27bada9de4cbb115ea664a1c7db29f56d1a21bf78ccf077", func := "loop.example/g00900/laws.FnExactMissingShifts", spec := "fnExactMissingShifts", unfollowed := true, recurses := true, apart := false, narrowed := true }
def FnExactMissingShiftsUptoSaid : Prop := fnExactMissingShiftsUptoRow.holds Try.pinned (OpenSpec.upto fnExactMissingShiftsSpec)

/-- 'laws.FnExactBrokenRests', WHERE WHAT IT READS IS OF BULK AT MOST 1048576: true; the input reads as it did. -/
def fnExactBrokenRestsUptoRow : OpenClaim := { program := "ythoappgpkelakaa", sum := "55687ff810d02775c27bada9de4cbb115ea664a1c7db29f56d1a21bf78ccf077", func := "loop.example/g00900/laws.FnExactBrokenRests", spec := "fnExactBrokenRests", apart := false, narrowed := true }
def FnExactBrokenRestsUptoSaid : Prop := fnExactBrokenRestsUptoRow.holds Try.pinned (OpenSpec.upto fnExactBrokenRestsSpec)

/-- 'laws.FnExactTurnRoster', WHERE WHAT IT READS IS OF BULK AT MOST 1048576: true; the input reads as it did. -/
def fnExactTurnRosterUptoRow : OpenClaim := { program := "ythoappgpkelakaa", sum := "55687ff810d02775c27bada9de4cbb115ea664a1c7db29f56d1a21bf78ccf077", func := "loop.example/g00900/laws.FnExactTurnRoster", spec := "fnExactTurnRoster", apart := false, narrowed := true }
def FnExactTurnRosterUptoSaid : Prop := fnExactTurnRosterUptoRow.holds Try.pinned (OpenSpec.upto fnExactTurnRosterSpec)

/-- 'laws.FnExactKeepsRules', WHERE WHAT IT READS IS OF BULK AT MOST 1048576: true; the input reads as it did. -/
def fnExactKeepsRulesUptoRow : OpenClaim := { program := "ythoappgpkelakaa", sum := "55687ff810d02775c27bada9de4cbb115ea664a1c7db29f56d1a21bf78ccf077", func := "loop.example/g00900/laws.FnExactKeepsRules", spec := "fnExactKeepsRules", apart := false, narrowed := true }
def FnExactKeepsRulesUptoSaid : Prop := fnExactKeepsRulesUptoRow.holds Try.pinned (OpenSpec.upto fnExactKeepsRulesSpec)

end Rows
end Go.Proofs.Ythoappgpkelakaa
