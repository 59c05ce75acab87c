/-
  No cell of these rows narrows 'for every input' (looked for: loops, veiled, ifaces, maps, wideKeys, modest, calm, conditions, laid).
  DERIVED. THE GIVEN ROWS OF THIS SEAT. 9 by the template 'for every input the law returns true; each argument reads behind the call as it read before'; 0 by the template 'total and deterministic' (their statements: YthibhehnakikpaaGreatTotals.lean).
  GIVEN WITH THE SEED: the statements are not yours to turn. If you find one false, say at which input.
  Laid BY PROGRAM, IN A SANDBOX (cutbox-rows.mjs): the forced cells as the released guide's own fill.sh prints them over the translation 8d26da8cd75803e1… (all of the seat's roots in one cut). By AI agents, Wed Nov 11 2026. No macro, syntax, notation, axiom, sorry.
-/
import Derived.Test.YthibhehnakikpaaGreatChecked
import GoSem.Claim
import GoSem.ClaimJoined
import GoSem.ClaimMapViews
import Derived.JoinedTies
import Derived.KernelRfl
namespace Go.Proofs.YthibhehnakikpaaGreat
/- THE CELL 'sum', in the pinned program and in every row, IS THE sha256 OF THE DUMP (.gsa) THAT YthibhehnakikpaaGreatProg.lean LOADS. Nothing in Lean hashes anything: it is a label: what it is worth is what the hold of that sum in a sandbox is worth. -/
noncomputable def Tryz.pinned : Pinned := { name := "ythibhehnakikpaagreat", sum := "8d26da8cd75803e16e4d8048585da0e9ceb9b3d05dc6603c26d0ecc0ee3d08a1", checked := Tryz.checked }
namespace Rows
def none {H : Type} : Left H := { results := [], args := [] }

/-- 'laws.FnExactTotalPaid': WHATEVER THE INPUT: true; the input reads as it did. -/
def fnExactTotalPaidSpec : ChangeSpec := { name := "fnExactTotalPaid", fn := fun _ => fun
  | [d1, d2, d3, d4, d5] => { results := [.lit (.bool true)], args := [d1, d2, d3, d4, d5] }
  | _ => none }
def fnExactTotalPaidRow : OpenClaim := { program := "ythibhehnakikpaagreat", sum := "8d26da8cd75803e16e4d8048585da0e9ceb9b3d05dc6603c26d0ecc0ee3d08a1", func := "loop.example/g00900/laws.FnExactTotalPaid", spec := "fnExactTotalPaid", unfollowed := true, recurses := true, apart := false }
def FnExactTotalPaidSaid : Prop := fnExactTotalPaidRow.holds Tryz.pinned (OpenSpec.ofChange fnExactTotalPaidSpec)

/-- ITS FALSE NEIGHBOUR: 'it returns false'. Refute it at one input. -/
def fnExactTotalPaidWrong : ChangeSpec := { name := "fnExactTotalPaid", fn := fun _ => fun
  | [d1, d2, d3, d4, d5] => { results := [.lit (.bool false)], args := [d1, d2, d3, d4, d5] }
  | _ => none }
def FnExactTotalPaidWrongFalsely : Prop := fnExactTotalPaidRow.holds Tryz.pinned (OpenSpec.ofChange fnExactTotalPaidWrong)

/-- 'laws.FnExactPiecesFrom': WHATEVER THE INPUT: true; the input reads as it did. -/
def fnExactPiecesFromSpec : ChangeSpec := { name := "fnExactPiecesFrom", fn := fun _ => fun
  | [d1, d2, d3, d4, d5] => { results := [.lit (.bool true)], args := [d1, d2, d3, d4, d5] }
  | _ => none }
def fnExactPiecesFromRow : OpenClaim := { program := "ythibhehnakikpaagreat", sum := "8d26da8cd75803e16e4d8048585da0e9ceb9b3d05dc6603c26d0ecc0ee3d08a1", func := "loop.example/g00900/laws.FnExactPiecesFrom", spec := "fnExactPiecesFrom", unfollowed := true, recurses := true, apart := false }
def FnExactPiecesFromSaid : Prop := fnExactPiecesFromRow.holds Tryz.pinned (OpenSpec.ofChange fnExactPiecesFromSpec)

/-- ITS FALSE NEIGHBOUR: 'it returns false'. Refute it at one input. -/
def fnExactPiecesFromWrong : ChangeSpec := { name := "fnExactPiecesFrom", fn := fun _ => fun
  | [d1, d2, d3, d4, d5] => { results := [.lit (.bool false)], args := [d1, d2, d3, d4, d5] }
  | _ => none }
def FnExactPiecesFromWrongFalsely : Prop := fnExactPiecesFromRow.holds Tryz.pinned (OpenSpec.ofChange fnExactPiecesFromWrong)

/-- 'laws.FnExactCanCombine': WHATEVER THE INPUT: true; the input reads as it did. -/
def fnExactCanCombineSpec : ChangeSpec := { name := "fnExactCanCombine", fn := fun _ => fun
  | [d1, d2, d3, d4, d5, d6] => { results := [.lit (.bool true)], args := [d1, d2, d3, d4, d5, d6] }
  | _ => none }
def fnExactCanCombineRow : OpenClaim := { program := "ythibhehnakikpaagreat", sum := "8d26da8cd75803e16e4d8048585da0e9ceb9b3d05dc6603c26d0ecc0ee3d08a1", func := "loop.example/g00900/laws.FnExactCanCombine", spec := "fnExactCanCombine", unfollowed := true, recurses := true, apart := false }
def FnExactCanCombineSaid : Prop := fnExactCanCombineRow.holds Tryz.pinned (OpenSpec.ofChange fnExactCanCombineSpec)

/-- ITS FALSE NEIGHBOUR: 'it returns false'. Refute it at one input. -/
def fnExactCanCombineWrong : ChangeSpec := { name := "fnExactCanCombine", fn := fun _ => fun
  | [d1, d2, d3, d4, d5, d6] => { results := [.lit (.bool false)], args := [d1, d2, d3, d4, d5, d6] }
  | _ => none }
def FnExactCanCombineWrongFalsely : Prop := fnExactCanCombineRow.holds Tryz.pinned (OpenSpec.ofChange fnExactCanCombineWrong)

/-- 'laws.FnExactBrokenRule': WHATEVER THE INPUT: true; the input reads as it did. -/
def fnExactBrokenRuleSpec : ChangeSpec := { name := "fnExactBrokenRule", fn := fun _ => fun
  | [d1, d2, d3, d4, d5] => { results := [.lit (.bool true)], args := [d1, d2, d3, d4, d5] }
  | _ => none }
def fnExactBrokenRuleRow : OpenClaim := { program := "ythibhehnakikpaagreat", sum := "8d26da8cd75803e16e4d8048585da0e9ceb9b3d05dc6603c26d0ecc0ee3d08a1", func := "loop.example/g00900/laws.FnExactBrokenRule", spec := "fnExactBrokenRule", unfollowed := true, recurses := true, apart := false }
def FnExactBrokenRuleSaid : Prop := fnExactBrokenRuleRow.holds Tryz.pinned (OpenSpec.ofChange fnExactBrokenRuleSpec)

/-- ITS FALSE NEIGHBOUR: 'it returns false'. Refute it at one input. -/
def fnExactBrokenRuleWrong : ChangeSpec := { name := "fnExactBrokenRule", fn := fun _ => fun
  | [d1, d2, d3, d4, d5] => { results := [.lit (.bool false)], args := [d1, d2, d3, d4, d5] }
  | _ => none }
def FnExactBrokenRuleWrongFalsely : Prop := fnExactBrokenRuleRow.holds Tryz.pinned (OpenSpec.ofChange fnExactBrokenRuleWrong)

/-- 'laws.FnExactDutyLength': WHATEVER THE INPUT: true; the input reads as it did. -/
def fnExactDutyLengthSpec : ChangeSpec := { name := "fnExactDutyLength", fn := fun _ => fun
  | [d1, d2, d3, d4, d5] => { results := [.lit (.bool true)], args := [d1, d2, d3, d4, d5] }
  | _ => none }
def fnExactDutyLengthRow : OpenClaim := { program := "ythibhehnakikpaagreat", sum := "8d26da8cd75803e16e4d8048585da0e9ceb9b3d05dc6603c26d0ecc0ee3d08a1", func := "loop.example/g00900/laws.FnExactDutyLength", spec := "fnExactDutyLength", unfollowed := true, recurses := true, apart := false }
def FnExactDutyLengthSaid : Prop := fnExactDutyLengthRow.holds Tryz.pinned (OpenSpec.ofChange fnExactDutyLengthSpec)

/-- ITS FALSE NEIGHBOUR: 'it returns false'. Refute it at one input. -/
def fnExactDutyLengthWrong : ChangeSpec := { name := "fnExactDutyLength", fn := fun _ => fun
  | [d1, d2, d3, d4, d5] => { results := [.lit (.bool false)], args := [d1, d2, d3, d4, d5] }
  | _ => none }
def FnExactDutyLengthWrongFalsely : Prop := fnExactDutyLengthRow.holds Tryz.pinned (OpenSpec.ofChange fnExactDutyLengthWrong)

/-- 'laws.FnExactPaidMinutes': WHATEVER THE INPUT: true; the input reads as it did. -/
def fnExactPaidMinutesSpec : ChangeSpec := { name := "fnExactPaidMinutes", fn := fun _ => fun
  | [d1, d2, d3, d4, d5] => { results := [.lit (.bool true)], args := [d1, d2, d3, d4, d5] }
  | _ => none }
def fnExactPaidMinutesRow : OpenClaim := { program := "ythibhehnakikpaagreat", sum := "8d26da8cd75803e16e4d8048585da0e9ceb9b3d05dc6603c26d0ecc0ee3d08a1", func := "loop.example/g00900/laws.FnExactPaidMinutes", spec := "fnExactPaidMinutes", unfollowed := true, recurses := true, apart := false }
def FnExactPaidMinutesSaid : Prop := fnExactPaidMinutesRow.holds Tryz.pinned (OpenSpec.ofChange fnExactPaidMinutesSpec)

/-- ITS FALSE NEIGHBOUR: 'it returns false'. Refute it at one input. -/
def fnExactPaidMinutesWrong : ChangeSpec := { name := "fnExactPaidMinutes", fn := fun _ => fun
  | [d1, d2, d3, d4, d5] => { results := [.lit (.bool false)], args := [d1, d2, d3, d4, d5] }
  | _ => none }
def FnExactPaidMinutesWrongFalsely : Prop := fnExactPaidMinutesRow.holds Tryz.pinned (OpenSpec.ofChange fnExactPaidMinutesWrong)

/-- 'laws.FnExactIsCover': WHATEVER THE INPUT: true; the input reads as it did. -/
def fnExactIsCoverSpec : ChangeSpec := { name := "fnExactIsCover", fn := fun _ => fun
  | [d1, d2, d3, d4, d5] => { results := [.lit (.bool true)], args := [d1, d2, d3, d4, d5] }
  | _ => none }
def fnExactIsCoverRow : OpenClaim := { program := "ythibhehnakikpaagreat", sum := "8d26da8cd75803e16e4d8048585da0e9ceb9b3d05dc6603c26d0ecc0ee3d08a1", func := "loop.example/g00900/laws.FnExactIsCover", spec := "fnExactIsCover", unfollowed := true, recurses := true, apart := false }
def FnExactIsCoverSaid : Prop := fnExactIsCoverRow.holds Tryz.pinned (OpenSpec.ofChange fnExactIsCoverSpec)

/-- ITS FALSE NEIGHBOUR: 'it returns false'. Refute it at one input. -/
def fnExactIsCoverWrong : ChangeSpec := { name := "fnExactIsCover", fn := fun _ => fun
  | [d1, d2, d3, d4, d5] => { results := [.lit (.bool false)], args := [d1, d2, d3, d4, d5] }
  | _ => none }
def FnExactIsCoverWrongFalsely : Prop := fnExactIsCoverRow.holds Tryz.pinned (OpenSpec.ofChange fnExactIsCoverWrong)

/-- 'laws.FnExactFreeMinutes': WHATEVER THE INPUT: true; the input reads as it did. -/
def fnExactFreeMinutesSpec : ChangeSpec := { name := "fnExactFreeMinutes", fn := fun _ => fun
  | [d1, d2, d3, d4, d5] => { results := [.lit (.bool true)], args := [d1, d2, d3, d4, d5] }
  | _ => none }
def fnExactFreeMinutesRow : OpenClaim := { program := "ythibhehnakikpaagreat", sum := "8d26da8cd75803e16e4d8048585da0e9ceb9b3d05dc6603c26d0ecc0ee3d08a1", func := "loop.example/g00900/laws.FnExactFreeMinutes", spec := "fnExactFreeMinutes", unfollowed := true, recurses := true, apart := false }
def FnExactFreeMinutesSaid : Prop := fnExactFreeMinutesRow.holds Tryz.pinned (OpenSpec.ofChange fnExactFreeMinutesSpec)

/-- ITS FALSE NEIGHBOUR: 'it returns false'. Refute it at one input. -/
def fnExactFreeMinutesWrong : ChangeSpec := { name := "fnExactFreeMinutes", fn := fun _ => fun
  | [d1, d2, d3, d4, d5] => { results := [.lit (.bool false)], args := [d1, d2, d3, d4, d5] }
  | _ => none }
def FnExactFreeMinutesWrongFalsely : Prop := fnExactFreeMinutesRow.holds Tryz.pinned (OpenSpec.ofChange fnExactFreeMinutesWrong)

/-- 'laws.FnExactDutyOf': WHATEVER THE INPUT: true; the input reads as it did. -/
def fnExactDutyOfSpec : ChangeSpec := { name := "fnExactDutyOf", fn := fun _ => fun
  | [d1, d2, d3, d4, d5, d6] => { results := [.lit (.bool true)], args := [d1, d2, d3, d4, d5, d6] }
  | _ => none }
def fnExactDutyOfRow : OpenClaim := { program := "ythibhehnakikpaagreat", sum := "8d26da8cd75803e16e4d8048585da0e9ceb9b3d05dc6603c26d0ecc0ee3d08a1", func := "loop.example/g00900/laws.FnExactDutyOf", spec := "fnExactDutyOf", unfollowed := true, recurses := true, apart := false }
def FnExactDutyOfSaid : Prop := fnExactDutyOfRow.holds Tryz.pinned (OpenSpec.ofChange fnExactDutyOfSpec)

/-- ITS FALSE NEIGHBOUR: 'it returns false'. Refute it at one input. -/
def fnExactDutyOfWrong : ChangeSpec := { name := "fnExactDutyOf", fn := fun _ => fun
  | [d1, d2, d3, d4, d5, d6] => { results := [.lit (.bool false)], args := [d1, d2, d3, d4, d5, d6] }
  | _ => none }
def FnExactDutyOfWrongFalsely : Prop := fnExactDutyOfRow.holds Tryz.pinned (OpenSpec.ofChange fnExactDutyOfWrong)

/- THE SECOND FORM. 'bulk': how many values and letters a reading holds, each counted each time it is reached (what is shared counts as often as it is met; a slice's spare places count too). A statement '..UptoSaid' is the law's where the arguments, and the package variables that the reading takes, are together of bulk at most 1048576: NARROWER than '..Said'. Prove '..Said' where nothing that the law and all that it calls make is longer than what came in: it says more and counts as full. Else prove '..UptoSaid'. A law counts once. -/
mutual
def uptoBulk {H : Type} : DataW H → Nat
  | .lit (.string bytes) => bytes.length + 1
  | .lit _ => 1
  | .nil => 1
  | .ptr d => uptoBulk d + 1
  | .slice elems spare => uptoBulkAll elems + uptoBulkAll spare + 1
  | .agg parts => uptoBulkAll parts + 1
  | .iface _ d => uptoBulk d + 1
  | .map entries => uptoBulkEntries entries + 1
  | .held _ => 1
def uptoBulkAll {H : Type} : List (DataW H) → Nat
  | [] => 0
  | d :: r => uptoBulk d + uptoBulkAll r
def uptoBulkEntries {H : Type} : List (Lit × DataW H) → Nat
  | [] => 0
  | x :: r => uptoBulkEntry x + uptoBulkEntries r
def uptoBulkEntry {H : Type} : Lit × DataW H → Nat
  | (.string bytes, d) => bytes.length + uptoBulk d + 1
  | (_, d) => uptoBulk d + 1
 end
def uptoSmall : (H : Type) → List (DataW H) → Bool := fun _ ds => decide (uptoBulkAll ds ≤ 1048576)
def OpenSpec.upto (s : _root_.Go.ChangeSpec) : _root_.Go.OpenSpec := { _root_.Go.OpenSpec.ofChange s with cond := some uptoSmall }

/-- 'laws.FnExactTotalPaid', WHERE WHAT IT READS IS OF BULK AT MOST 1048576: true; the input reads as it did. -/
def fnExactTotalPaidUptoRow : OpenClaim := { program := "ythibhehnakikpaagreat", sum := "8d26da8cd75803e16e4d8048585da0e9ceb9b3d05dc6603c26d0ecc0ee3d08a1", func := "loop.example/g00900/laws.FnExactTotalPaid", spec := "fnExactTotalPaid", unfollowed := true, recurses := true, apart := false, narrowed := true }
def FnExactTotalPaidUptoSaid : Prop := fnExactTotalPaidUptoRow.holds Tryz.pinned (OpenSpec.upto fnExactTotalPaidSpec)

/-- 'laws.FnExactPiecesFrom', WHERE WHAT IT READS IS OF BULK AT MOST 1048576: true; the input reads as it did. -/
def fnExactPiecesFromUptoRow : OpenClaim := { program := "ythibhehnakikpaagreat", sum := "8d26da8cd75803e16e4d8048585da0e9ceb9b3d05dc6603c26d0ecc0ee3d08a1", func := "loop.example/g00900/laws.FnExactPiecesFrom", spec := "fnExactPiecesFrom", unfollowed := true, recurses := true, apart := false, narrowed := true }
def FnExactPiecesFromUptoSaid : Prop := fnExactPiecesFromUptoRow.holds Tryz.pinned (OpenSpec.upto fnExactPiecesFromSpec)

/-- 'laws.FnExactCanCombine', WHERE WHAT IT READS IS OF BULK AT MOST 1048576: true; the input reads as it did. -/
def fnExactCanCombineUptoRow : OpenClaim := { program := "ythibhehnakikpaagreat", sum := "8d26da8cd75803e16e4d8048585da0e9ceb9b3d05dc6603c26d0ecc0ee3d08a1", func := "loop.example/g00900/laws.FnExactCanCombine", spec := "fnExactCanCombine", unfollowed := true, recurses := true, apart := false, narrowed := true }
def FnExactCanCombineUptoSaid : Prop := fnExactCanCombineUptoRow.holds Tryz.pinned (OpenSpec.upto fnExactCanCombineSpec)

/-- 'laws.FnExactBrokenRule', WHERE WHAT IT READS IS OF BULK AT MOST 1048576: true; the input reads as it did. -/
def fnExactBrokenRuleUptoRow : OpenClaim := { program := "ythibhehnakikpaagreat", sum := "8d26da8cd75803e16e4d8048585da0e9ceb9b3d05dc6603c26d0ecc0ee3d08a1", func := "loop.example/g00900/laws.FnExactBrokenRule", spec := "fnExactBrokenRule", unfollowed := true, recurses := true, apart := false, narrowed := true }
def FnExactBrokenRuleUptoSaid : Prop := fnExactBrokenRuleUptoRow.holds Tryz.pinned (OpenSpec.upto fnExactBrokenRuleSpec)

/-- 'laws.FnExactDutyLength', WHERE WHAT IT READS IS OF BULK AT MOST 1048576: true; the input reads as it did. -/
def fnExactDutyLengthUptoRow : OpenClaim := { program := "ythibhehnakikpaagreat", sum := "8d26da8cd75803e16e4d8048585da0e9ceb9b3d05dc6603c26d0ecc0ee3d08a1", func := "loop.example/g00900/laws.FnExactDutyLength", spec := "fnExactDutyLength", unfollowed := true, recurses := true, apart := false, narrowed := true }
def FnExactDutyLengthUptoSaid : Prop := fnExactDutyLengthUptoRow.holds Tryz.pinned (OpenSpec.upto fnExactDutyLengthSpec)

/-- 'laws.FnExactPaidMinutes', WHERE WHAT IT READS IS OF BULK AT MOST 1048576: true; the input reads as it did. -/
def fnExactPaidMinutesUptoRow : OpenClaim := { program := "ythibhehnakikpaagreat", sum := "8d26da8cd75803e16e4d8048585da0e9ceb9b3d05dc6603c26d0ecc0ee3d08a1", func := "loop.example/g00900/laws.FnExactPaidMinutes", spec := "fnExactPaidMinutes", unfollowed := true, recurses := true, apart := false, narrowed := true }
def FnExactPaidMinutesUptoSaid : Prop := fnExactPaidMinutesUptoRow.holds Tryz.pinned (OpenSpec.upto fnExactPaidMinutesSpec)

/-- 'laws.FnExactIsCover', WHERE WHAT IT READS IS OF BULK AT MOST 1048576: true; the input reads as it did. -/
def fnExactIsCoverUptoRow : OpenClaim := { program := "ythibhehnakikpaagreat", sum := "8d26da8cd75803e16e4d8048585da0e9ceb9b3d05dc6603c26d0ecc0ee3d08a1", func := "loop.example/g00900/laws.FnExactIsCover", spec := "fnExactIsCover", unfollowed := true, recurses := true, apart := false, narrowed := true }
def FnExactIsCoverUptoSaid : Prop := fnExactIsCoverUptoRow.holds Tryz.pinned (OpenSpec.upto fnExactIsCoverSpec)

/-- 'laws.FnExactFreeMinutes', WHERE WHAT IT READS IS OF BULK AT MOST 1048576: true; the input reads as it did. -/
def fnExactFreeMinutesUptoRow : OpenClaim := { program := "ythibhehnakikpaagreat", sum := "8d26da8cd75803e16e4d8048585da0e9ceb9b3d05dc6603c26d0ecc0ee3d08a1", func := "loop.example/g00900/laws.FnExactFreeMinutes", spec := "fnExactFreeMinutes", unfollowed := true, recurses := true, apart := false, narrowed := true }
def FnExactFreeMinutesUptoSaid : Prop := fnExactFreeMinutesUptoRow.holds Tryz.pinned (OpenSpec.upto fnExactFreeMinutesSpec)

/-- 'laws.FnExactDutyOf', WHERE WHAT IT READS IS OF BULK AT MOST 1048576: true; the input reads as it did. -/
def fnExactDutyOfUptoRow : OpenClaim := { program := "ythibhehnakikpaagreat", sum := "8d26da8cd75803e16e4d8048585da0e9ceb9b3d05dc6603c26d0ecc0ee3d08a1", func := "loop.example/g00900/laws.FnExactDutyOf", spec := "fnExactDutyOf", unfollowed := true, recurses := true, apart := false, narrowed := true }
def FnExactDutyOfUptoSaid : Prop := fnExactDutyOfUptoRow.holds Tryz.pinned (OpenSpec.upto fnExactDutyOfSpec)

end Rows
end Go.Proofs.YthibhehnakikpaaGreat
