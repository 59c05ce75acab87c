/-
  No cell of these rows narrows 'for every input' (looked for: loops, veiled, ifaces, maps, wideKeys, modest, calm, conditions, laid).
  DERIVED. THE GIVEN ROWS OF THIS SEAT. 5 by the template 'for every input the law returns true; each argument reads behind the call as it read before'; 0 by the template 'total and deterministic' (their statements: YthibhehnakikpaaTotals.lean).
  GIVEN WITH THE SEED: the statements are not yours to turn. If you find one false, say at which input.
  Laid BY PROGRAM, IN A SANDBOX (cutbox-rows.mjs): the forced cells as the released guide's own fill.sh prints them over the translation 2e43eb8c1f862663… (all of the seat's roots in one cut). By AI agents, Wed Nov 11 2026. No macro, syntax, notation, axiom, sorry.
-/
import Derived.Test.YthibhehnakikpaaChecked
import GoSem.Claim
import GoSem.ClaimJoined
import GoSem.ClaimMapViews
import Derived.JoinedTies
import Derived.KernelRfl
namespace Go.Proofs.Ythibhehnakikpaa
/- THE CELL 'sum', in the pinned program and in every row, IS THE sha256 OF THE DUMP (.gsa) THAT YthibhehnakikpaaProg.lean LOADS. Nothing in Lean hashes anything: it is a label: what it is worth is what the hold of that sum in a sandbox is worth. -/
noncomputable def Try.pinned : Pinned := { name := "ythibhehnakikpaa", sum := "2e43eb8c1f86266347bf6ac91048f4af8e958b706532abab8b98f68e9b34de0b", checked := Try.checked }
namespace Rows
def none {H : Type} : Left H := { results := [], args := [] }

/-- 'laws.FnExactIsPiece': WHATEVER THE INPUT: true; the input reads as it did. -/
def fnExactIsPieceSpec : ChangeSpec := { name := "fnExactIsPiece", fn := fun _ => fun
  | [d1, d2, d3, d4] => { results := [.lit (.bool true)], args := [d1, d2, d3, d4] }
  | _ => none }
def fnExactIsPieceRow : OpenClaim := { program := "ythibhehnakikpaa", sum := "2e43eb8c1f86266347bf6ac91048f4af8e958b706532abab8b98f68e9b34de0b", func := "loop.example/g00900/laws.FnExactIsPiece", spec := "fnExactIsPiece", unfollowed := true, recurses := true, apart := false }
def FnExactIsPieceSaid : Prop := fnExactIsPieceRow.holds Try.pinned (OpenSpec.ofChange fnExactIsPieceSpec)

/-- ITS FALSE NEIGHBOUR: 'it returns false'. Refute it at one input. -/
def fnExactIsPieceWrong : ChangeSpec := { name := "fnExactIsPiece", fn := fun _ => fun
  | [d1, d2, d3, d4] => { results := [.lit (.bool false)], args := [d1, d2, d3, d4] }
  | _ => none }
def FnExactIsPieceWrongFalsely : Prop := fnExactIsPieceRow.holds Try.pinned (OpenSpec.ofChange fnExactIsPieceWrong)

/-- 'laws.FnExactSlackOf': WHATEVER THE INPUT: true; the input reads as it did. -/
def fnExactSlackOfSpec : ChangeSpec := { name := "fnExactSlackOf", fn := fun _ => fun
  | [d1, d2, d3] => { results := [.lit (.bool true)], args := [d1, d2, d3] }
  | _ => none }
def fnExactSlackOfRow : OpenClaim := { program := "ythibhehnakikpaa", sum := "2e43eb8c1f86266347bf6ac91048f4af8e958b706532abab8b98f68e9b34de0b", func := "loop.example/g00900/laws.FnExactSlackOf", spec := "fnExactSlackOf", unfollowed := true, recurses := true, apart := false }
def FnExactSlackOfSaid : Prop := fnExactSlackOfRow.holds Try.pinned (OpenSpec.ofChange fnExactSlackOfSpec)

/-- ITS FALSE NEIGHBOUR: 'it returns false'. Refute it at one input. -/
def fnExactSlackOfWrong : ChangeSpec := { name := "fnExactSlackOf", fn := fun _ => fun
  | [d1, d2, d3] => { results := [.lit (.bool false)], args := [d1, d2, d3] }
  | _ => none }
def FnExactSlackOfWrongFalsely : Prop := fnExactSlackOfRow.holds Try.pinned (OpenSpec.ofChange fnExactSlackOfWrong)

/-- 'laws.FnExactBlockSpans': WHATEVER THE INPUT: true; the input reads as it did. -/
def fnExactBlockSpansSpec : ChangeSpec := { name := "fnExactBlockSpans", fn := fun _ => fun
  | [d1, d2, d3] => { results := [.lit (.bool true)], args := [d1, d2, d3] }
  | _ => none }
def fnExactBlockSpansRow : OpenClaim := { program := "ythibhehnakikpaa", sum := "2e43eb8c1f86266347bf6ac91048f4af8e958b706532abab8b98f68e9b34de0b", func := "loop.example/g00900/laws.FnExactBlockSpans", spec := "fnExactBlockSpans", unfollowed := true, recurses := true, apart := false }
def FnExactBlockSpansSaid : Prop := fnExactBlockSpansRow.holds Try.pinned (OpenSpec.ofChange fnExactBlockSpansSpec)

/-- ITS FALSE NEIGHBOUR: 'it returns false'. Refute it at one input. -/
def fnExactBlockSpansWrong : ChangeSpec := { name := "fnExactBlockSpans", fn := fun _ => fun
  | [d1, d2, d3] => { results := [.lit (.bool false)], args := [d1, d2, d3] }
  | _ => none }
def FnExactBlockSpansWrongFalsely : Prop := fnExactBlockSpansRow.holds Try.pinned (OpenSpec.ofChange fnExactBlockSpansWrong)

/-- 'laws.FnExactCutPieces': WHATEVER THE INPUT: true; the input reads as it did. -/
def fnExactCutPiecesSpec : ChangeSpec := { name := "fnExactCutPieces", fn := fun _ => fun
  | [d1, d2, d3, d4] => { results := [.lit (.bool true)], args := [d1, d2, d3, d4] }
  | _ => none }
def fnExactCutPiecesRow : OpenClaim := { program := "ythibhehnakikpaa", sum := "2e43eb8c1f86266347bf6ac91048f4af8e958b706532abab8b98f68e9b34de0b", func := "loop.example/g00900/laws.FnExactCutPieces", spec := "fnExactCutPieces", unfollowed := true, recurses := true, apart := false }
def FnExactCutPiecesSaid : Prop := fnExactCutPiecesRow.holds Try.pinned (OpenSpec.ofChange fnExactCutPiecesSpec)

/-- ITS FALSE NEIGHBOUR: 'it returns false'. Refute it at one input. -/
def fnExactCutPiecesWrong : ChangeSpec := { name := "fnExactCutPieces", fn := fun _ => fun
  | [d1, d2, d3, d4] => { results := [.lit (.bool false)], args := [d1, d2, d3, d4] }
  | _ => none }
def FnExactCutPiecesWrongFalsely : Prop := fnExactCutPiecesRow.holds Try.pinned (OpenSpec.ofChange fnExactCutPiecesWrong)

/-- 'laws.FnExactSwapTails': WHATEVER THE INPUT: true; the input reads as it did. -/
def fnExactSwapTailsSpec : ChangeSpec := { name := "fnExactSwapTails", fn := fun _ => fun
  | [d1, d2, d3, d4, d5] => { results := [.lit (.bool true)], args := [d1, d2, d3, d4, d5] }
  | _ => none }
def fnExactSwapTailsRow : OpenClaim := { program := "ythibhehnakikpaa", sum := "2e43eb8c1f86266347bf6ac91048f4af8e958b706532abab8b98f68e9b34de0b", func := "loop.example/g00900/laws.FnExactSwapTails", spec := "fnExactSwapTails", unfollowed := true, recurses := true, apart := false }
def FnExactSwapTailsSaid : Prop := fnExactSwapTailsRow.holds Try.pinned (OpenSpec.ofChange fnExactSwapTailsSpec)

/-- ITS FALSE NEIGHBOUR: 'it returns false'. Refute it at one input. -/
def fnExactSwapTailsWrong : ChangeSpec := { name := "fnExactSwapTails", fn := fun _ => fun
  | [d1, d2, d3, d4, d5] => { results := [.lit (.bool false)], args := [d1, d2, d3, d4, d5] }
  | _ => none }
def FnExactSwapTailsWrongFalsely : Prop := fnExactSwapTailsRow.holds Try.pinned (OpenSpec.ofChange fnExactSwapTailsWrong)

/- THE SECOND FORM. 'bulk': how many values and letters a reading holds, each counted each time it is reached (what is shared counts as often as it is met; a slice's spare places count too). A statement '..UptoSaid' is the law's where the arguments, and the package variables that the reading takes, are together of bulk at most 1048576: NARROWER than '..Said'. Prove '..Said' where nothing that the law and all that it calls make is longer than what came in: it says more and counts as full. Else prove '..UptoSaid'. A law counts once. -/
mutual
def uptoBulk {H : Type} : DataW H → Nat
  | .lit (.string bytes) => bytes.length + 1
  | .lit _ => 1
  | .nil => 1
  | .ptr d => uptoBulk d + 1
  | .slice elems spare => uptoBulkAll elems + uptoBulkAll spare + 1
  | .agg parts => uptoBulkAll parts + 1
  | .iface _ d => uptoBulk d + 1
  | .map entries => uptoBulkEntries entries + 1
  | .held _ => 1
def uptoBulkAll {H : Type} : List (DataW H) → Nat
  | [] => 0
  | d :: r => uptoBulk d + uptoBulkAll r
def uptoBulkEntries {H : Type} : List (Lit × DataW H) → Nat
  | [] => 0
  | x :: r => uptoBulkEntry x + uptoBulkEntries r
def uptoBulkEntry {H : Type} : Lit × DataW H → Nat
  | (.string bytes, d) => bytes.length + uptoBulk d + 1
  | (_, d) => uptoBulk d + 1
 end
def uptoSmall : (H : Type) → List (DataW H) → Bool := fun _ ds => decide (uptoBulkAll ds ≤ 1048576)
def OpenSpec.upto (s : _root_.Go.ChangeSpec) : _root_.Go.OpenSpec := { _root_.Go.OpenSpec.ofChange s with cond := some uptoSmall }

/-- 'laws.FnExactIsPiece', WHERE WHAT IT READS IS OF BULK AT MOST 1048576: true; the input reads as it did. -/
def fnExactIsPieceUptoRow : OpenClaim := { program := "ythibhehnakikpaa", sum := "2e43eb8c1f86266347bf6ac91048f4af8e958b706532abab8b98f68e9b34de0b", func := "loop.example/g00900/laws.FnExactIsPiece", spec := "fnExactIsPiece", unfollowed := true, recurses := true, apart := false, narrowed := true }
def FnExactIsPieceUptoSaid : Prop := fnExactIsPieceUptoRow.holds Try.pinned (OpenSpec.upto fnExactIsPieceSpec)

/-- 'laws.FnExactSlackOf', WHERE WHAT IT READS IS OF BULK AT MOST 1048576: true; the input reads as it did. -/
def fnExactSlackOfUptoRow : OpenClaim := { program := "ythibhehnakikpaa", sum := "2e43eb8c1f86266347bf6ac91048f4af8e958b706532abab8b98f68e9b34de0b", func := "loop.example/g00900/laws.FnExactSlackOf", spec := "fnExactSlackOf", unfollowed := true, recurses := true, apart := false, narrowed := true }
def FnExactSlackOfUptoSaid : Prop := fnExactSlackOfUptoRow.holds Try.pinned (OpenSpec.upto fnExactSlackOfSpec)

/-- 'laws.FnExactBlockSpans', WHERE WHAT IT READS IS OF BULK AT MOST 1048576: true; the input reads as it did. -/
def fnExactBlockSpansUptoRow : OpenClaim := { program := "ythibhehnakikpaa", sum := "2e43eb8c1f86266347bf6ac91048f4af8e958b706532abab8b98f68e9b34de0b", func := "loop.example/g00900/laws.FnExactBlockSpans", spec := "fnExactBlockSpans", unfollowed := true, recurses := true, apart := false, narrowed := true }
def FnExactBlockSpansUptoSaid : Prop := fnExactBlockSpansUptoRow.holds Try.pinned (OpenSpec.upto fnExactBlockSpansSpec)

/-- 'laws.FnExactCutPieces', WHERE WHAT IT READS IS OF BULK AT MOST 1048576: true; the input reads as it did. -/
def fnExactCutPiecesUptoRow : OpenClaim := { program := "ythibhehnakikpaa", sum := "2e43eb8c1f86266347bf6ac91048f4af8e958b706532abab8b98f68e9b34de0b", func := "loop.example/g00900/laws.FnExactCutPieces", spec := "fnExactCutPieces", unfollowed := true, recurses := true, apart := false, narrowed := true }
def FnExactCutPiecesUptoSaid : Prop := fnExactCutPiecesUptoRow.holds Try.pinned (OpenSpec.upto fnExactCutPiecesSpec)

/-- 'laws.FnExactSwapTails', WHERE WHAT IT READS IS OF BULK AT MOST 1048576: true; the input reads as it did. -/
def fnExactSwapTailsUptoRow : OpenClaim := { program := "ythibhehnakikpaa", sum := "2e43eb8c1f86266347bf6ac91048f4af8e958b706532abab8b98f68e9b34de0b", func := "loop.example/g00900/laws.FnExactSwapTails", spec := "fnExactSwapTails", unfollowed := true, recurses := true, apart := false, narrowed := true }
def FnExactSwapTailsUptoSaid : Prop := fnExactSwapTailsUptoRow.holds Try.pinned (OpenSpec.upto fnExactSwapTailsSpec)

end Rows
end Go.Proofs.Ythibhehnakikpaa
