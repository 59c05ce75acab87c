/-
  No cell of these rows narrows 'for every input' (looked for: loops, veiled, ifaces, maps, wideKeys, modest, calm, conditions, laid).
  DERIVED. THE GIVEN ROWS OF THIS SEAT. 2 by the template 'for every input the law returns true; each argument reads behind the call as it read before'; 0 by the template 'total and deterministic' (their statements: YtbkeccpjcmhhjaaGreatTotals.lean).
  GIVEN WITH THE SEED: the statements are not yours to turn. If you find one false, say at which input.
  Laid BY PROGRAM, IN A SANDBOX (cutbox-rows.mjs): the forced cells as the released guide's own fill.sh prints them over the translation ce70143a66dd44be… (all of the seat's roots in one cut). By AI agents, Wed Nov 11 2026. No macro, syntax, notation, axiom, sorry.
-/
import Derived.Test.YtbkeccpjcmhhjaaGreatChecked
import GoSem.Claim
import GoSem.ClaimJoined
import GoSem.ClaimMapViews
import Derived.JoinedTies
import Derived.KernelRfl
namespace Go.Proofs.YtbkeccpjcmhhjaaGreat
/- THE CELL 'sum', in the pinned program and in every row, IS THE sha256 OF THE DUMP (.gsa) THAT YtbkeccpjcmhhjaaGreatProg.lean LOADS. Nothing in Lean hashes anything: it is a label: what it is worth is what the hold of that sum in a sandbox is worth. -/
noncomputable def Tryz.pinned : Pinned := { name := "ytbkeccpjcmhhjaagreat", sum := "ce70143a66dd44be7a9e1a0af821ae5654e82bdc557fd7ec94f2aef8cf93c0e8", checked := Tryz.checked }
namespace Rows
def none {H : Type} : Left H := { results := [], args := [] }

/-- 'laws.FnExactWaitingMinutes': WHATEVER THE INPUT: true; the input reads as it did. -/
def fnExactWaitingMinutesSpec : ChangeSpec := { name := "fnExactWaitingMinutes", fn := fun _ => fun
  | [d1, d2, d3, d4, d5] => { results := [.lit (.bool true)], args := [d1, d2, d3, d4, d5] }
  | _ => none }
def fnExactWaitingMinutesRow : OpenClaim := { program := "ytbkeccpjcmhhjaagreat", sum := "ce70143a66dd44be7a9e1a0af821ae5654e82bdc557fd7ec94f2aef8cf93c0e8", func := "loop.example/g00900/laws.FnExactWaitingMinutes", spec := "fnExactWaitingMinutes", unfollowed := true, recurses := true, apart := false }
def FnExactWaitingMinutesSaid : Prop := fnExactWaitingMinutesRow.holds Tryz.pinned (OpenSpec.ofChange fnExactWaitingMinutesSpec)

/-- ITS FALSE NEIGHBOUR: 'it returns false'. Refute it at one input. -/
def fnExactWaitingMinutesWrong : ChangeSpec := { name := "fnExactWaitingMinutes", fn := fun _ => fun
  | [d1, d2, d3, d4, d5] => { results := [.lit (.bool false)], args := [d1, d2, d3, d4, d5] }
  | _ => none }
def FnExactWaitingMinutesWrongFalsely : Prop := fnExactWaitingMinutesRow.holds Tryz.pinned (OpenSpec.ofChange fnExactWaitingMinutesWrong)

/-- 'laws.FnExactTravelProfile': WHATEVER THE INPUT: true; the input reads as it did. -/
def fnExactTravelProfileSpec : ChangeSpec := { name := "fnExactTravelProfile", fn := fun _ => fun
  | [d1, d2, d3, d4] => { results := [.lit (.bool true)], args := [d1, d2, d3, d4] }
  | _ => none }
def fnExactTravelProfileRow : OpenClaim := { program := "ytbkeccpjcmhhjaagreat", sum := "ce70143a66dd44be7a9e1a0af821ae5654e82bdc557fd7ec94f2aef8cf93c0e8", func := "loop.example/g00900/laws.FnExactTravelProfile", spec := "fnExactTravelProfile", unfollowed := true, recurses := true, apart := false }
def FnExactTravelProfileSaid : Prop := fnExactTravelProfileRow.holds Tryz.pinned (OpenSpec.ofChange fnExactTravelProfileSpec)

/-- ITS FALSE NEIGHBOUR: 'it returns false'. Refute it at one input. -/
def fnExactTravelProfileWrong : ChangeSpec := { name := "fnExactTravelProfile", fn := fun _ => fun
  | [d1, d2, d3, d4] => { results := [.lit (.bool false)], args := [d1, d2, d3, d4] }
  | _ => none }
def FnExactTravelProfileWrongFalsely : Prop := fnExactTravelProfileRow.holds Tryz.pinned (OpenSpec.ofChange fnExactTravelProfileWrong)

/- THE SECOND FORM. 'bulk': how many values and letters a reading holds, each counted each time it is reached (what is shared counts as often as it is met; a slice's spare places count too). A statement '..UptoSaid' is the law's where the arguments, and the package variables that the reading takes, are together of bulk at most 1048576: NARROWER than '..Said'. Prove '..Said' where nothing that the law and all that it calls make is longer than what came in: it says more and counts as full. Else prove '..UptoSaid'. A law counts once. -/
mutual
def uptoBulk {H : Type} : DataW H → Nat
  | .lit (.string bytes) => bytes.length + 1
  | .lit _ => 1
  | .nil => 1
  | .ptr d => uptoBulk d + 1
  | .slice elems spare => uptoBulkAll elems + uptoBulkAll spare + 1
  | .agg parts => uptoBulkAll parts + 1
  | .iface _ d => uptoBulk d + 1
  | .map entries => uptoBulkEntries entries + 1
  | .held _ => 1
def uptoBulkAll {H : Type} : List (DataW H) → Nat
  | [] => 0
  | d :: r => uptoBulk d + uptoBulkAll r
def uptoBulkEntries {H : Type} : List (Lit × DataW H) → Nat
  | [] => 0
  | x :: r => uptoBulkEntry x + uptoBulkEntries r
def uptoBulkEntry {H : Type} : Lit × DataW H → Nat
  | (.string bytes, d) => bytes.length + uptoBulk d + 1
  | (_, d) => uptoBulk d + 1
 end
def uptoSmall : (H : Type) → List (DataW H) → Bool := fun _ ds => decide (uptoBulkAll ds ≤ 1048576)
def OpenSpec.upto (s : _root_.Go.ChangeSpec) : _root_.Go.OpenSpec := { _root_.Go.OpenSpec.ofChange s with cond := some uptoSmall }

/-- 'laws.FnExactWaitingMinutes', WHERE WHAT IT READS IS OF BULK AT MOST 1048576: true; the input reads as it did. -/
def fnExactWaitingMinutesUptoRow : OpenClaim := { program := "ytbkeccpjcmhhjaagreat", sum := "ce70143a66dd44be7a9e1a0af821ae5654e82bdc557fd7ec94f2aef8cf93c0e8", func := "loop.example/g00900/laws.FnExactWaitingMinutes", spec := "fnExactWaitingMinutes", unfollowed := true, recurses := true, apart := false, narrowed := true }
def FnExactWaitingMinutesUptoSaid : Prop := fnExactWaitingMinutesUptoRow.holds Tryz.pinned (OpenSpec.upto fnExactWaitingMinutesSpec)

/-- 'laws.FnExactTravelProfile', WHERE WHAT IT READS IS OF BULK AT MOST 1048576: true; the input reads as it did. -/
def fnExactTravelProfileUptoRow : OpenClaim := { program := "ytbkeccpjcmhhjaagreat", sum := "ce70143a66dd44be7a9e1a0af821ae5654e82bdc557fd7ec94f2aef8cf93c0e8", func := "loop.example/g00900/laws.FnExactTravelProfile", spec := "fnExactTravelProfile", unfollowed := true, recurses := true, apart := false, narrowed := true }
def FnExactTravelProfileUptoSaid : Prop := fnExactTravelProfileUptoRow.holds Tryz.pinned (OpenSpec.upto fnExactTravelProfileSpec)

end Rows
end Go.Proofs.YtbkeccpjcmhhjaaGreat
