/-
  Networks: when one is valid. Plain functions.
-/
import Derived.Test.YtaopadffabbjiaaPure
import Derived.Test.YtaopadffabbjiaaHStringS
namespace Go.Proofs.Ytaopadffabbjiaa
open Go Go.RowKit
set_option linter.unusedVariables false
set_option maxRecDepth 100000
def isLow (b : UInt8) : Bool := decide (97 ≤ (b.toNat : Int) ∧ (b.toNat : Int) ≤ 122)
def isDig (b : UInt8) : Bool := decide (48 ≤ (b.toNat : Int) ∧ (b.toNat : Int) ≤ 57)
def okChar (i : Nat) (b : UInt8) : Bool := isLow b || (decide (0 < i) && isDig b)
def okName (s : ByteArray) : Bool := decide (1 ≤ s.size ∧ s.size ≤ 8) && allFrom okChar s.data.toList 0
def nameIs (s : ByteArray) (t : ByteArray) : Bool := decide (t = s)
def intIs (s : Int) (t : Int) : Bool := decide (t = s)
def nameAt (l : List ByteArray) (i : Nat) (s : ByteArray) : Bool := okName s && decide (idx (nameIs s) l = i)
def okNames (l : List ByteArray) : Bool := allFrom (nameAt l) l 0
def stopAt (ns : Nat) (l : List Int) (i : Nat) (s : Int) : Bool := inB s 0 ((ns : Int) - 1) && decide (idx (intIs s) l = i)
def okLine (ns : Nat) (x : Line) : Bool := inB x.Stops.length 2 6 && decide (x.Runs.length + 1 = x.Stops.length) && allFrom (stopAt ns x.Stops) x.Stops 0 && x.Runs.all (fun r => inB r 1 60)
def okNetwork (n : Network) : Bool := inB n.Stops.length 2 8 && inB n.Lines.length 1 5 && okNames n.Stops && okNames (n.Lines.map Line.Name) && n.Lines.all (okLine n.Stops.length)
theorem bytes_at {s : ByteArray} {k : Nat} (h : k < s.size) : s.data.toList[k]? = some s[k] := by
  rw [List.getElem?_eq_getElem (by simpa using h)]; rfl
end Go.Proofs.Ytaopadffabbjiaa
