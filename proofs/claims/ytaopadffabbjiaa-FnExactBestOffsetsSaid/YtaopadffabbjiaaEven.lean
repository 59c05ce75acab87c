/-
  Even times: what both functions return, and the statement's call.
-/
import Derived.Test.YtaopadffabbjiaaInts
namespace Go.Proofs.Ytaopadffabbjiaa
open Go Go.RowKit
set_option linter.unusedVariables false
set_option maxRecDepth 100000
theorem infoInt : (Try.prog.info? 3).map (fun i => (i.zero, i.size, i.bytes)) = some (some (.int .i64 0), 1, 8) := by kernel_rfl
def evenAt (count period i : Int) : Int := i * period / count
def evenUpto (k count : Nat) (period : Int) : List Int := (List.range k).map fun (i : Nat) => evenAt count period i
theorem evenUpto_succ (k count : Nat) (period : Int) : evenUpto (k + 1) count period = evenUpto k count period ++ [evenAt count period k] := by simp [evenUpto, List.range_succ]
def okEven (count period : Int) : Bool := inB period 1 60 && inB count 1 period
theorem even_i64 {count period : Int} {i : Nat} (h1 : 1 ≤ count) (h2 : count ≤ 60) (h3 : 1 ≤ period) (h4 : period ≤ 60) (hi : (i : Int) ≤ 60) : 0 ≤ (i : Int) * period ∧ (i : Int) * period ≤ 3600 ∧ I64 (evenAt count period i) := by
  have a : 0 ≤ (i : Int) * period := Int.mul_nonneg (by omega) (by omega)
  have b : (i : Int) * period ≤ 60 * 60 := Int.mul_le_mul hi h4 (by omega) (by omega)
  refine ⟨a, by omega, ?_⟩
  unfold evenAt I64
  have c := Int.ediv_nonneg a (by omega : 0 ≤ count)
  have d : (i : Int) * period / count ≤ (i : Int) * period := Int.ediv_le_self _ a
  omega
def evenRes (count period : Int) : List Int × Bool := if okEven count period then (evenUpto count.toNat count.toNat period, true) else ([], false)
end Go.Proofs.Ytaopadffabbjiaa
