/-
  The rules of duties: what the calls return, for all arguments.
-/
import Derived.Test.YtbkeccpjcmhhjaaNum
namespace Go.Proofs.Ytbkeccpjcmhhjaa
open Go Go.RowKit
set_option linter.unusedVariables false
set_option maxRecDepth 100000
def okRules (t : Rules) : Bool := inB t.SignOn 0 900 && inB t.SignOff 0 900 && inB t.MaxDrive 0 900 && inB t.MinBreak 0 900 && inB t.PaidBreak 0 900 && inB t.MaxLength 0 900
end Go.Proofs.Ytbkeccpjcmhhjaa
