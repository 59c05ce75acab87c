/-
 Duties: whether a list of duties covers the blocks (isCover, l13Covers, IsCover).
-/
import Derived.Test.YtknhebakebmlcaaGreatDc
namespace Go.Proofs.YtknhebakebmlcaaGreat
open Go Go.RowKit
set_option linter.unusedVariables false
set_option maxRecDepth 100000
section
variable {t : Timetable} {f : Fleet} {bs : List (List Int)} {r : Rules}
end
end Go.Proofs.YtknhebakebmlcaaGreat
