/-
  CONTRACTS: how a law compares two floats.
-/
import Derived.Test.YtkippcjifikegaaSl
namespace Go.Proofs.Ytkippcjifikegaa
open Go.RowKit Go.Flt
set_option linter.unusedVariables false
set_option maxRecDepth 100000
set_option linter.unusedSimpArgs false

end Go.Proofs.Ytkippcjifikegaa
