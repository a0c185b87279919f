/-
  CONTRACTS: copies and comparisons of rows of floats.
-/
import Derived.Test.YtkippcjifikegaaOwn
import Derived.Test.YtkippcjifikegaaFls
namespace Go.Proofs.Ytkippcjifikegaa
open Go.RowKit Go.Flt
set_option linter.unusedVariables false
set_option maxRecDepth 100000
set_option linter.unusedSimpArgs false

abbrev FRow (w : World) (lo hi : Nat) (v : Value) (xs : List Nat) : Prop := RowAt (Value.float .f32) 24 w lo hi v xs

end Go.Proofs.Ytkippcjifikegaa
