/-
  Arguments that came in, opened: an array of integers by value, a key, an integer.
-/
import Derived.Test.YtchaahnhpeoomaaGreatQRow
import Derived.Test.YtchaahnhpeoomaaGreatQGRsa
import Derived.Lib.SmallJoins
import Derived.OpenShut
namespace Go.Proofs.YtchaahnhpeoomaaGreat
set_option linter.unusedVariables false
set_option linter.unusedSimpArgs false
set_option maxRecDepth 20000
open Go.RowKit Go.WideShapes
section
variable {H : Type} {enc : TypeId × Value → H} {P : Program} {w : World} {base : Nat} {spare : Nat → Bool} {held : Bool} {r : Reach} {b0 : Nat}
end
end Go.Proofs.YtchaahnhpeoomaaGreat
