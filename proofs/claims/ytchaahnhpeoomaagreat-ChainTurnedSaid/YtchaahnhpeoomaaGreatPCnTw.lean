/-
 The statement ChainTwice: a pool that is told twice is as good as told once.
-/
import Derived.Test.YtchaahnhpeoomaaGreatPChY
namespace Go.Proofs.YtchaahnhpeoomaaGreat
set_option linter.unusedVariables false
set_option linter.unusedSimpArgs false
set_option maxRecDepth 20000
open Go.RowKit
end Go.Proofs.YtchaahnhpeoomaaGreat
