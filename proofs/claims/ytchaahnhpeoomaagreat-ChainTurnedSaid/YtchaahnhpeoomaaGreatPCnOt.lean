/-
 The statement ChainOthers: who has signed nobody that is reached has no say.
-/
import Derived.Test.YtchaahnhpeoomaaGreatPCnTw
namespace Go.Proofs.YtchaahnhpeoomaaGreat
set_option linter.unusedVariables false
set_option linter.unusedSimpArgs false
set_option maxRecDepth 20000
open Go.RowKit
end Go.Proofs.YtchaahnhpeoomaaGreat
