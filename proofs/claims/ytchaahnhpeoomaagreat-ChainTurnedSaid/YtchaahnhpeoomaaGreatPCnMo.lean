/-
 The statement ChainMore: one more certificate, or one more who is trusted, loses nobody.
-/
import Derived.Test.YtchaahnhpeoomaaGreatPCnOt
namespace Go.Proofs.YtchaahnhpeoomaaGreat
set_option linter.unusedVariables false
set_option linter.unusedSimpArgs false
set_option maxRecDepth 20000
open Go.RowKit
theorem fa_chcase1 (g off : Nat) (W : World) : (Instr.fieldAt 36 (.pointer (some ⟨g, off, none⟩)) 1).run Tryz.prog W = .ok (.pointer (some ⟨g, off + 24, none⟩)) W := by go_simp
end Go.Proofs.YtchaahnhpeoomaaGreat
