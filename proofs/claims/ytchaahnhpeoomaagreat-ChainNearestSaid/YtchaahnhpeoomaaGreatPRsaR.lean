/-
 Arguments that came in, opened: an array of integers by value, a key, an integer.
-/
import Derived.Test.YtchaahnhpeoomaaGreatPRow
import Derived.Test.YtchaahnhpeoomaaGreatPGRsa
import Derived.Lib.SmallJoins
import Derived.OpenShut
namespace Go.Proofs.YtchaahnhpeoomaaGreat
set_option linter.unusedVariables false
set_option linter.unusedSimpArgs false
set_option maxRecDepth 20000
open Go.RowKit Go.WideShapes
section
variable {H : Type} {enc : TypeId × Value → H} {P : Program} {w : World} {base : Nat} {spare : Nat → Bool} {held : Bool} {r : Reach} {b0 : Nat}
theorem int_of_trod {t : TypeId} {k : IntKind} {v : Value} {d : DataW H} {p : List MemPlace} (ht : P.underlying t = some (.int k)) (hv : Value.okWide P w r b0 t v) (h : DataW.Trod enc P w base spare held t v d p) : ∃ n : Int, v = .int k n ∧ (Lit.int k n).wf = true := by
 obtain ⟨n, rfl⟩ := okWide_int ht hv
 obtain ⟨fuel, hf⟩ := h
 obtain ⟨z, hz, _, hw⟩ := DataW.trod_int ht hf
 simp [Value.cells] at hz
 subst hz
 exact ⟨n, rfl, hw⟩
end
end Go.Proofs.YtchaahnhpeoomaaGreat
