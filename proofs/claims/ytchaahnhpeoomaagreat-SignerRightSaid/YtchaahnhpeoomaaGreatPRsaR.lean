/-
  Arguments that came in, opened: an array of integers by value, a key, an integer.
-/
import Derived.Test.YtchaahnhpeoomaaGreatPRow
import Derived.Test.YtchaahnhpeoomaaGreatPGRsa
import Derived.Lib.SmallJoins
import Derived.OpenShut
namespace Go.Proofs.YtchaahnhpeoomaaGreat
set_option linter.unusedVariables false
set_option linter.unusedSimpArgs false
set_option maxRecDepth 20000
open Go.RowKit Go.WideShapes
theorem ints_of_all {k : IntKind} {b : Nat} : ∀ vs : List Value, (∀ v ∈ vs, ∃ x : Nat, v = .int k (x : Int) ∧ x < b) → ∃ xs : List Nat, vs = ints k xs ∧ Lim b xs
  | [], _ => ⟨[], rfl, fun x hx => by cases hx⟩
  | v :: vs, h => by
    obtain ⟨x, rfl, hx⟩ := h v (by simp)
    obtain ⟨xs, rfl, hl⟩ := ints_of_all vs fun u hu => h u (by simp [hu])
    exact ⟨x :: xs, by simp [ints], fun y hy => by
      rcases List.mem_cons.1 hy with rfl | hy
      · exact hx
      · exact hl y hy⟩
section
variable {H : Type} {enc : TypeId × Value → H} {P : Program} {w : World} {base : Nat} {spare : Nat → Bool} {held : Bool} {r : Reach} {b0 : Nat}
end
end Go.Proofs.YtchaahnhpeoomaaGreat
