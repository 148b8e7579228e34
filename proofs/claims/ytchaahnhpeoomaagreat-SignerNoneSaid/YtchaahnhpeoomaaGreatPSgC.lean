/-
  For the walks of the statements on signers: parts of rows, places of fields, arrays compared, what operations of a drawn region yield.
-/
import Derived.Test.YtchaahnhpeoomaaGreatPGRgt
import Derived.Test.YtchaahnhpeoomaaGreatPOpn
namespace Go.Proofs.YtchaahnhpeoomaaGreat
set_option linter.unusedVariables false
set_option linter.unusedSimpArgs false
set_option maxRecDepth 20000
open Go.RowKit
theorem Row.split {w : World} {g o : Nat} {a b : List Value} (h : Row w g o (a ++ b)) : Row w g o a ∧ Row w g (o + a.length) b := by
  refine ⟨⟨h.1, fun i v hv => ?_⟩, ⟨h.1, fun i v hv => ?_⟩⟩
  · exact h.2 i v (by rw [List.getElem?_append_left (List.getElem?_eq_some_iff.1 hv).1]; exact hv)
  · have := h.2 (a.length + i) v (by rw [List.getElem?_append_right (by omega), show a.length + i - a.length = i by omega]; exact hv)
    rwa [← Nat.add_assoc] at this
theorem Row.at_ {w : World} {g o o' i : Nat} {v : Value} {vs : List Value} (h : Row w g o vs) (hv : vs[i]? = some v) (ho : o' = o + i) : w.cell? ⟨g, o', none⟩ = some v := by subst ho; exact h.2 i v hv
theorem sz_crt (c : Crt) : (Tryz.prog.info? 30).map (·.size) = some c.cells.length := sz_cert
theorem sz_sg (s : Sgd) : (Tryz.prog.info? 48).map (·.size) = some s.cells.length := sz_sgd
theorem sz_arr {xs : List Nat} (h : Hid (xs.length = 32)) : (Tryz.prog.info? 49).map (·.size) = some (ints .u8 xs).length := by rw [ints_length, h.out]; exact size_32u8
section
variable {P : Program} {ops : Array Oper} {Q : Exit → Act → World → Prop} {Base : Act → Prop} {dst : Nat → Nat} {tags : Nat → Tg} {w0 : World} {i : Nat} {o : Oper}
end
section
variable {w : World} {ops : Array Oper} {rest : List Oper} {o : Oper} {a : Act} {Q : Exit → Act → World → Prop}
end
theorem cf_eqb (vs : Array Value) (W : World) : (callFunc 37 vs).run Tryz.prog W = .ok (.enter 37 vs) W := by go_simp
def sgnCells (l : List Sgn) : List Value := (l.map Sgn.cells).flatten
theorem sgn_row {w : World} {g o i : Nat} {l : List Sgn} {c : Sgn} (h : Row w g o (sgnCells l)) (hi : l[i]? = some c) : Row w g (o + i * 6) c.cells :=
  Row.part (n := 6) h (fun x hx => by obtain ⟨r, _, rfl⟩ := List.mem_map.1 hx; rfl) (by simp [hi])
theorem Row.rng {w : World} {g o : Nat} {vs : List Value} (h : Row w g o vs) : w.rangeAt g o vs := h.2
end Go.Proofs.YtchaahnhpeoomaaGreat
