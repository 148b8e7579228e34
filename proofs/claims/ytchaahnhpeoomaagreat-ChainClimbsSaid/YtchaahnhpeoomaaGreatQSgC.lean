/-
  For the walks of the statements on signers: parts of rows, places of fields, arrays compared, what operations of a drawn region yield.
-/
import Derived.Test.YtchaahnhpeoomaaGreatQGRgt
import Derived.Test.YtchaahnhpeoomaaGreatQOpn
namespace Go.Proofs.YtchaahnhpeoomaaGreat
set_option linter.unusedVariables false
set_option linter.unusedSimpArgs false
set_option maxRecDepth 20000
open Go.RowKit
theorem Row.at_ {w : World} {g o o' i : Nat} {v : Value} {vs : List Value} (h : Row w g o vs) (hv : vs[i]? = some v) (ho : o' = o + i) : w.cell? ⟨g, o', none⟩ = some v := by subst ho; exact h.2 i v hv
theorem sz_crt (c : Crt) : (Tryz.prog.info? 30).map (·.size) = some c.cells.length := sz_cert
theorem info_crt : (Tryz.prog.info? 30).map (fun i => (i.zero, i.size, i.bytes)) = some (some (.agg Crt.none.cells.toArray), 24, 224) := by kernel_rfl
section
variable {P : Program} {ops : Array Oper} {Q : Exit → Act → World → Prop} {Base : Act → Prop} {dst : Nat → Nat} {tags : Nat → Tg} {w0 : World} {i : Nat} {o : Oper}
end
section
variable {w : World} {ops : Array Oper} {rest : List Oper} {o : Oper} {a : Act} {Q : Exit → Act → World → Prop}
theorem wpList_build_certV (hgd : o.guard = none) (x : Operand) (ho : o.op = .buildSlice 31 1 #[(0, x)]) (c : Crt) (hx : a.eval x = .agg c.cells.toArray)
  (h : ∀ g w', Hid (g = w.heap.size) → Row w' g 0 c.cells → Below w.heap.size w w' → wpList Tryz.prog ops Q rest (a.put o.dst (.slice (some ⟨g, 0, none⟩) 1 1)) w') : wpList Tryz.prog ops Q (o :: rest) a w :=
 wpList_build_cert hgd x ho c hx (h _ _ rfl (row_new _) ((Below.refl _ _).alloc (Nat.le_refl _) _))
end
theorem cf_eqb (vs : Array Value) (W : World) : (callFunc 37 vs).run Tryz.prog W = .ok (.enter 37 vs) W := by go_simp
theorem addr_addC (bk off i : Nat) : (⟨bk, off, none⟩ : Addr).add i = ⟨bk, off + i, none⟩ := by unfold Addr.add; split <;> simp_all
theorem Row.rng {w : World} {g o : Nat} {vs : List Value} (h : Row w g o vs) : w.rangeAt g o vs := h.2
end Go.Proofs.YtchaahnhpeoomaaGreat
