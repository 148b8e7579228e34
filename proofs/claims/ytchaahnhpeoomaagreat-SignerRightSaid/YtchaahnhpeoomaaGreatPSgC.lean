/-
 For the walks of the statements on signers: parts of rows, places of fields, arrays compared, what operations of a drawn region yield.
-/
import Derived.Test.YtchaahnhpeoomaaGreatPGRgt
import Derived.Test.YtchaahnhpeoomaaGreatPOpn
namespace Go.Proofs.YtchaahnhpeoomaaGreat
set_option linter.unusedVariables false
set_option linter.unusedSimpArgs false
set_option maxRecDepth 20000
open Go.RowKit
theorem Row.split {w : World} {g o : Nat} {a b : List Value} (h : Row w g o (a ++ b)) : Row w g o a ∧ Row w g (o + a.length) b := by
 refine ⟨⟨h.1, fun i v hv => ?_⟩, ⟨h.1, fun i v hv => ?_⟩⟩
 ·exact h.2 i v (by rw [List.getElem?_append_left (List.getElem?_eq_some_iff.1 hv).1]; exact hv)
 ·have := h.2 (a.length + i) v (by rw [List.getElem?_append_right (by omega), show a.length + i - a.length = i by omega]; exact hv)
  rwa [← Nat.add_assoc] at this
theorem Row.at_ {w : World} {g o o' i : Nat} {v : Value} {vs : List Value} (h : Row w g o vs) (hv : vs[i]? = some v) (ho : o' = o + i) : w.cell? ⟨g, o', none⟩ = some v := by subst ho; exact h.2 i v hv
theorem eqItems_decS (xs ys : List Nat) (w : World) : ∀ is : List Nat, (∀ i ∈ is, i < xs.length) → (∀ i ∈ is, i < ys.length) → (Op.eqItems 9999 5 (Tryz.prog.cellsOf 5) (ints .u8 xs).toArray (ints .u8 ys).toArray is).run Tryz.prog w = .ok (is.all fun i => decide (xs[i]? = ys[i]?)) w
 | [], _, _ => by simp [Op.eqItems]
 | i :: is, h, h' => by
  have hi := h i (by simp)
  have hi' := h' i (by simp)
  have ih := eqItems_decS xs ys w is (fun j hj => h j (by simp [hj])) (fun j hj => h' j (by simp [hj]))
  have hc : Tryz.prog.cellsOf 5 = 1 := by kernel_rfl
  have h4 : ∀ w, (isAgg 5).run Tryz.prog w = .ok false w := fun w => by kernel_rfl
  have hp : ∀ (zs : List Nat) (hz : i < zs.length), (Go.part 5 (ints .u8 zs).toArray (i * Tryz.prog.cellsOf 5)).run Tryz.prog w = .ok (.int .u8 (zs[i] : Int)) w := fun zs hz => by
   have h5 := ints_get (k := .u8) (List.getElem?_eq_getElem hz)
   rw [hc, Nat.mul_one]
   simp [Go.part, Sem.run_bind, h4, Result.andThen, h5]
  have he : (Op.equalIn 9999 5 (.int .u8 (xs[i] : Int)) (.int .u8 (ys[i] : Int))).run Tryz.prog w = .ok (decide (xs[i]? = ys[i]?)) w := by
   have := run_equalIn_int (P := Tryz.prog) (w := w) 9998 5 .u8 .u8 (xs[i] : Int) (ys[i] : Int) Tryz.underlying5
   rw [show decide (xs[i]? = ys[i]?) = ((xs[i] : Int) == (ys[i] : Int)) from by
    rw [Bool.eq_iff_iff]
    simp [List.getElem?_eq_getElem hi, List.getElem?_eq_getElem hi']
    omega]
   exact this
  simp only [Op.eqItems, Sem.run_bind, hp xs hi, hp ys hi', he, Result.andThen_ok]
  by_cases hx : xs[i]? = ys[i]?
  ·simpa [hx] using ih
  ·simp [hx]
theorem all_eqS {xs ys : List Nat} {n : Nat} (hx : xs.length = n) (hy : ys.length = n) : ((List.range n).all fun i => decide (xs[i]? = ys[i]?)) = decide (xs = ys) := by
 rw [Bool.eq_iff_iff, List.all_eq_true, decide_eq_true_eq]
 constructor
 ·intro h
  apply List.ext_getElem?
  intro i
  by_cases hi : i < n
  ·simpa using h i (by simpa using hi)
  ·rw [List.getElem?_eq_none (by omega), List.getElem?_eq_none (by omega)]
 ·rintro rfl i _
  simp
theorem eql_decS (xs ys : List Nat) (hl : xs.length = 32) (hl' : ys.length = 32) (w : World) : (binOp .eql 49 (.agg (ints .u8 xs).toArray) (.agg (ints .u8 ys).toArray)).run Tryz.prog w = .ok (.bool (decide (xs = ys))) w := by
 obtain ⟨i, hi⟩ : ∃ i, Tryz.prog.info? 5 = some i := info_of_underlying Tryz.underlying5
 have h := run_equalIn_array (P := Tryz.prog) (w := w) 9999 (ints .u8 xs).toArray (ints .u8 ys).toArray Tryz.underlying49 hi
 rw [eqItems_decS xs ys w _ (fun j hj => by rw [hl]; simpa using hj) (fun j hj => by rw [hl']; simpa using hj), all_eqS hl hl'] at h
 rw [run_eql_struct, h]
 rfl
theorem wpList_eql_arr {ops : Array Oper} {rest : List Oper} {op : Oper} {a : Act} {w : World} {Q : Exit → Act → World → Prop} (x y : Operand) (ho : op.op = .binOp .eql 49 x y 49) (xs ys : List Nat) (hl : xs.length = 32) (hl' : ys.length = 32)
  (hx : a.eval x = .agg (ints .u8 xs).toArray) (hy : a.eval y = .agg (ints .u8 ys).toArray) (hgd : Region.wanted op (yielded ops a.tmps) = true)
  (h : wpList Tryz.prog ops Q rest (a.put op.dst (.bool (decide (xs = ys)))) w) : wpList Tryz.prog ops Q (op :: rest) a w :=
 wpList_step fun K hK => by
  rw [if_pos hgd]
  unfold Oper.wp execOp
  simp only [ho, hx, hy, Sem.run_bind, arr_guard, Result.andThen_ok, eql_decS xs ys hl hl', Sem.run_pure]
  exact hK _ _ h
theorem sz_crt (c : Crt) : (Tryz.prog.info? 30).map (·.size) = some c.cells.length := sz_cert
theorem sz_sgn (s : Sgn) : (Tryz.prog.info? 67).map (·.size) = some s.cells.length := sz_sgr
theorem sz_sg (s : Sgd) : (Tryz.prog.info? 48).map (·.size) = some s.cells.length := sz_sgd
theorem sz_arr {xs : List Nat} (h : Hid (xs.length = 32)) : (Tryz.prog.info? 49).map (·.size) = some (ints .u8 xs).length := by rw [ints_length, h.out]; exact size_32u8
def sgn0 : List Value := [.slice none 0 0, .slice none 0 0, .slice none 0 0, .slice none 0 0, .slice none 0 0, .slice none 0 0]
theorem zero_sgn0 : (Tryz.prog.info? 67).map (fun i => i.zero) = some (some (.agg sgn0.toArray)) := by kernel_rfl
section
variable {P : Program} {ops : Array Oper} {Q : Exit → Act → World → Prop} {Base : Act → Prop} {dst : Nat → Nat} {tags : Nat → Tg} {w0 : World} {i : Nat} {o : Oper}
end
theorem Row.rd {w : World} {g o : Nat} {xs : List Nat} (h : Row w g o (ints .u8 xs)) : Rd .u8 w (some ⟨g, o, none⟩) xs := .inr ⟨g, o, rfl, h.1, fun i x hx => h.2 i _ (ints_get hx)⟩
section
variable {w : World} {ops : Array Oper} {rest : List Oper} {o : Oper} {a : Act} {Q : Exit → Act → World → Prop}
end
theorem cf_eqb (vs : Array Value) (W : World) : (callFunc 37 vs).run Tryz.prog W = .ok (.enter 37 vs) W := by go_simp
def sgnCells (l : List Sgn) : List Value := (l.map Sgn.cells).flatten
theorem sgn_row {w : World} {g o i : Nat} {l : List Sgn} {c : Sgn} (h : Row w g o (sgnCells l)) (hi : l[i]? = some c) : Row w g (o + i * 6) c.cells :=
 Row.part (n := 6) h (fun x hx => by obtain ⟨r, _, rfl⟩ := List.mem_map.1 hx; rfl) (by simp [hi])
theorem Row.rng {w : World} {g o : Nat} {vs : List Value} (h : Row w g o vs) : w.rangeAt g o vs := h.2
end Go.Proofs.YtchaahnhpeoomaaGreat
