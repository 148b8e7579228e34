/-
  Arguments that came in, opened: slices of records, and what holds them. Holds without any condition.
-/
import Derived.Test.YtchaahnhpeoomaaGreatQOpn
namespace Go.Proofs.YtchaahnhpeoomaaGreat
set_option linter.unusedVariables false
set_option linter.unusedSimpArgs false
set_option maxRecDepth 20000
open Go.RowKit Go.WideShapes
structure Sls3 (α : Type) where
 A : Option Addr
 c : Nat
 l : List α
def Sls3.val {α : Type} (s : Sls3 α) : Value := .slice s.A s.l.length s.c
structure RowsIn {α : Type} (n : Nat) (f : α → List Value) (Q : α → Prop) (W : World) (s : Sls3 α) : Prop where
 cap : s.l.length ≤ s.c
 max : s.c ≤ 9223372036854775807
 row : s.l = [] ∨ ∃ g o, s.A = some ⟨g, o, none⟩ ∧ Row W g o (s.l.map f).flatten
 each : ∀ x ∈ s.l, Q x
theorem addr_addO (bk off i : Nat) : (⟨bk, off, none⟩ : Addr).add i = ⟨bk, off + i, none⟩ := by unfold Addr.add; split <;> simp_all
section
variable {W : World}
abbrev CRow (t : (Nat × Nat × Int × Int × Bool × Bool × Nat)) : List Value := [.int .u8 (t.1 : Int), .int .u8 (t.2.1 : Int), .int .i64 t.2.2.1, .int .i64 t.2.2.2.1, .bool t.2.2.2.2.1, .bool t.2.2.2.2.2.1, .int .u8 (t.2.2.2.2.2.2 : Int)]
abbrev QRow (W : World) (t : (Nat × Nat × Int × Int × Bool × Bool × Nat)) : Prop := t.1 < 256 ∧ t.2.1 < 256 ∧ (-9223372036854775808 ≤ t.2.2.1 ∧ t.2.2.1 ≤ 9223372036854775807) ∧ (-9223372036854775808 ≤ t.2.2.2.1 ∧ t.2.2.2.1 ≤ 9223372036854775807) ∧ t.2.2.2.2.2.2 < 256
theorem opn_row : Opn 87 W CRow (QRow W) := by
 intro H enc base held fuel cs y h
 obtain ⟨hl, m, hm⟩ := flds Tryz.underlying87 h
 obtain ⟨N, hN, hN2⟩ : ∃ c : Nat, Tryz.prog.cellsOf 87 = c ∧ c = 7 := ⟨_, rfl, by kernel_rfl⟩
 rw [hN, hN2] at hl
 obtain ⟨x0, e0, q0⟩ := fld (n := 1) hm 0 rfl rfl rfl (by kernel_rfl) opn_u8
 have e0 : cs.drop 0 = _ ++ cs.drop 1 := e0
 obtain ⟨x1, e1, q1⟩ := fld (n := 1) hm 1 rfl rfl rfl (by kernel_rfl) opn_u8
 have e1 : cs.drop 1 = _ ++ cs.drop 2 := e1
 obtain ⟨x2, e2, q2⟩ := fld (n := 1) hm 2 rfl rfl rfl (by kernel_rfl) opn_i64
 have e2 : cs.drop 2 = _ ++ cs.drop 3 := e2
 obtain ⟨x3, e3, q3⟩ := fld (n := 1) hm 3 rfl rfl rfl (by kernel_rfl) opn_i64
 have e3 : cs.drop 3 = _ ++ cs.drop 4 := e3
 obtain ⟨x4, e4, q4⟩ := fld (n := 1) hm 4 rfl rfl rfl (by kernel_rfl) opn_bool
 have e4 : cs.drop 4 = _ ++ cs.drop 5 := e4
 obtain ⟨x5, e5, q5⟩ := fld (n := 1) hm 5 rfl rfl rfl (by kernel_rfl) opn_bool
 have e5 : cs.drop 5 = _ ++ cs.drop 6 := e5
 obtain ⟨x6, e6, q6⟩ := fld (n := 1) hm 6 rfl rfl rfl (by kernel_rfl) opn_u8
 have e6 : cs.drop 6 = _ ++ cs.drop 7 := e6
 refine ⟨(x0, x1, x2, x3, x4, x5, x6), ?_, ⟨q0, q1, q2, q3, q6⟩⟩
 have e0 : cs = _ := e0
 rw [e0, e1, e2, e3, e4, e5, e6, List.drop_eq_nil_of_le (by omega)]
 simp [List.append_assoc]
end
end Go.Proofs.YtchaahnhpeoomaaGreat
