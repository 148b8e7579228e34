/-
 Arguments that came in, opened: bytes, numbers, arrays, structs of these, and slices of structs. Holds without any condition.
-/
import Derived.Test.YtchaahnhpeoomaaGreatPRsaR
import Derived.Test.YtchaahnhpeoomaaGreatPGSig
import Derived.Deep.Slices
import Derived.Deep.Strs
import Derived.ChangeArms
import Derived.SizedLaws
namespace Go.Proofs.YtchaahnhpeoomaaGreat
set_option linter.unusedVariables false
set_option linter.unusedSimpArgs false
set_option maxRecDepth 20000
open Go.RowKit Go.WideShapes
def Opn {α : Type} (t : TypeId) (W : World) (f : α → List Value) (Q : α → Prop) : Prop :=
 ∀ {H : Type} {enc : TypeId × Value → H} {base : Nat} {held : Bool} {fuel : Nat} {cs : List Value} {y : DataW H × List MemPlace}, DataW.trod enc Tryz.prog W base (fun _ => true) held fuel t cs = some y → ∃ x, cs = f x ∧ Q x
section
variable {W : World}
theorem opn_bytes : Opn 22 W (fun s : Sl => [s.val]) (fun s => s.ok W) := by
 intro H enc base held fuel cs y h
 rcases Go.ChangeShapes.open_ints Tryz.underlying22 Tryz.underlying5 (by kernel_rfl) h with ⟨hcs, _⟩ | ⟨a, l, c, zs, hcs, _, hl, hm, hz, _, hcell, hwz⟩
 ·exact ⟨Sl.nil, by rw [hcs]; rfl, Sl.ok_nil W⟩
 ·obtain ⟨xs, g1, g2, g3, g4, g5⟩ := rd_of_row (fun _ h => wf_u8' h) (.inr ⟨a, rfl, hl, hm, by simpa using hz, hcell, hwz⟩ : IsRow .u8 W (some a) l c zs)
  exact ⟨⟨some a, c, xs⟩, by rw [hcs, g1]; rfl, g4, g5, by show xs.length ≤ c; omega, g3⟩
theorem opn_nat {t : TypeId} {k : IntKind} {b : Nat} (ht : Tryz.prog.underlying t = some (.int k)) (hk : ∀ n : Int, (Lit.int k n).wf = true → 0 ≤ n ∧ n < (b : Int)) : Opn t W (fun n : Nat => [.int k (n : Int)]) (fun n => n < b) := by
 intro H enc base held fuel cs y h
 obtain ⟨n, rfl, _, hw⟩ := DataW.trod_int ht h
 obtain ⟨h1, h2⟩ := hk n hw
 exact ⟨n.toNat, by show [Value.int k n] = [Value.int k (n.toNat : Int)]; rw [Int.toNat_of_nonneg h1], by omega⟩
theorem opn_u8 : Opn 5 W (fun n : Nat => [.int .u8 (n : Int)]) (fun n => n < 256) := opn_nat Tryz.underlying5 (fun _ h => wf_u8' h)
theorem opn_u16 : Opn 23 W (fun n : Nat => [.int .u16 (n : Int)]) (fun n => n < 65536) := opn_nat Tryz.underlying23 (fun n h => by
 have := bounds_u16 h
 omega)
theorem opn_u64 : Opn 26 W (fun n : Nat => [.int .u64 (n : Int)]) (fun n => n < 18446744073709551616) := opn_nat Tryz.underlying26 (fun _ h => by have := bounds_u64 h; omega)
theorem opn_i64 : Opn 3 W (fun n : Int => [.int .i64 n]) (fun n => -9223372036854775808 ≤ n ∧ n ≤ 9223372036854775807) := by
 intro H enc base held fuel cs y h
 obtain ⟨n, rfl, _, hw⟩ := DataW.trod_int Tryz.underlying3 h
 exact ⟨n, rfl, bounds_i64 hw⟩
theorem opn_bool : Opn 4 W (fun b : Bool => [.bool b]) (fun _ => True) := by
 intro H enc base held fuel cs y h
 obtain ⟨b, rfl, _⟩ := DataW.trod_bool Tryz.underlying4 h
 exact ⟨b, rfl, trivial⟩
theorem flds {t : TypeId} {fs : Array Field} {H : Type} {enc : TypeId × Value → H} {base : Nat} {held : Bool} {fuel : Nat} {cs : List Value} {y : DataW H × List MemPlace} (ht : Tryz.prog.underlying t = some (.struct fs)) (h : DataW.trod enc Tryz.prog W base (fun _ => true) held fuel t cs = some y) :
  cs.length = Tryz.prog.cellsOf t ∧ ∃ m, ∀ (i : Nat) (fd : Field), fs[i]? = some fd → ∃ u, DataW.trod enc Tryz.prog W base (fun _ => true) held m fd.type ((cs.drop fd.offset).take (Tryz.prog.cellsOf fd.type)) = some u ∧ ∀ n ∈ u.1.weights Tryz.prog fd.type, n ∈ y.1.weights Tryz.prog t := by
 obtain ⟨xs, m, _, hy, hl, hlen, hf⟩ := DataW.trod_struct ht h
 refine ⟨hl, m, fun i fd hi => ?_⟩
 have hlt : i < xs.length := by
  have := (Array.getElem?_eq_some_iff.1 hi).1
  omega
 refine ⟨xs[i], by rw [hf i fd hi, List.getElem?_eq_getElem hlt], fun n hn => ?_⟩
 rw [hy]
 simp only [DataW.weights, ht]
 exact DataW.weights_mem_each (j := i) (t := fd.type) (d := xs[i].1) (by simp [hi]) (by simp [List.getElem?_eq_getElem hlt]) n hn
theorem fld {α : Type} {t : TypeId} {fs : Array Field} {H : Type} {enc : TypeId × Value → H} {base m : Nat} {held : Bool} {cs : List Value} {f : α → List Value} {Q : α → Prop} {Z : List Nat}
  (hm : ∀ (i : Nat) (fd : Field), fs[i]? = some fd → ∃ u, DataW.trod enc Tryz.prog W base (fun _ => true) held m fd.type ((cs.drop fd.offset).take (Tryz.prog.cellsOf fd.type)) = some u ∧ ∀ n ∈ u.1.weights Tryz.prog fd.type, n ∈ Z) (i : Nat) {o n : Nat} {fd : Field} (hi : fs[i]? = some fd) (ho : fd.offset = o) (hT : fd.type = t) (hn : Tryz.prog.cellsOf t = n) (R : Opn t W f Q) :
  ∃ x, cs.drop o = f x ++ cs.drop (o + n) ∧ Q x := by
 obtain ⟨u, hu, _⟩ := hm i fd hi
 rw [ho, hT, hn] at hu
 obtain ⟨x, e, q⟩ := R hu
 refine ⟨x, ?_, q⟩
 rw [← e, ← List.drop_drop]
 exact (List.take_append_drop n _).symm
end
structure CrtIn (W : World) (c : Crt) : Prop where
 ok : c.ok W
 path : -9223372036854775808 ≤ c.path ∧ c.path ≤ 9223372036854775807
 usage : -9223372036854775808 ≤ c.usage ∧ c.usage ≤ 9223372036854775807
instance : Inhabited Sl := ⟨Sl.nil⟩
instance : Inhabited Crt := ⟨Crt.none⟩
instance : Inhabited Sgn := ⟨⟨Sl.nil, Sl.nil, Sl.nil, Sl.nil, Sl.nil, Sl.nil⟩⟩
theorem agg_of_trod {α : Type} {W : World} {t : TypeId} {fs : Array Field} {f : α → List Value} {Q : α → Prop} {H : Type} {enc : TypeId × Value → H} {base : Nat} {held : Bool} {r : Reach} {b0 : Nat} {v : Value} {d : DataW H} {p : List MemPlace} (ht : Tryz.prog.underlying t = some (.struct fs)) (R : Opn t W f Q)
  (hv : Value.okWide Tryz.prog W r b0 t v) (h : DataW.Trod enc Tryz.prog W base (fun _ => true) held t v d p) : ∃ x, v = .agg (f x).toArray ∧ Q x := by
 obtain ⟨cs, rfl, _⟩ := okWide_struct ht hv
 obtain ⟨fuel, hf⟩ := h
 obtain ⟨x, e, q⟩ := R hf
 have e : cs.toList = f x := by simpa [Value.cells] using e
 exact ⟨x, by rw [← e], q⟩
theorem sl_of_trod {α : Type} {W : World} {t e : TypeId} {g : α → Value} {Q : α → Prop} {H : Type} {enc : TypeId × Value → H} {base : Nat} {held : Bool} {r : Reach} {b0 : Nat} {v : Value} {d : DataW H} {p : List MemPlace} (ht : Tryz.prog.underlying t = some (.slice e)) (R : Opn t W (fun x => [g x]) Q)
  (hv : Value.okWide Tryz.prog W r b0 t v) (h : DataW.Trod enc Tryz.prog W base (fun _ => true) held t v d p) : ∃ x, v = g x ∧ Q x := by
 obtain ⟨a, len, cap, rfl⟩ := okWide_slice ht hv
 obtain ⟨fuel, hf⟩ := h
 obtain ⟨x, e, q⟩ := R hf
 exact ⟨x, by simpa [Value.cells] using e, q⟩
section
variable {W : World}
theorem opn_time : Opn 25 W (fun t : Tm => t.cells) (fun t => t.ok) := by
 intro H enc base held fuel cs y h
 obtain ⟨hl, m, hm⟩ := flds Tryz.underlying25 h
 obtain ⟨N, hN, hN2⟩ : ∃ c : Nat, Tryz.prog.cellsOf 25 = c ∧ c = 6 := ⟨_, rfl, by kernel_rfl⟩
 rw [hN, hN2] at hl
 obtain ⟨x0, e0, q0⟩ := fld (n := 1) hm 0 rfl rfl rfl (by kernel_rfl) opn_u16
 have e0 : cs.drop 0 = _ ++ cs.drop 1 := e0
 obtain ⟨x1, e1, q1⟩ := fld (n := 1) hm 1 rfl rfl rfl (by kernel_rfl) opn_u8
 have e1 : cs.drop 1 = _ ++ cs.drop 2 := e1
 obtain ⟨x2, e2, q2⟩ := fld (n := 1) hm 2 rfl rfl rfl (by kernel_rfl) opn_u8
 have e2 : cs.drop 2 = _ ++ cs.drop 3 := e2
 obtain ⟨x3, e3, q3⟩ := fld (n := 1) hm 3 rfl rfl rfl (by kernel_rfl) opn_u8
 have e3 : cs.drop 3 = _ ++ cs.drop 4 := e3
 obtain ⟨x4, e4, q4⟩ := fld (n := 1) hm 4 rfl rfl rfl (by kernel_rfl) opn_u8
 have e4 : cs.drop 4 = _ ++ cs.drop 5 := e4
 obtain ⟨x5, e5, q5⟩ := fld (n := 1) hm 5 rfl rfl rfl (by kernel_rfl) opn_u8
 have e5 : cs.drop 5 = _ ++ cs.drop 6 := e5
 refine ⟨⟨x0, x1, x2, x3, x4, x5⟩, ?_, ⟨q0, q1, q2, q3, q4, q5⟩⟩
 have e0 : cs = _ := e0
 rw [e0, e1, e2, e3, e4, e5, List.drop_eq_nil_of_le (by omega)]
 simp [Tm.cells, List.append_assoc]
theorem opn_key : Opn 28 W (fun t : (Sl × Nat) => [t.1.val, .int .u64 (t.2 : Int)]) (fun t => t.1.ok W ∧ t.2 < 18446744073709551616) := by
 intro H enc base held fuel cs y h
 obtain ⟨hl, m, hm⟩ := flds Tryz.underlying28 h
 obtain ⟨N, hN, hN2⟩ : ∃ c : Nat, Tryz.prog.cellsOf 28 = c ∧ c = 2 := ⟨_, rfl, by kernel_rfl⟩
 rw [hN, hN2] at hl
 obtain ⟨x0, e0, q0⟩ := fld (n := 1) hm 0 rfl rfl rfl (by kernel_rfl) opn_bytes
 have e0 : cs.drop 0 = _ ++ cs.drop 1 := e0
 obtain ⟨x1, e1, q1⟩ := fld (n := 1) hm 1 rfl rfl rfl (by kernel_rfl) opn_u64
 have e1 : cs.drop 1 = _ ++ cs.drop 2 := e1
 refine ⟨(x0, x1), ?_, ⟨q0, q1⟩⟩
 have e0 : cs = _ := e0
 rw [e0, e1, List.drop_eq_nil_of_le (by omega)]
 simp [List.append_assoc]
abbrev CCert (t : Crt) : List Value := t.cells
abbrev QCert (W : World) (t : Crt) : Prop := CrtIn W t
theorem opn_cert : Opn 30 W CCert (QCert W) := by
 intro H enc base held fuel cs y h
 obtain ⟨hl, m, hm⟩ := flds Tryz.underlying30 h
 obtain ⟨N, hN, hN2⟩ : ∃ c : Nat, Tryz.prog.cellsOf 30 = c ∧ c = 24 := ⟨_, rfl, by kernel_rfl⟩
 rw [hN, hN2] at hl
 obtain ⟨x0, e0, q0⟩ := fld (n := 1) hm 0 rfl rfl rfl (by kernel_rfl) opn_bytes
 have e0 : cs.drop 0 = _ ++ cs.drop 1 := e0
 obtain ⟨x1, e1, q1⟩ := fld (n := 1) hm 1 rfl rfl rfl (by kernel_rfl) opn_bytes
 have e1 : cs.drop 1 = _ ++ cs.drop 2 := e1
 obtain ⟨x2, e2, q2⟩ := fld (n := 1) hm 2 rfl rfl rfl (by kernel_rfl) opn_bytes
 have e2 : cs.drop 2 = _ ++ cs.drop 3 := e2
 obtain ⟨x3, e3, q3⟩ := fld (n := 1) hm 3 rfl rfl rfl (by kernel_rfl) opn_bytes
 have e3 : cs.drop 3 = _ ++ cs.drop 4 := e3
 obtain ⟨x4, e4, q4⟩ := fld (n := 1) hm 4 rfl rfl rfl (by kernel_rfl) opn_bytes
 have e4 : cs.drop 4 = _ ++ cs.drop 5 := e4
 obtain ⟨x5, e5, q5⟩ := fld (n := 6) hm 5 rfl rfl rfl (by kernel_rfl) opn_time
 have e5 : cs.drop 5 = _ ++ cs.drop 11 := e5
 obtain ⟨x6, e6, q6⟩ := fld (n := 6) hm 6 rfl rfl rfl (by kernel_rfl) opn_time
 have e6 : cs.drop 11 = _ ++ cs.drop 17 := e6
 obtain ⟨x7, e7, q7⟩ := fld (n := 2) hm 7 rfl rfl rfl (by kernel_rfl) opn_key
 have e7 : cs.drop 17 = _ ++ cs.drop 19 := e7
 obtain ⟨x8, e8, q8⟩ := fld (n := 1) hm 8 rfl rfl rfl (by kernel_rfl) opn_bytes
 have e8 : cs.drop 19 = _ ++ cs.drop 20 := e8
 obtain ⟨x9, e9, q9⟩ := fld (n := 1) hm 9 rfl rfl rfl (by kernel_rfl) opn_bool
 have e9 : cs.drop 20 = _ ++ cs.drop 21 := e9
 obtain ⟨x10, e10, q10⟩ := fld (n := 1) hm 10 rfl rfl rfl (by kernel_rfl) opn_i64
 have e10 : cs.drop 21 = _ ++ cs.drop 22 := e10
 obtain ⟨x11, e11, q11⟩ := fld (n := 1) hm 11 rfl rfl rfl (by kernel_rfl) opn_i64
 have e11 : cs.drop 22 = _ ++ cs.drop 23 := e11
 obtain ⟨x12, e12, q12⟩ := fld (n := 1) hm 12 rfl rfl rfl (by kernel_rfl) opn_bool
 have e12 : cs.drop 23 = _ ++ cs.drop 24 := e12
 refine ⟨⟨x0, x1, x2, x3, x4, x5, x6, x7.1, x7.2, x8, x9, x10, x11, x12⟩, ?_, ⟨⟨q0, q1, q2, q3, q4, q7.1, q8, q5, q6, q7.2⟩, q10, q11⟩⟩
 have e0 : cs = _ := e0
 rw [e0, e1, e2, e3, e4, e5, e6, e7, e8, e9, e10, e11, e12, List.drop_eq_nil_of_le (by omega)]
 simp [Crt.cells, List.append_assoc]
end
end Go.Proofs.YtchaahnhpeoomaaGreat
