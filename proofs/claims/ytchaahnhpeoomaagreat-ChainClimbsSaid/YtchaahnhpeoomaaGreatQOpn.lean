/-
  Arguments that came in, opened: bytes, numbers, arrays, structs of these, and slices of structs. Holds without any condition.
-/
import Derived.Test.YtchaahnhpeoomaaGreatQRsaR
import Derived.Test.YtchaahnhpeoomaaGreatQGSig
import Derived.Deep.Slices
import Derived.Deep.Strs
import Derived.ChangeArms
import Derived.SizedLaws
namespace Go.Proofs.YtchaahnhpeoomaaGreat
set_option linter.unusedVariables false
set_option linter.unusedSimpArgs false
set_option maxRecDepth 20000
open Go.RowKit Go.WideShapes
def Opn {α : Type} (t : TypeId) (W : World) (f : α → List Value) (Q : α → Prop) : Prop :=
 ∀ {H : Type} {enc : TypeId × Value → H} {base : Nat} {held : Bool} {fuel : Nat} {cs : List Value} {y : DataW H × List MemPlace}, DataW.trod enc Tryz.prog W base (fun _ => true) held fuel t cs = some y → ∃ x, cs = f x ∧ Q x
section
variable {W : World}
theorem opn_bytes : Opn 22 W (fun s : Sl => [s.val]) (fun s => s.ok W) := by
 intro H enc base held fuel cs y h
 rcases Go.ChangeShapes.open_ints Tryz.underlying22 Tryz.underlying5 (by kernel_rfl) h with ⟨hcs, _⟩ | ⟨a, l, c, zs, hcs, _, hl, hm, hz, _, hcell, hwz⟩
 ·exact ⟨Sl.nil, by rw [hcs]; rfl, Sl.ok_nil W⟩
 ·obtain ⟨xs, g1, g2, g3, g4, g5⟩ := rd_of_row (fun _ h => wf_u8' h) (.inr ⟨a, rfl, hl, hm, by simpa using hz, hcell, hwz⟩ : IsRow .u8 W (some a) l c zs)
  exact ⟨⟨some a, c, xs⟩, by rw [hcs, g1]; rfl, g4, g5, by show xs.length ≤ c; omega, g3⟩
theorem opn_nat {t : TypeId} {k : IntKind} {b : Nat} (ht : Tryz.prog.underlying t = some (.int k)) (hk : ∀ n : Int, (Lit.int k n).wf = true → 0 ≤ n ∧ n < (b : Int)) : Opn t W (fun n : Nat => [.int k (n : Int)]) (fun n => n < b) := by
 intro H enc base held fuel cs y h
 obtain ⟨n, rfl, _, hw⟩ := DataW.trod_int ht h
 obtain ⟨h1, h2⟩ := hk n hw
 exact ⟨n.toNat, by show [Value.int k n] = [Value.int k (n.toNat : Int)]; rw [Int.toNat_of_nonneg h1], by omega⟩
theorem opn_u8 : Opn 5 W (fun n : Nat => [.int .u8 (n : Int)]) (fun n => n < 256) := opn_nat Tryz.underlying5 (fun _ h => wf_u8' h)
theorem opn_i64 : Opn 3 W (fun n : Int => [.int .i64 n]) (fun n => -9223372036854775808 ≤ n ∧ n ≤ 9223372036854775807) := by
 intro H enc base held fuel cs y h
 obtain ⟨n, rfl, _, hw⟩ := DataW.trod_int Tryz.underlying3 h
 exact ⟨n, rfl, bounds_i64 hw⟩
theorem opn_bool : Opn 4 W (fun b : Bool => [.bool b]) (fun _ => True) := by
 intro H enc base held fuel cs y h
 obtain ⟨b, rfl, _⟩ := DataW.trod_bool Tryz.underlying4 h
 exact ⟨b, rfl, trivial⟩
theorem flds {t : TypeId} {fs : Array Field} {H : Type} {enc : TypeId × Value → H} {base : Nat} {held : Bool} {fuel : Nat} {cs : List Value} {y : DataW H × List MemPlace} (ht : Tryz.prog.underlying t = some (.struct fs)) (h : DataW.trod enc Tryz.prog W base (fun _ => true) held fuel t cs = some y) :
  cs.length = Tryz.prog.cellsOf t ∧ ∃ m, ∀ (i : Nat) (fd : Field), fs[i]? = some fd → ∃ u, DataW.trod enc Tryz.prog W base (fun _ => true) held m fd.type ((cs.drop fd.offset).take (Tryz.prog.cellsOf fd.type)) = some u ∧ ∀ n ∈ u.1.weights Tryz.prog fd.type, n ∈ y.1.weights Tryz.prog t := by
 obtain ⟨xs, m, _, hy, hl, hlen, hf⟩ := DataW.trod_struct ht h
 refine ⟨hl, m, fun i fd hi => ?_⟩
 have hlt : i < xs.length := by
  have := (Array.getElem?_eq_some_iff.1 hi).1
  omega
 refine ⟨xs[i], by rw [hf i fd hi, List.getElem?_eq_getElem hlt], fun n hn => ?_⟩
 rw [hy]
 simp only [DataW.weights, ht]
 exact DataW.weights_mem_each (j := i) (t := fd.type) (d := xs[i].1) (by simp [hi]) (by simp [List.getElem?_eq_getElem hlt]) n hn
theorem fld {α : Type} {t : TypeId} {fs : Array Field} {H : Type} {enc : TypeId × Value → H} {base m : Nat} {held : Bool} {cs : List Value} {f : α → List Value} {Q : α → Prop} {Z : List Nat}
  (hm : ∀ (i : Nat) (fd : Field), fs[i]? = some fd → ∃ u, DataW.trod enc Tryz.prog W base (fun _ => true) held m fd.type ((cs.drop fd.offset).take (Tryz.prog.cellsOf fd.type)) = some u ∧ ∀ n ∈ u.1.weights Tryz.prog fd.type, n ∈ Z) (i : Nat) {o n : Nat} {fd : Field} (hi : fs[i]? = some fd) (ho : fd.offset = o) (hT : fd.type = t) (hn : Tryz.prog.cellsOf t = n) (R : Opn t W f Q) :
  ∃ x, cs.drop o = f x ++ cs.drop (o + n) ∧ Q x := by
 obtain ⟨u, hu, _⟩ := hm i fd hi
 rw [ho, hT, hn] at hu
 obtain ⟨x, e, q⟩ := R hu
 refine ⟨x, ?_, q⟩
 rw [← e, ← List.drop_drop]
 exact (List.take_append_drop n _).symm
end
instance : Inhabited Sl := ⟨Sl.nil⟩
instance : Inhabited Crt := ⟨Crt.none⟩
instance : Inhabited Sgn := ⟨⟨Sl.nil, Sl.nil, Sl.nil, Sl.nil, Sl.nil, Sl.nil⟩⟩
theorem agg_of_trod {α : Type} {W : World} {t : TypeId} {fs : Array Field} {f : α → List Value} {Q : α → Prop} {H : Type} {enc : TypeId × Value → H} {base : Nat} {held : Bool} {r : Reach} {b0 : Nat} {v : Value} {d : DataW H} {p : List MemPlace} (ht : Tryz.prog.underlying t = some (.struct fs)) (R : Opn t W f Q)
  (hv : Value.okWide Tryz.prog W r b0 t v) (h : DataW.Trod enc Tryz.prog W base (fun _ => true) held t v d p) : ∃ x, v = .agg (f x).toArray ∧ Q x := by
 obtain ⟨cs, rfl, _⟩ := okWide_struct ht hv
 obtain ⟨fuel, hf⟩ := h
 obtain ⟨x, e, q⟩ := R hf
 have e : cs.toList = f x := by simpa [Value.cells] using e
 exact ⟨x, by rw [← e], q⟩
theorem sl_of_trod {α : Type} {W : World} {t e : TypeId} {g : α → Value} {Q : α → Prop} {H : Type} {enc : TypeId × Value → H} {base : Nat} {held : Bool} {r : Reach} {b0 : Nat} {v : Value} {d : DataW H} {p : List MemPlace} (ht : Tryz.prog.underlying t = some (.slice e)) (R : Opn t W (fun x => [g x]) Q)
  (hv : Value.okWide Tryz.prog W r b0 t v) (h : DataW.Trod enc Tryz.prog W base (fun _ => true) held t v d p) : ∃ x, v = g x ∧ Q x := by
 obtain ⟨a, len, cap, rfl⟩ := okWide_slice ht hv
 obtain ⟨fuel, hf⟩ := h
 obtain ⟨x, e, q⟩ := R hf
 exact ⟨x, by simpa [Value.cells] using e, q⟩
section
variable {W : World}
end
end Go.Proofs.YtchaahnhpeoomaaGreat
