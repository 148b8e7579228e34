/-
  Sets: The body of a set of two elements (lintelref10.Sets), and signed attributes (lintelref14.Attrs). Holds for every two elements.
-/
import Derived.Test.YtchaahnhpeoomaaGreatQGReg
import Derived.Test.YtchaahnhpeoomaaGreatQGRsa
import Derived.WalkLawsBesides
import Derived.BigQuiet
import Derived.Deep.DeepCutAuto
import Derived.Deep.CutRange
import Derived.Test.YtchaahnhpeoomaaGreatQGDer
import Derived.BigRegion
import Derived.Test.YtchaahnhpeoomaaGreatQGShB
import Derived.Laws.OwnMore
import Derived.Deep.DeepAppendWide
import Derived.Laws.Bits64
import Derived.Deep.RegionHeld3
namespace Go.Proofs.YtchaahnhpeoomaaGreat
set_option linter.unusedVariables false
set_option linter.unusedSimpArgs false
set_option maxRecDepth 20000
open Go.RowKit
end Go.Proofs.YtchaahnhpeoomaaGreat
namespace Go.Proofs.YtchaahnhpeoomaaGreat
set_option linter.unusedVariables false
set_option linter.unusedSimpArgs false
set_option maxRecDepth 20000
open Go.RowKit
end Go.Proofs.YtchaahnhpeoomaaGreat
namespace Go.Proofs.YtchaahnhpeoomaaGreat
set_option linter.unusedVariables false
set_option linter.unusedSimpArgs false
set_option maxRecDepth 20000
open Go.RowKit
end Go.Proofs.YtchaahnhpeoomaaGreat
namespace Go.Proofs.YtchaahnhpeoomaaGreat
set_option linter.unusedVariables false
set_option linter.unusedSimpArgs false
set_option maxRecDepth 20000
open Go.RowKit
theorem wpList_build_at {P : Program} {ops : Array Oper} {rest : List Oper} {o : Oper} {a : Act} {w : World} {Q : Exit → Act → World → Prop} (hg : o.guard = none) (t : TypeId) (parts : Array (Nat × Operand)) (ho : o.op = .build t parts)
  (cs : List Value) (hf : P.built t (parts.map fun (i, x) => (i, a.eval x)).toList = some cs.toArray)
  (h : wpList P ops Q rest (a.put o.dst (.agg cs.toArray)) w) : wpList P ops Q (o :: rest) a w :=
 wpList_build hg t parts ho (by rw [hf]; rfl) (by rw [hf]; exact h)
structure Sgd where
 kind : Sl
 content : Sl
 CA : Option Addr
 cn : Nat
 cc : Nat
 SA : Option Addr
 sn : Nat
 sc : Nat
end Go.Proofs.YtchaahnhpeoomaaGreat
namespace Go.Proofs.YtchaahnhpeoomaaGreat
set_option linter.unusedVariables false
set_option linter.unusedSimpArgs false
set_option maxRecDepth 20000
open Go.RowKit
structure Sgn where
 issuer : Sl
 serial : Sl
 attrs : Sl
 kind : Sl
 digest : Sl
 sig : Sl
def Sgn.cells (s : Sgn) : List Value := [s.issuer.val, s.serial.val, s.attrs.val, s.kind.val, s.digest.val, s.sig.val]
def rungsO (n : Nat) : List Rung := (List.range n).map fun i => ⟨[120, 97 + i], 0, true, true, -1, -1⟩
section
variable {w wx wy : World} {cc L3 L4 : List Value} {g3 g4 g5 : Nat} {SS : List Sl} {sum : List Nat}
end
theorem info_rung : (Tryz.prog.info? 125).map (fun i => (i.zero, i.size, i.bytes)) = some (some (.agg #[.string ⟨#[]⟩, .int .u8 0, .bool false, .bool false, .int .i64 0, .int .i64 0]), 6, 40) := by kernel_rfl
theorem fill_rung (c : Rung) (z : Array Value) (hz : z = #[.string ⟨#[]⟩, .int .u8 0, .bool false, .bool false, .int .i64 0, .int .i64 0]) : Instr.fill (fun i => some (i * 6, 6)) ((Array.range (1 * 6)).map (z[· % z.size]!)) [(0, .agg c.cells.toArray)] = some c.cells.toArray := by
 subst hz
 kernel_rfl
section
variable {w : World} {ops : Array Oper} {rest : List Oper} {o : Oper} {a : Act} {Q : Exit → Act → World → Prop}
theorem wpList_build_rung (hgd : o.guard = none) (x : Operand) (ho : o.op = .buildSlice 123 1 #[(0, x)]) (c : Rung) (hx : a.eval x = .agg c.cells.toArray)
  (h : wpList Tryz.prog ops Q rest (a.put o.dst (.slice (some ⟨w.heap.size, 0, none⟩) 1 1)) (w.alloc (.cells c.cells.toArray 125))) : wpList Tryz.prog ops Q (o :: rest) a w := by
 obtain ⟨i, hi, hzz⟩ := Option.map_eq_some_iff.1 info_rung
 simp only [Prod.mk.injEq] at hzz
 obtain ⟨hz, hs1, hb⟩ := hzz
 refine wpList_buildSlice hgd 123 125 1 #[(0, x)] ho c.cells.toArray i (.agg #[.string ⟨#[]⟩, .int .u8 0, .bool false, .bool false, .int .i64 0, .int .i64 0]) Tryz.underlying123 hi hz (by rw [hs1]; decide) (by rw [hs1]; decide) ?_ h
 rw [hs1]
 simp only [List.map_toArray, List.map_cons, List.map_nil, hx]
 exact fill_rung c _ rfl
end
theorem rungCells_snoc (l : List Rung) (c : Rung) : rungCells (l ++ [c]) = rungCells l ++ c.cells := by simp [rungCells]
theorem rungsO_ok (n : Nat) (hn : n ≤ 3) : ∀ r ∈ rungsO n, RungOk r := fun r hr => by
 simp only [rungsO, List.mem_map, List.mem_range] at hr
 obtain ⟨i, hi, rfl⟩ := hr
 exact ⟨⟨show 2 ≤ 100 by decide, fun x hx => by simp at hx; omega⟩, show 0 < 256 by decide, rfl, rfl, rfl⟩
theorem rd_1 (wr : World) : Sl.ok (wr.alloc (.cells #[.int .u8 1] 5)) ⟨some ⟨wr.heap.size, 0, none⟩, 1, [1]⟩ := ⟨Rd.of_all (blk_lit (k := .u8) (t := 5) wr [1] _ rfl), fun x hx => by simp at hx; omega, Nat.le_refl 1, show 1 ≤ 9223372036854775807 by decide⟩
theorem Row.sub {w w' : World} {g o : Nat} {vs : List Value} (h : Row w g o vs) (hs : Sub w w') : Row w' g o vs := ⟨Nat.lt_of_lt_of_le h.1 hs.size, fun i v hv => hs.cell _ _ (h.2 i v hv)⟩
theorem Row.keep {w w' : World} {g o : Nat} {vs : List Value} (h : Row w g o vs) (hs : w.heap.size ≤ w'.heap.size) (hk : w'.heap[g]? = w.heap[g]?) : Row w' g o vs := ⟨Nat.lt_of_lt_of_le h.1 hs, fun i v hv => (World.cell?_of_block (w := w) (a := ⟨g, o + i, none⟩) hk).trans (h.2 i v hv)⟩
section
variable {w : World} {ops : Array Oper} {rest : List Oper} {o : Oper} {a : Act} {Q : Exit → Act → World → Prop}
end
theorem crtCells_append (a b : List Crt) : crtCells (a ++ b) = crtCells a ++ crtCells b := by simp [crtCells]
theorem crtCells_one (l : List Crt) : ∀ u ∈ crtCells l, u.oneCell' = true := fun u hu => by
 simp only [crtCells, List.mem_flatten, List.mem_map] at hu
 obtain ⟨x, ⟨c, _, rfl⟩, hu⟩ := hu
 exact crt_one c u hu
section
variable {w wx wy : World} {cc L3 L4 : List Value} {g3 g4 g5 gA gr : Nat} {SS : List Sl} {sum : List Nat} {CC own : List Crt}
end
end Go.Proofs.YtchaahnhpeoomaaGreat
namespace Go.Proofs.YtchaahnhpeoomaaGreat
set_option linter.unusedVariables false
set_option linter.unusedSimpArgs false
set_option maxRecDepth 20000
open Go.RowKit
end Go.Proofs.YtchaahnhpeoomaaGreat
namespace Go.Proofs.YtchaahnhpeoomaaGreat
set_option linter.unusedVariables false
set_option linter.unusedSimpArgs false
set_option maxRecDepth 20000
open Go.RowKit
end Go.Proofs.YtchaahnhpeoomaaGreat
namespace Go.Proofs.YtchaahnhpeoomaaGreat
set_option linter.unusedVariables false
set_option linter.unusedSimpArgs false
set_option maxRecDepth 20000
open Go.RowKit
end Go.Proofs.YtchaahnhpeoomaaGreat
namespace Go.Proofs.YtchaahnhpeoomaaGreat
set_option linter.unusedVariables false
set_option linter.unusedSimpArgs false
set_option maxRecDepth 20000
open Go.RowKit
end Go.Proofs.YtchaahnhpeoomaaGreat
namespace Go.Proofs.YtchaahnhpeoomaaGreat
set_option linter.unusedVariables false
set_option linter.unusedSimpArgs false
set_option maxRecDepth 20000
open Go.RowKit
end Go.Proofs.YtchaahnhpeoomaaGreat
namespace Go.Proofs.YtchaahnhpeoomaaGreat
set_option linter.unusedVariables false
set_option linter.unusedSimpArgs false
set_option maxRecDepth 20000
open Go.RowKit
end Go.Proofs.YtchaahnhpeoomaaGreat
