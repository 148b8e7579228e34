/-
  RgtA: The closure of signer.Right: a certificate's key verifies the signer's signature over a digest.
-/
import Derived.Test.YtchaahnhpeoomaaGreatQGSig
import Derived.RangeFuncNested
import Derived.RangeFuncBound
import Derived.RangeFuncCalls
import Derived.RangeFuncLeaves
import Derived.RangeFuncFrom
import Derived.Shelf.Abstract
import Derived.Shelf.RegionOpen
import Derived.WalkKit
import Derived.OwnWalkIn
import Derived.TacticsInMore
import Derived.LoopNIn
import Derived.LoopIn
import Derived.Test.YtchaahnhpeoomaaGreatQGDer
import Derived.Test.YtchaahnhpeoomaaGreatQGBas
import Derived.Test.YtchaahnhpeoomaaGreatQGReg
import Derived.DeepKeys
import Derived.OrdersIn
import Derived.Deep.QuietTactic
namespace Go.Proofs.YtchaahnhpeoomaaGreat
set_option linter.unusedVariables false
set_option linter.unusedSimpArgs false
set_option maxRecDepth 20000
open Go.RowKit
set_option maxRecDepth 100000 in
set_option maxHeartbeats 1600000 in
theorem right1_any (gc gs : Nat) (c : Crt) (s : Sgn) (ds : List Nat) (w : World) (hd : ds.length = 32) (ld : Lim 256 ds) (hc : Row w gc 0 c.cells) (hs : Row w gs 0 s.cells) (ck : c.key.ok w) (ce : c.e < 18446744073709551616) (sk : s.sig.ok w) (hk : c.key.xs.length ≤ 70000) :
  Calls Tryz.prog 58 #[.agg (ints .u8 ds).toArray, .pointer (some ⟨gc, 0, none⟩), .pointer (some ⟨gs, 0, none⟩)] w (RetW (verB c.key.xs c.e ds s.sig.xs) w) := by
 have D1 : Whl .u8 49 (w.alloc (.cells (ints .u8 ds).toArray 49)) w.heap.size ds := whl_new0 w ds
 have e1 : Below w.heap.size w (w.alloc (.cells (ints .u8 ds).toArray 49)) := (Below.refl _ _).alloc (Nat.le_refl _) _
 have K1 : (w.alloc (.cells (ints .u8 ds).toArray 49)).rangeAt gc 17 [.slice c.key.A c.key.xs.length c.key.c, .int .u64 (c.e : Int)] := fun i v hv => by
  have hi : i < 2 := (List.getElem?_eq_some_iff.1 hv).1
  refine (hc.below e1).cell (i := 17 + i) (v := v) ?_ |> fun q => by rwa [Nat.zero_add] at q
  rcases i with _ | _ | i
  ·exact hv
  ·exact hv
  ·omega
 have S1 : (w.alloc (.cells (ints .u8 ds).toArray 49)).cell? ⟨gs, 5, none⟩ = some (.slice s.sig.A s.sig.xs.length s.sig.c) := (hs.below e1).cell (i := 5) rfl
 have hl := Lib.hid hd
 go_enter Tryz.func58, Tryz.ntmps58
 go_wp2_with (first
  | (refine wpList_load_mid rfl 28 (.tmp 5) rfl gc 17 rfl [.slice c.key.A c.key.xs.length c.key.c, .int .u64 (c.e : Int)] _ K1 Tryz.underlying28 rfl size_key ?_)
  | (refine wpList_load_whl_if rfl 49 (.tmp 3) rfl w.heap.size rfl .u8 _ ds D1 _ Tryz.underlying49 rfl (by rw [hl.out]; exact size_32u8) ?_))
 refine (verify_any c.key.A s.sig.A c.key.xs.length c.key.c c.e s.sig.xs.length s.sig.c c.key.xs ds s.sig.xs _ rfl rfl hk sk.len (ck.below e1).rd (sk.below e1).rd ck.lim sk.lim hl.out ld ce).mono ?_
 rintro r w2 ⟨rfl, e2⟩
 generalize verB c.key.xs c.e ds s.sig.xs = b at *
 go_wp2_with fail
 go_ret
 exact ⟨rfl, e1.trans (e2.mono e1.size)⟩
end Go.Proofs.YtchaahnhpeoomaaGreat
namespace Go.Proofs.YtchaahnhpeoomaaGreat
set_option linter.unusedVariables false
set_option linter.unusedSimpArgs false
set_option maxRecDepth 20000
open Go.RowKit
end Go.Proofs.YtchaahnhpeoomaaGreat
namespace Go.Proofs.YtchaahnhpeoomaaGreat
set_option linter.unusedVariables false
set_option linter.unusedSimpArgs false
set_option maxRecDepth 20000
open Go.RowKit
attribute [local go_sem] Oper.semAt_some
end Go.Proofs.YtchaahnhpeoomaaGreat
namespace Go.Proofs.YtchaahnhpeoomaaGreat
set_option linter.unusedVariables false
set_option linter.unusedSimpArgs false
set_option maxRecDepth 20000
open Go.RowKit
attribute [local go_sem] Oper.semAt_some
end Go.Proofs.YtchaahnhpeoomaaGreat
namespace Go.Proofs.YtchaahnhpeoomaaGreat
set_option linter.unusedVariables false
set_option linter.unusedSimpArgs false
set_option maxRecDepth 20000
open Go.RowKit
end Go.Proofs.YtchaahnhpeoomaaGreat
namespace Go.Proofs.YtchaahnhpeoomaaGreat
set_option linter.unusedVariables false
set_option linter.unusedSimpArgs false
set_option maxRecDepth 20000
open Go.RowKit
theorem part_u8 (xs : Array Value) (i : Nat) (k : Int) (h : xs[i]? = some (.int .u8 k)) (w : World) : (Go.part 5 xs i).run Tryz.prog w = .ok (.int .u8 k) w := by
 have h4 : ∀ w, (isAgg 5).run Tryz.prog w = .ok false w := fun w => by kernel_rfl
 simp [Go.part, Sem.run_bind, h4, Result.andThen, h]
theorem part_u16 (xs : Array Value) (i : Nat) (k : Int) (h : xs[i]? = some (.int .u16 k)) (w : World) : (Go.part 23 xs i).run Tryz.prog w = .ok (.int .u16 k) w := by
 have h4 : ∀ w, (isAgg 23).run Tryz.prog w = .ok false w := fun w => by kernel_rfl
 simp [Go.part, Sem.run_bind, h4, Result.andThen, h]
theorem eqf_step (d : Nat) (xs ys : Array Value) (f : Field) (fs : List Field) (w : World) (x y : Value) (c : Bool) (hn : (f.name != "_") = true) (hx : (Go.part f.type xs f.offset).run Tryz.prog w = .ok x w) (hy : (Go.part f.type ys f.offset).run Tryz.prog w = .ok y w)
  (hq : (Op.equalIn d f.type x y).run Tryz.prog w = .ok c w) (r : Bool) (hr : (Op.eqFields d xs ys fs).run Tryz.prog w = .ok r w) : (Op.eqFields d xs ys (f :: fs)).run Tryz.prog w = .ok (c && r) w := by
 have hn' : f.name ≠ "_" := by simpa using hn
 simp only [Op.eqFields, hn', ne_eq, not_false_eq_true, if_true, Sem.run_bind, hx, hy, hq, Result.andThen_ok]
 cases c
 ·simp
 ·simpa using hr
theorem nat_beq (x y : Nat) : ((x : Int) == (y : Int)) = decide (x = y) := by
 by_cases h : x = y
 ·simp [h]
 ·have : ¬ (x : Int) = (y : Int) := by omega
  simp [h, this]
theorem tm_eq (a b : Tm) (w : World) : (binOp .eql 25 (.agg a.cells.toArray) (.agg b.cells.toArray)).run Tryz.prog w = .ok (.bool (decide (a = b))) w := by
 have hf : (Tryz.prog.fieldsOf 25).toList.map (fun f => (f.name != "_", f.type, f.offset)) = [(true, 23, 0), (true, 5, 1), (true, 5, 2), (true, 5, 3), (true, 5, 4), (true, 5, 5)] := by kernel_rfl
 have e : decide (a = b) = (decide (a.y = b.y) && (decide (a.mo = b.mo) && (decide (a.d = b.d) && (decide (a.h = b.h) && (decide (a.mi = b.mi) && (decide (a.s = b.s) && true)))))) := by
  obtain ⟨a1, a2, a3, a4, a5, a6⟩ := a
  obtain ⟨b1, b2, b3, b4, b5, b6⟩ := b
  simp
 have hst : Tryz.prog.stoodInHeld 25 = false := by kernel_rfl
 rw [e, run_eql_struct, run_equalIn_agg w 9999 _ _ _ (by kernel_rfl) hst]
 clear e hst
 generalize (Tryz.prog.fieldsOf 25).toList = fs at *
 obtain ⟨f0, fs, rfl, h0, hf⟩ := List.map_eq_cons_iff.1 hf
 obtain ⟨f1, fs, rfl, h1, hf⟩ := List.map_eq_cons_iff.1 hf
 obtain ⟨f2, fs, rfl, h2, hf⟩ := List.map_eq_cons_iff.1 hf
 obtain ⟨f3, fs, rfl, h3, hf⟩ := List.map_eq_cons_iff.1 hf
 obtain ⟨f4, fs, rfl, h4, hf⟩ := List.map_eq_cons_iff.1 hf
 obtain ⟨f5, fs, rfl, h5, hf⟩ := List.map_eq_cons_iff.1 hf
 obtain rfl := List.map_eq_nil_iff.1 hf
 simp only [Prod.mk.injEq] at h0 h1 h2 h3 h4 h5
 have q16 : ∀ x y : Nat, (Op.equalIn 9999 23 (.int .u16 (x : Int)) (.int .u16 (y : Int))).run Tryz.prog w = .ok (decide (x = y)) w := fun x y => by rw [run_equalIn_int w 9998 23 .u16 .u16 _ _ Tryz.underlying23, nat_beq]
 have q8 : ∀ x y : Nat, (Op.equalIn 9999 5 (.int .u8 (x : Int)) (.int .u8 (y : Int))).run Tryz.prog w = .ok (decide (x = y)) w := fun x y => by rw [run_equalIn_int w 9998 5 .u8 .u8 _ _ Tryz.underlying5, nat_beq]
 have hz : (Op.eqFields 9999 a.cells.toArray b.cells.toArray []).run Tryz.prog w = .ok true w := by simp [Op.eqFields]
 have k5 := eqf_step 9999 a.cells.toArray b.cells.toArray f5 _ w _ _ _ h5.1 (by rw [h5.2.1, h5.2.2]; exact part_u8 a.cells.toArray 5 _ rfl w) (by rw [h5.2.1, h5.2.2]; exact part_u8 b.cells.toArray 5 _ rfl w) (by rw [h5.2.1]; exact q8 _ _) _ hz
 have k4 := eqf_step 9999 a.cells.toArray b.cells.toArray f4 _ w _ _ _ h4.1 (by rw [h4.2.1, h4.2.2]; exact part_u8 a.cells.toArray 4 _ rfl w) (by rw [h4.2.1, h4.2.2]; exact part_u8 b.cells.toArray 4 _ rfl w) (by rw [h4.2.1]; exact q8 _ _) _ k5
 have k3 := eqf_step 9999 a.cells.toArray b.cells.toArray f3 _ w _ _ _ h3.1 (by rw [h3.2.1, h3.2.2]; exact part_u8 a.cells.toArray 3 _ rfl w) (by rw [h3.2.1, h3.2.2]; exact part_u8 b.cells.toArray 3 _ rfl w) (by rw [h3.2.1]; exact q8 _ _) _ k4
 have k2 := eqf_step 9999 a.cells.toArray b.cells.toArray f2 _ w _ _ _ h2.1 (by rw [h2.2.1, h2.2.2]; exact part_u8 a.cells.toArray 2 _ rfl w) (by rw [h2.2.1, h2.2.2]; exact part_u8 b.cells.toArray 2 _ rfl w) (by rw [h2.2.1]; exact q8 _ _) _ k3
 have k1 := eqf_step 9999 a.cells.toArray b.cells.toArray f1 _ w _ _ _ h1.1 (by rw [h1.2.1, h1.2.2]; exact part_u8 a.cells.toArray 1 _ rfl w) (by rw [h1.2.1, h1.2.2]; exact part_u8 b.cells.toArray 1 _ rfl w) (by rw [h1.2.1]; exact q8 _ _) _ k2
 have k0 := eqf_step 9999 a.cells.toArray b.cells.toArray f0 _ w _ _ _ h0.1 (by rw [h0.2.1, h0.2.2]; exact part_u16 a.cells.toArray 0 _ rfl w) (by rw [h0.2.1, h0.2.2]; exact part_u16 b.cells.toArray 0 _ rfl w) (by rw [h0.2.1]; exact q16 _ _) _ k1
 rw [k0]
 rfl
theorem two_blocks (w : World) (A B : Obj) : ∃ W, W = (w.alloc A).alloc B ∧ W.heap[w.heap.size]? = some A ∧ W.heap[w.heap.size + 1]? = some B ∧ W.heap.size = w.heap.size + 2 ∧ Below w.heap.size w W := by
 have h1 := heap_alloc_new (w.alloc A) B
 have h0 := (Below.heap_alloc (w.alloc A) B w.heap.size (by simp)).trans (heap_alloc_new w A)
 rw [World.size_alloc] at h1
 exact ⟨_, rfl, h0, h1, by simp, ((Below.refl _ _).alloc (Nat.le_refl _) _).alloc (by simp) _⟩
theorem Row.of_heap {w : World} {b : Nat} {vs : List Value} {t : TypeId} {fr : Nat × Nat} (h : w.heap[b]? = some (.cells vs.toArray t fr)) : Row w b 0 vs := ⟨heap_lt h, fun i v hv => by
 rw [Nat.zero_add, cell_of_row w b i _ t fr h]
 simpa using hv⟩
end Go.Proofs.YtchaahnhpeoomaaGreat
namespace Go.Proofs.YtchaahnhpeoomaaGreat
set_option linter.unusedVariables false
set_option linter.unusedSimpArgs false
set_option maxRecDepth 20000
open Go.RowKit
section
variable {P : Program} {n l : Nat} {ops : Array Oper} {Q : Exit → Act → World → Prop}
end
end Go.Proofs.YtchaahnhpeoomaaGreat
namespace Go.Proofs.YtchaahnhpeoomaaGreat
set_option linter.unusedVariables false
set_option linter.unusedSimpArgs false
set_option maxRecDepth 20000
open Go.RowKit
theorem wp_world {P : Program} {c : Code} {Q : Exit → Act → World → Prop} {a : Act} {W W' : World} (h : W' = W) (k : c.wp P Q a W') : c.wp P Q a W := h ▸ k
section
variable {b : Nat} {g : Sgd} {kd : Sl} {ds : List Nat} {W W' : World}
end
end Go.Proofs.YtchaahnhpeoomaaGreat
namespace Go.Proofs.YtchaahnhpeoomaaGreat
set_option linter.unusedVariables false
set_option linter.unusedSimpArgs false
set_option maxRecDepth 20000
open Go.RowKit
attribute [local go_sem] Oper.semAt_some
theorem sgn_one (s : Sgn) : ∀ u ∈ s.cells, u.oneCell' = true := by
 intro u hu
 simp only [Sgn.cells, List.mem_cons, List.not_mem_nil, or_false] at hu
 rcases hu with rfl | rfl | rfl | rfl | rfl | rfl <;> rfl
end Go.Proofs.YtchaahnhpeoomaaGreat
namespace Go.Proofs.YtchaahnhpeoomaaGreat
set_option linter.unusedVariables false
set_option linter.unusedSimpArgs false
set_option maxRecDepth 20000
open Go.RowKit
end Go.Proofs.YtchaahnhpeoomaaGreat
namespace Go.Proofs.YtchaahnhpeoomaaGreat
set_option linter.unusedVariables false
set_option linter.unusedSimpArgs false
set_option maxRecDepth 20000
open Go.RowKit
end Go.Proofs.YtchaahnhpeoomaaGreat
namespace Go.Proofs.YtchaahnhpeoomaaGreat
set_option linter.unusedVariables false
set_option linter.unusedSimpArgs false
set_option maxRecDepth 20000
open Go.RowKit
def flatB (c d : Crt) : Bool := decide (c.frm = d.frm) && (decide (c.til = d.til) && (decide (c.e = d.e) && (decide (c.ca = d.ca) && (decide (c.path = d.path) && (decide (c.usage = d.usage) && decide (c.code = d.code))))))
theorem say_eq (c d : Crt) : decide (c.say = d.say) = (decide (c.slices.map Sl.xs = d.slices.map Sl.xs) && flatB c d) := by
 unfold flatB Crt.say Crt.slices
 simp only [List.map_cons, List.map_nil, List.cons.injEq, and_true, Say.mk.injEq]
 rw [← Bool.decide_and, ← Bool.decide_and, ← Bool.decide_and, ← Bool.decide_and, ← Bool.decide_and, ← Bool.decide_and, ← Bool.decide_and]
 refine decide_eq_decide.2 ⟨fun h => ?_, fun h => ?_⟩
 ·obtain ⟨h1, h2, h3, h4, h5, h6, h7, h8, h9, h10, h11, h12, h13, h14⟩ := h
  exact ⟨⟨h1, h2, h3, h4, h5, h8, h10⟩, h6, h7, h9, h11, h12, h13, h14⟩
 ·obtain ⟨⟨h1, h2, h3, h4, h5, h8, h10⟩, h6, h7, h9, h11, h12, h13, h14⟩ := h
  exact ⟨h1, h2, h3, h4, h5, h6, h7, h8, h9, h10, h11, h12, h13, h14⟩
theorem Crt.ok.slices {w : World} {c : Crt} (h : c.ok w) : ∀ s ∈ c.slices, s.ok w := fun s hs => by
 simp only [Crt.slices, List.mem_cons, List.not_mem_nil, or_false] at hs
 rcases hs with rfl | rfl | rfl | rfl | rfl | rfl | rfl
 all_goals first | exact h.raw | exact h.tbs | exact h.issuer | exact h.subject | exact h.serial | exact h.key | exact h.sig
section
variable {w : World} {ops : Array Oper} {rest : List Oper} {o : Oper} {a : Act} {Q : Exit → Act → World → Prop}
theorem wpList_build_sls (hgd : o.guard = none) (opds : List Operand) (l : List Sl) (len : Nat) (parts : Array (Nat × Operand)) (ho : o.op = .buildSlice 32 len parts) (hparts : parts = ((opds.zipIdx 0).map fun x => (x.2, x.1)).toArray) (hx : opds.map a.eval = l.map Sl.val) (hlen : len = l.length) (hpos : 0 < len) (hsm : len ≤ 1000)
  (h : wpList Tryz.prog ops Q rest (a.put o.dst (.slice (some ⟨w.heap.size, 0, none⟩) len len)) (w.alloc (.cells (l.map Sl.val).toArray 22))) : wpList Tryz.prog ops Q (o :: rest) a w := by
 obtain ⟨ie, hie, hs1⟩ := Option.map_eq_some_iff.1 siz_u8s
 obtain ⟨z, hzz⟩ := Option.isSome_iff_exists.1 zer_u8s
 rw [hie, Option.bind_some] at hzz
 subst hparts
 refine wpList_buildSlice hgd 32 22 len _ ho (l.map Sl.val).toArray ie z Tryz.underlying32 hie hzz (by rw [hs1]; omega) (by rw [hs1]; omega) ?_ h
 rw [hs1, ← Great.fill_flat (l.map Sl.val) ((Array.range (len * 1)).map (z.cells[· % z.cells.size]!)) (fun v hv => by
   obtain ⟨s, _, rfl⟩ := List.mem_map.1 hv
   rfl) (by simp [hlen]), ← hx]
 simp [List.zipIdx_map, List.map_map, Function.comp_def]
end
theorem wpList_load_mid_if {P : Program} {ops : Array Oper} {rest : List Oper} {op : Oper} {a : Act} {w : World} {Q : Exit → Act → World → Prop} (hgd : Region.wanted op (yielded ops a.tmps) = true) (ty : TypeId) (x : Operand) (ho : op.op = .load ty x)
  (g off : Nat) (hx : a.eval x = .pointer (some ⟨g, off, none⟩)) (cs : List Value) (d : TypeDesc) (hc : w.rangeAt g off cs)
  (hu : P.underlying ty = some d) (hd : d.isRow = true) (hi : (P.info? ty).map (·.size) = some cs.length)
  (h : wpList P ops Q rest (a.put op.dst (.agg cs.toArray)) w) : wpList P ops Q (op :: rest) a w :=
 wpList_step fun K hK => by
  rw [if_pos hgd]
  exact wp_load_mid ty x ho g off hx cs d hc hu hd hi (hK _ _ h)
theorem wpList_load_if {P : Program} {ops : Array Oper} {rest : List Oper} {op : Oper} {a : Act} {w : World} {Q : Exit → Act → World → Prop} (ty : TypeId) (x : Operand) (ho : op.op = .load ty x)
  (g off : Nat) (cs : List Value) (d : TypeDesc) (hc : w.rangeAt g off cs)
  (hu : P.underlying ty = some d) (hd : d.isRow = true) (hi : (P.info? ty).map (·.size) = some cs.length) (hx : a.eval x = .pointer (some ⟨g, off, none⟩)) (hgd : Region.wanted op (yielded ops a.tmps) = true)
  (h : wpList P ops Q rest (a.put op.dst (.agg cs.toArray)) w) : wpList P ops Q (op :: rest) a w :=
 wpList_load_mid_if hgd ty x ho g off hx cs d hc hu hd hi h
theorem sz_tm (t : Tm) : (Tryz.prog.info? 25).map (·.size) = some t.cells.length := sz_time
theorem tm_guard (x y : Operand) (xs ys : Array Value) (w : World) : (eqGuard .eql 25 x y (.agg xs) (.agg ys)).run Tryz.prog w = .ok () w := run_eqGuard_agg w .eql _ x y xs ys (by kernel_rfl)
theorem wpList_eql_tm {ops : Array Oper} {rest : List Oper} {op : Oper} {a : Act} {w : World} {Q : Exit → Act → World → Prop} (x y : Operand) (ho : op.op = .binOp .eql 25 x y 25) (xs ys : Array Value) (b : Bool)
  (E : ∀ W, (binOp .eql 25 (.agg xs) (.agg ys)).run Tryz.prog W = .ok (.bool b) W) (hx : a.eval x = .agg xs) (hy : a.eval y = .agg ys) (hgd : Region.wanted op (yielded ops a.tmps) = true)
  (h : wpList Tryz.prog ops Q rest (a.put op.dst (.bool b)) w) : wpList Tryz.prog ops Q (op :: rest) a w :=
 wpList_step fun K hK => by
  rw [if_pos hgd]
  unfold Oper.wp execOp
  simp only [ho, hx, hy, Sem.run_bind, tm_guard, Result.andThen_ok, E, Sem.run_pure]
  exact hK _ _ h
theorem Row.mid {w : World} {g o n : Nat} {vs us : List Value} (h : Row w g o vs) (he : ∀ i v, us[i]? = some v → vs[n + i]? = some v) : w.rangeAt g (o + n) us := fun i v hv => by
 have := h.2 (n + i) v (he i v hv)
 rwa [← Nat.add_assoc] at this
theorem crt_frm {w : World} {g : Nat} {c : Crt} (h : Row w g 0 c.cells) : w.rangeAt g 5 c.frm.cells := by
 have := h.mid (n := 5) (us := c.frm.cells) (fun i v hv => by
  have hi : i < 6 := (List.getElem?_eq_some_iff.1 hv).1
  rcases i with _ | _ | _ | _ | _ | _ | i
  all_goals first | exact hv | omega)
 rwa [Nat.zero_add] at this
theorem crt_til {w : World} {g : Nat} {c : Crt} (h : Row w g 0 c.cells) : w.rangeAt g 11 c.til.cells := by
 have := h.mid (n := 11) (us := c.til.cells) (fun i v hv => by
  have hi : i < 6 := (List.getElem?_eq_some_iff.1 hv).1
  rcases i with _ | _ | _ | _ | _ | _ | i
  all_goals first | exact hv | omega)
 rwa [Nat.zero_add] at this
set_option maxRecDepth 100000 in
set_option maxHeartbeats 25600000 in
theorem sameC_any (c d : Crt) (w : World) (hc : c.ok w) (hd : d.ok w) : Calls Tryz.prog 34 #[c.val, d.val] w (RetW (decide (c.say = d.say)) w) := by
 obtain ⟨w1, hw1, q0, q1, z1, e1⟩ := two_blocks w (.cells c.cells.toArray 30) (.cells d.cells.toArray 30)
 have R0 : Row w1 w.heap.size 0 c.cells := Row.of_heap q0
 have R1 : Row w1 (w.heap.size + 1) 0 d.cells := Row.of_heap q1
 clear q0 q1
 have c0 : w1.cell? ⟨w.heap.size, 0, none⟩ = some c.raw.val := R0.cell (i := 0) rfl
 have c1 : w1.cell? ⟨w.heap.size, 1, none⟩ = some c.tbs.val := R0.cell (i := 1) rfl
 have c2 : w1.cell? ⟨w.heap.size, 2, none⟩ = some c.issuer.val := R0.cell (i := 2) rfl
 have c3 : w1.cell? ⟨w.heap.size, 3, none⟩ = some c.subject.val := R0.cell (i := 3) rfl
 have c4 : w1.cell? ⟨w.heap.size, 4, none⟩ = some c.serial.val := R0.cell (i := 4) rfl
 have c17 : w1.cell? ⟨w.heap.size, 17, none⟩ = some c.key.val := R0.cell (i := 17) rfl
 have c19 : w1.cell? ⟨w.heap.size, 19, none⟩ = some c.sig.val := R0.cell (i := 19) rfl
 unfold Crt.val
 go_enter Tryz.func34, Tryz.ntmps34
 go_upto_region 1 with fail
 rw [← hw1]
 clear hw1
 go_upto_region 2 with (refine wpList_build_sls rfl [.tmp 9, .tmp 11, .tmp 13, .tmp 15, .tmp 17, .tmp 20, .tmp 22] c.slices 7 _ rfl rfl rfl rfl (by decide) (by decide) ?_)
 have S1 : Sls (w1.alloc (.cells (c.slices.map Sl.val).toArray 22)) (some ⟨w1.heap.size, 0, none⟩) c.slices := sls_lit _ rfl fun s hs => (hc.slices s hs).rd.below e1
 have f1 : Below w1.heap.size w1 (w1.alloc (.cells (c.slices.map Sl.val).toArray 22)) := (Below.refl _ _).alloc (Nat.le_refl _) _
 replace e1 := e1.trans (f1.mono e1.size)
 replace R0 := R0.below f1
 replace R1 := R1.below f1
 clear c0 c1 c2 c3 c4 c17 c19
 rw [z1] at S1
 generalize w1.alloc (.cells (c.slices.map Sl.val).toArray 22) = w2 at *
 have c0 : w2.cell? ⟨w.heap.size + 1, 0, none⟩ = some d.raw.val := R1.cell (i := 0) rfl
 have c1 : w2.cell? ⟨w.heap.size + 1, 1, none⟩ = some d.tbs.val := R1.cell (i := 1) rfl
 have c2 : w2.cell? ⟨w.heap.size + 1, 2, none⟩ = some d.issuer.val := R1.cell (i := 2) rfl
 have c3 : w2.cell? ⟨w.heap.size + 1, 3, none⟩ = some d.subject.val := R1.cell (i := 3) rfl
 have c4 : w2.cell? ⟨w.heap.size + 1, 4, none⟩ = some d.serial.val := R1.cell (i := 4) rfl
 have c17 : w2.cell? ⟨w.heap.size + 1, 17, none⟩ = some d.key.val := R1.cell (i := 17) rfl
 have c19 : w2.cell? ⟨w.heap.size + 1, 19, none⟩ = some d.sig.val := R1.cell (i := 19) rfl
 go_upto_region 3 with (refine wpList_build_sls rfl [.tmp 25, .tmp 27, .tmp 29, .tmp 31, .tmp 33, .tmp 36, .tmp 38] d.slices 7 _ rfl rfl rfl rfl (by decide) (by decide) ?_)
 have S2 : Sls (w2.alloc (.cells (d.slices.map Sl.val).toArray 22)) (some ⟨w2.heap.size, 0, none⟩) d.slices := sls_lit _ rfl fun s hs => (hd.slices s hs).rd.below e1
 have f2 : Below w2.heap.size w2 (w2.alloc (.cells (d.slices.map Sl.val).toArray 22)) := (Below.refl _ _).alloc (Nat.le_refl _) _
 replace e1 := e1.trans (f2.mono e1.size)
 replace R0 := R0.below f2
 replace R1 := R1.below f2
 replace S1 := S1.below f2
 clear c0 c1 c2 c3 c4 c17 c19 f2 f1
 generalize w2.alloc (.cells (d.slices.map Sl.val).toArray 22) = w3 at *
 generalize w2.heap.size = g2 at *
 have l1 : c.slices.length = 7 := rfl
 have l2 : d.slices.length = 7 := rfl
 have hsay := Lib.hid (say_eq c d)
 have ks1 : ∀ (i : Nat) (s : Sl), c.slices[i]? = some s → s.ok w := fun i s h => hc.slices s (List.mem_of_getElem? h)
 have ks2 : ∀ (i : Nat) (s : Sl), d.slices[i]? = some s → s.ok w := fun i s h => hd.slices s (List.mem_of_getElem? h)
 obtain ⟨L1, hL1⟩ : ∃ L, L = c.slices := ⟨_, rfl⟩
 obtain ⟨L2, hL2⟩ : ∃ L, L = d.slices := ⟨_, rfl⟩
 rw [← hL1, ← hL2] at hsay
 rw [← hL1] at S1 l1 ks1
 rw [← hL2] at S2 l2 ks2
 clear hL1 hL2
 have Y : ∀ q, Row (w3.drewN q) w.heap.size 0 c.cells ∧ Row (w3.drewN q) (w.heap.size + 1) 0 d.cells := fun q => ⟨R0, R1⟩
 have eY : ∀ q, Below w.heap.size w (w3.drewN q) := fun q => below_drewN e1 q
 go_wp2_with fail
 go_loopw [7] (fun t wr => ∃ i q : Nat, t = .int .i64 (i : Int) ∧ i ≤ 7 ∧ Hid ((L1.map Sl.xs).take i = (L2.map Sl.xs).take i) ∧ wr = w3.drewN q) (fun t _ => 7 - (intOf t).toNat)
 case atStart => exact ⟨0, 0, rfl, Nat.zero_le _, by simp [Hid], rfl⟩
 case round =>
  obtain ⟨i, q, rfl, hi, ht, rfl⟩ := hrel
  by_cases hlt : i < 7
  ·obtain ⟨s1, hs1⟩ := get_of_ltS (l := L1) (i := i) (by omega)
   obtain ⟨s2, hs2⟩ := get_of_ltS (l := L2) (i := i) (by omega)
   have hm1 := ks1 i s1 hs1
   have hm2 := ks2 i s2 hs2
   obtain ⟨g1', o1, ea1, hg1, hc1⟩ := S1.pos hs1
   obtain ⟨g2', o2, ea2, hg2, hc2⟩ := S2.pos hs2
   cases ea1
   cases ea2
   have k1 := hc1 i s1 hs1
   have k2 := hc2 i s2 hs2
   rw [Nat.zero_add] at k1 k2
   unfold Sl.val at k1 k2
   replace k1 : (w3.drewN q).cell? ⟨w.heap.size + 2, i, none⟩ = _ := k1
   replace k2 : (w3.drewN q).cell? ⟨g2, i, none⟩ = _ := k2
   have eq := eY q
   have hnext : Hid (∀ n, ∃ m, (w3.drewN q).drewN n = w3.drewN m) := fun n => ⟨q + n, World.drewN_drewN _ _ _⟩
   generalize w3.drewN q = wq at *
   have H1 := Lib.hid hs1
   have H2 := Lib.hid hs2
   have hE := Lib.hid (fun W (h : Below w.heap.size w W) => eqBytes_any s1.A s2.A s1.xs.length s2.xs.length s1.c s2.c s1.xs s2.xs W rfl rfl (hm1.rd.below h) (hm2.rd.below h) hm1.lim hm2.lim)
   clear hs1 hs2 hc1 hc2 ks1 ks2 hm1 hm2
   have hst : Hid ((L1.map Sl.xs).take (i + 1) = (L1.map Sl.xs).take i ++ [s1.xs] ∧ (L2.map Sl.xs).take (i + 1) = (L2.map Sl.xs).take i ++ [s2.xs]) := by
    refine ⟨?_, ?_⟩
    ·rw [List.take_add_one, List.getElem?_map, H1.out]
     rfl
    ·rw [List.take_add_one, List.getElem?_map, H2.out]
     rfl
   by_cases hx : s1.xs = s2.xs
   ·have hdec : decide (s1.xs = s2.xs) = true := by simp [hx]
    have hE : Hid (∀ W, Below w.heap.size w W → Calls Tryz.prog 37 #[.slice s1.A s1.xs.length s1.c, .slice s2.A s2.xs.length s2.c] W (fun e w' => e = .returned (.bool true) ∧ w' = W)) := fun W h => by rw [← hdec]; exact (hE.out W h).mono fun _ _ h => ⟨h.1, h.2.symm⟩
    have HX := Lib.hid hx
    clear hx hdec
    generalize s1.xs.length = n1 at *
    generalize s2.xs.length = n2 at *
    go_wp2_with fail
    go_quiet ((go_at_call 37; with_reducible exact Calls.quiet_of_same (hE.out _ (by first | exact below_drewN eq _ | exact below_drew eq | exact eq))))
    go_wp2_with fail
    go_roundw
    case rel =>
     obtain ⟨m, hm⟩ := hnext.out nq
     exact ⟨i + 1, m, by go_num, by omega, by
      show _ = _
      rw [hst.out.1, hst.out.2, ht.out, HX.out], hm⟩
    case measure => simp [intOf]; omega
   ·have hdec : decide (s1.xs = s2.xs) = false := by simp [hx]
    have hE : Hid (∀ W, Below w.heap.size w W → Calls Tryz.prog 37 #[.slice s1.A s1.xs.length s1.c, .slice s2.A s2.xs.length s2.c] W (fun e w' => e = .returned (.bool false) ∧ w' = W)) := fun W h => by rw [← hdec]; exact (hE.out W h).mono fun _ _ h => ⟨h.1, h.2.symm⟩
    have hfin : Hid (decide (c.say = d.say) = false) := by
     show _ = _
     rw [hsay.out]
     have : ¬ L1.map Sl.xs = L2.map Sl.xs := fun e => by
      have h1 := hst.out.1
      rw [e, hst.out.2, ← ht.out] at h1
      simp at h1
      exact hx h1.symm
     simp [this]
    clear hx hdec
    generalize s1.xs.length = n1 at *
    generalize s2.xs.length = n2 at *
    go_wp2_with fail
    go_quiet ((go_at_call 37; with_reducible exact Calls.quiet_of_same (hE.out _ (by first | exact below_drewN eq _ | exact below_drew eq | exact eq))))
    go_wp2_with fail
    go_ret
    rw [hfin.out]
    exact ⟨rfl, below_drewN eq _⟩
  ·obtain rfl : i = 7 := by omega
   have hall : Hid (decide (L1.map Sl.xs = L2.map Sl.xs) = true) := by
    have h1 := ht.out
    rw [List.take_of_length_le (by simp [l1]), List.take_of_length_le (by simp [l2])] at h1
    show _ = _
    simp [h1]
   have hfin : Hid (decide (c.say = d.say) = flatB c d) := by
    show _ = _
    rw [hsay.out, hall.out, Bool.true_and]
   clear hall hsay ht ks1 ks2 S1 S2 l1 l2
   obtain ⟨Y0, Y1⟩ := Y q
   replace eY := eY q
   clear Y e1 R0 R1
   generalize w3.drewN q = w4 at *
   have ka5 : w4.rangeAt w.heap.size 5 c.frm.cells := crt_frm Y0
   have kb5 : w4.rangeAt (w.heap.size + 1) 5 d.frm.cells := crt_frm Y1
   have ka11 : w4.rangeAt w.heap.size 11 c.til.cells := crt_til Y0
   have kb11 : w4.rangeAt (w.heap.size + 1) 11 d.til.cells := crt_til Y1
   have ka18 : w4.cell? ⟨w.heap.size, 18, none⟩ = some (.int .u64 (c.e : Int)) := Y0.cell (i := 18) rfl
   have kb18 : w4.cell? ⟨w.heap.size + 1, 18, none⟩ = some (.int .u64 (d.e : Int)) := Y1.cell (i := 18) rfl
   have ka20 : w4.cell? ⟨w.heap.size, 20, none⟩ = some (.bool c.ca) := Y0.cell (i := 20) rfl
   have kb20 : w4.cell? ⟨w.heap.size + 1, 20, none⟩ = some (.bool d.ca) := Y1.cell (i := 20) rfl
   have ka21 : w4.cell? ⟨w.heap.size, 21, none⟩ = some (.int .i64 c.path) := Y0.cell (i := 21) rfl
   have kb21 : w4.cell? ⟨w.heap.size + 1, 21, none⟩ = some (.int .i64 d.path) := Y1.cell (i := 21) rfl
   have ka22 : w4.cell? ⟨w.heap.size, 22, none⟩ = some (.int .i64 c.usage) := Y0.cell (i := 22) rfl
   have kb22 : w4.cell? ⟨w.heap.size + 1, 22, none⟩ = some (.int .i64 d.usage) := Y1.cell (i := 22) rfl
   have ka23 : w4.cell? ⟨w.heap.size, 23, none⟩ = some (.bool c.code) := Y0.cell (i := 23) rfl
   have kb23 : w4.cell? ⟨w.heap.size + 1, 23, none⟩ = some (.bool d.code) := Y1.cell (i := 23) rfl
   have E1 := tm_eq c.frm d.frm
   have E2 := tm_eq c.til d.til
   have E3 := nat_beq c.e d.e
   have E4 : (c.ca == d.ca) = decide (c.ca = d.ca) := by cases c.ca <;> cases d.ca <;> rfl
   have E5 : (c.path == d.path) = decide (c.path = d.path) := rfl
   have E6 : (c.usage == d.usage) = decide (c.usage = d.usage) := rfl
   have E7 : (c.code == d.code) = decide (c.code = d.code) := by cases c.code <;> cases d.code <;> rfl
   unfold flatB at hfin
   generalize decide (c.say = d.say) = R at *
   clear Y0 Y1
   generalize decide (c.frm = d.frm) = b1 at *
   generalize decide (c.til = d.til) = b2 at *
   generalize decide (c.e = d.e) = b3 at *
   generalize decide (c.ca = d.ca) = b4 at *
   generalize decide (c.path = d.path) = b5 at *
   generalize decide (c.usage = d.usage) = b6 at *
   generalize decide (c.code = d.code) = b7 at *
   cases b1
   ·go_wp2_with (first
    | ((with_reducible refine wpList_load_if 25 (.tmp 56) ?_ w.heap.size 5 c.frm.cells _ ka5 Tryz.underlying25 ?_ (sz_tm _) ?_ ?_ ?_); (· rfl); (· rfl); (· rfl); (· rfl))
    | ((with_reducible refine wpList_load_if 25 (.tmp 58) ?_ (w.heap.size + 1) 5 d.frm.cells _ kb5 Tryz.underlying25 ?_ (sz_tm _) ?_ ?_ ?_); (· rfl); (· rfl); (· rfl); (· rfl))
    | ((with_reducible refine wpList_eql_tm (.tmp 57) (.tmp 59) ?_ c.frm.cells.toArray d.frm.cells.toArray _ E1 ?_ ?_ ?_ ?_); (· rfl); (· rfl); (· rfl); (· rfl)))
    go_ret
    exact ⟨by rw [hfin.out]; rfl, eY⟩
   cases b2
   ·go_wp2_with (first
    | ((with_reducible refine wpList_load_if 25 (.tmp 56) ?_ w.heap.size 5 c.frm.cells _ ka5 Tryz.underlying25 ?_ (sz_tm _) ?_ ?_ ?_); (· rfl); (· rfl); (· rfl); (· rfl))
    | ((with_reducible refine wpList_load_if 25 (.tmp 58) ?_ (w.heap.size + 1) 5 d.frm.cells _ kb5 Tryz.underlying25 ?_ (sz_tm _) ?_ ?_ ?_); (· rfl); (· rfl); (· rfl); (· rfl))
    | ((with_reducible refine wpList_load_if 25 (.tmp 62) ?_ w.heap.size 11 c.til.cells _ ka11 Tryz.underlying25 ?_ (sz_tm _) ?_ ?_ ?_); (· rfl); (· rfl); (· rfl); (· rfl))
    | ((with_reducible refine wpList_load_if 25 (.tmp 64) ?_ (w.heap.size + 1) 11 d.til.cells _ kb11 Tryz.underlying25 ?_ (sz_tm _) ?_ ?_ ?_); (· rfl); (· rfl); (· rfl); (· rfl))
    | ((with_reducible refine wpList_eql_tm (.tmp 57) (.tmp 59) ?_ c.frm.cells.toArray d.frm.cells.toArray _ E1 ?_ ?_ ?_ ?_); (· rfl); (· rfl); (· rfl); (· rfl))
    | ((with_reducible refine wpList_eql_tm (.tmp 63) (.tmp 65) ?_ c.til.cells.toArray d.til.cells.toArray _ E2 ?_ ?_ ?_ ?_); (· rfl); (· rfl); (· rfl); (· rfl)))
    go_ret
    exact ⟨by rw [hfin.out]; rfl, eY⟩
   cases b3
   ·go_wp2_with (first
    | ((with_reducible refine wpList_load_if 25 (.tmp 56) ?_ w.heap.size 5 c.frm.cells _ ka5 Tryz.underlying25 ?_ (sz_tm _) ?_ ?_ ?_); (· rfl); (· rfl); (· rfl); (· rfl))
    | ((with_reducible refine wpList_load_if 25 (.tmp 58) ?_ (w.heap.size + 1) 5 d.frm.cells _ kb5 Tryz.underlying25 ?_ (sz_tm _) ?_ ?_ ?_); (· rfl); (· rfl); (· rfl); (· rfl))
    | ((with_reducible refine wpList_load_if 25 (.tmp 62) ?_ w.heap.size 11 c.til.cells _ ka11 Tryz.underlying25 ?_ (sz_tm _) ?_ ?_ ?_); (· rfl); (· rfl); (· rfl); (· rfl))
    | ((with_reducible refine wpList_load_if 25 (.tmp 64) ?_ (w.heap.size + 1) 11 d.til.cells _ kb11 Tryz.underlying25 ?_ (sz_tm _) ?_ ?_ ?_); (· rfl); (· rfl); (· rfl); (· rfl))
    | ((with_reducible refine wpList_eql_tm (.tmp 57) (.tmp 59) ?_ c.frm.cells.toArray d.frm.cells.toArray _ E1 ?_ ?_ ?_ ?_); (· rfl); (· rfl); (· rfl); (· rfl))
    | ((with_reducible refine wpList_eql_tm (.tmp 63) (.tmp 65) ?_ c.til.cells.toArray d.til.cells.toArray _ E2 ?_ ?_ ?_ ?_); (· rfl); (· rfl); (· rfl); (· rfl)))
    go_ret
    exact ⟨by rw [hfin.out]; rfl, eY⟩
   cases b4
   ·go_wp2_with (first
    | ((with_reducible refine wpList_load_if 25 (.tmp 56) ?_ w.heap.size 5 c.frm.cells _ ka5 Tryz.underlying25 ?_ (sz_tm _) ?_ ?_ ?_); (· rfl); (· rfl); (· rfl); (· rfl))
    | ((with_reducible refine wpList_load_if 25 (.tmp 58) ?_ (w.heap.size + 1) 5 d.frm.cells _ kb5 Tryz.underlying25 ?_ (sz_tm _) ?_ ?_ ?_); (· rfl); (· rfl); (· rfl); (· rfl))
    | ((with_reducible refine wpList_load_if 25 (.tmp 62) ?_ w.heap.size 11 c.til.cells _ ka11 Tryz.underlying25 ?_ (sz_tm _) ?_ ?_ ?_); (· rfl); (· rfl); (· rfl); (· rfl))
    | ((with_reducible refine wpList_load_if 25 (.tmp 64) ?_ (w.heap.size + 1) 11 d.til.cells _ kb11 Tryz.underlying25 ?_ (sz_tm _) ?_ ?_ ?_); (· rfl); (· rfl); (· rfl); (· rfl))
    | ((with_reducible refine wpList_eql_tm (.tmp 57) (.tmp 59) ?_ c.frm.cells.toArray d.frm.cells.toArray _ E1 ?_ ?_ ?_ ?_); (· rfl); (· rfl); (· rfl); (· rfl))
    | ((with_reducible refine wpList_eql_tm (.tmp 63) (.tmp 65) ?_ c.til.cells.toArray d.til.cells.toArray _ E2 ?_ ?_ ?_ ?_); (· rfl); (· rfl); (· rfl); (· rfl)))
    go_ret
    exact ⟨by rw [hfin.out]; rfl, eY⟩
   cases b5
   ·go_wp2_with (first
    | ((with_reducible refine wpList_load_if 25 (.tmp 56) ?_ w.heap.size 5 c.frm.cells _ ka5 Tryz.underlying25 ?_ (sz_tm _) ?_ ?_ ?_); (· rfl); (· rfl); (· rfl); (· rfl))
    | ((with_reducible refine wpList_load_if 25 (.tmp 58) ?_ (w.heap.size + 1) 5 d.frm.cells _ kb5 Tryz.underlying25 ?_ (sz_tm _) ?_ ?_ ?_); (· rfl); (· rfl); (· rfl); (· rfl))
    | ((with_reducible refine wpList_load_if 25 (.tmp 62) ?_ w.heap.size 11 c.til.cells _ ka11 Tryz.underlying25 ?_ (sz_tm _) ?_ ?_ ?_); (· rfl); (· rfl); (· rfl); (· rfl))
    | ((with_reducible refine wpList_load_if 25 (.tmp 64) ?_ (w.heap.size + 1) 11 d.til.cells _ kb11 Tryz.underlying25 ?_ (sz_tm _) ?_ ?_ ?_); (· rfl); (· rfl); (· rfl); (· rfl))
    | ((with_reducible refine wpList_eql_tm (.tmp 57) (.tmp 59) ?_ c.frm.cells.toArray d.frm.cells.toArray _ E1 ?_ ?_ ?_ ?_); (· rfl); (· rfl); (· rfl); (· rfl))
    | ((with_reducible refine wpList_eql_tm (.tmp 63) (.tmp 65) ?_ c.til.cells.toArray d.til.cells.toArray _ E2 ?_ ?_ ?_ ?_); (· rfl); (· rfl); (· rfl); (· rfl)))
    go_ret
    exact ⟨by rw [hfin.out]; rfl, eY⟩
   cases b6
   ·go_wp2_with (first
    | ((with_reducible refine wpList_load_if 25 (.tmp 56) ?_ w.heap.size 5 c.frm.cells _ ka5 Tryz.underlying25 ?_ (sz_tm _) ?_ ?_ ?_); (· rfl); (· rfl); (· rfl); (· rfl))
    | ((with_reducible refine wpList_load_if 25 (.tmp 58) ?_ (w.heap.size + 1) 5 d.frm.cells _ kb5 Tryz.underlying25 ?_ (sz_tm _) ?_ ?_ ?_); (· rfl); (· rfl); (· rfl); (· rfl))
    | ((with_reducible refine wpList_load_if 25 (.tmp 62) ?_ w.heap.size 11 c.til.cells _ ka11 Tryz.underlying25 ?_ (sz_tm _) ?_ ?_ ?_); (· rfl); (· rfl); (· rfl); (· rfl))
    | ((with_reducible refine wpList_load_if 25 (.tmp 64) ?_ (w.heap.size + 1) 11 d.til.cells _ kb11 Tryz.underlying25 ?_ (sz_tm _) ?_ ?_ ?_); (· rfl); (· rfl); (· rfl); (· rfl))
    | ((with_reducible refine wpList_eql_tm (.tmp 57) (.tmp 59) ?_ c.frm.cells.toArray d.frm.cells.toArray _ E1 ?_ ?_ ?_ ?_); (· rfl); (· rfl); (· rfl); (· rfl))
    | ((with_reducible refine wpList_eql_tm (.tmp 63) (.tmp 65) ?_ c.til.cells.toArray d.til.cells.toArray _ E2 ?_ ?_ ?_ ?_); (· rfl); (· rfl); (· rfl); (· rfl)))
    go_ret
    exact ⟨by rw [hfin.out]; rfl, eY⟩
   cases b7
   ·go_wp2_with (first
    | ((with_reducible refine wpList_load_if 25 (.tmp 56) ?_ w.heap.size 5 c.frm.cells _ ka5 Tryz.underlying25 ?_ (sz_tm _) ?_ ?_ ?_); (· rfl); (· rfl); (· rfl); (· rfl))
    | ((with_reducible refine wpList_load_if 25 (.tmp 58) ?_ (w.heap.size + 1) 5 d.frm.cells _ kb5 Tryz.underlying25 ?_ (sz_tm _) ?_ ?_ ?_); (· rfl); (· rfl); (· rfl); (· rfl))
    | ((with_reducible refine wpList_load_if 25 (.tmp 62) ?_ w.heap.size 11 c.til.cells _ ka11 Tryz.underlying25 ?_ (sz_tm _) ?_ ?_ ?_); (· rfl); (· rfl); (· rfl); (· rfl))
    | ((with_reducible refine wpList_load_if 25 (.tmp 64) ?_ (w.heap.size + 1) 11 d.til.cells _ kb11 Tryz.underlying25 ?_ (sz_tm _) ?_ ?_ ?_); (· rfl); (· rfl); (· rfl); (· rfl))
    | ((with_reducible refine wpList_eql_tm (.tmp 57) (.tmp 59) ?_ c.frm.cells.toArray d.frm.cells.toArray _ E1 ?_ ?_ ?_ ?_); (· rfl); (· rfl); (· rfl); (· rfl))
    | ((with_reducible refine wpList_eql_tm (.tmp 63) (.tmp 65) ?_ c.til.cells.toArray d.til.cells.toArray _ E2 ?_ ?_ ?_ ?_); (· rfl); (· rfl); (· rfl); (· rfl)))
    go_ret
    exact ⟨by rw [hfin.out]; rfl, eY⟩
   go_wp2_with (first
    | ((with_reducible refine wpList_load_if 25 (.tmp 56) ?_ w.heap.size 5 c.frm.cells _ ka5 Tryz.underlying25 ?_ (sz_tm _) ?_ ?_ ?_); (· rfl); (· rfl); (· rfl); (· rfl))
    | ((with_reducible refine wpList_load_if 25 (.tmp 58) ?_ (w.heap.size + 1) 5 d.frm.cells _ kb5 Tryz.underlying25 ?_ (sz_tm _) ?_ ?_ ?_); (· rfl); (· rfl); (· rfl); (· rfl))
    | ((with_reducible refine wpList_load_if 25 (.tmp 62) ?_ w.heap.size 11 c.til.cells _ ka11 Tryz.underlying25 ?_ (sz_tm _) ?_ ?_ ?_); (· rfl); (· rfl); (· rfl); (· rfl))
    | ((with_reducible refine wpList_load_if 25 (.tmp 64) ?_ (w.heap.size + 1) 11 d.til.cells _ kb11 Tryz.underlying25 ?_ (sz_tm _) ?_ ?_ ?_); (· rfl); (· rfl); (· rfl); (· rfl))
    | ((with_reducible refine wpList_eql_tm (.tmp 57) (.tmp 59) ?_ c.frm.cells.toArray d.frm.cells.toArray _ E1 ?_ ?_ ?_ ?_); (· rfl); (· rfl); (· rfl); (· rfl))
    | ((with_reducible refine wpList_eql_tm (.tmp 63) (.tmp 65) ?_ c.til.cells.toArray d.til.cells.toArray _ E2 ?_ ?_ ?_ ?_); (· rfl); (· rfl); (· rfl); (· rfl)))
   go_ret
   exact ⟨by rw [hfin.out]; rfl, eY⟩
end Go.Proofs.YtchaahnhpeoomaaGreat
namespace Go.Proofs.YtchaahnhpeoomaaGreat
set_option linter.unusedVariables false
set_option linter.unusedSimpArgs false
set_option maxRecDepth 20000
open Go.RowKit
def d5 : List Nat := [5, 0, 0, 0, 0, 0, 0, 0, 0, 0, 0, 0, 0, 0, 0, 0, 0, 0, 0, 0, 0, 0, 0, 0, 0, 0, 0, 0, 0, 0, 0, 0]
def d6 : List Nat := [6, 0, 0, 0, 0, 0, 0, 0, 0, 0, 0, 0, 0, 0, 0, 0, 0, 0, 0, 0, 0, 0, 0, 0, 0, 0, 0, 0, 0, 0, 0, 0]
theorem wpList_alloc_row {P : Program} {ops : Array Oper} {rest : List Oper} {o : Oper} {a : Act} {w : World} {Q : Exit → Act → World → Prop} (hgd : o.guard = none) (ty : TypeId) (ho : o.op = .alloc ty) (cs : List Value) (hz : (P.info? ty).map (fun i => i.zero) = some (some (.agg cs.toArray)))
  (h : ∀ g w', Hid (g = w.heap.size) → Cut w' g 0 cs → w'.heap.size = w.heap.size + 1 → Below w.heap.size w w' → wpList P ops Q rest (a.put o.dst (.pointer (some ⟨g, 0, none⟩))) w') : wpList P ops Q (o :: rest) a w := by
 refine wpList_plain hgd fun K hK => ?_
 obtain ⟨i, hi, hzz⟩ := Option.map_eq_some_iff.1 hz
 have hzero : (zeroValue ty).run P w = .ok (.agg cs.toArray) w := by simp [zeroValue, typeInfo, hi, hzz]
 unfold Oper.wp execOp
 simp only [ho, Instr.alloc, Sem.run_bind, Sem.run_pure, hzero, Result.andThen, newVar, run_newObj_alloc]
 refine hK _ _ (h w.heap.size _ rfl ?_ (by simp) ((Below.refl _ _).alloc (Nat.le_refl _) (.cells cs.toArray ty)))
 exact Cut.of_heap (heap_alloc_new w (.cells cs.toArray ty)) fun i v hv => by simpa using hv
end Go.Proofs.YtchaahnhpeoomaaGreat
