/-
  The anchors of the statements (works, alive): a signature is right at all. Holds for every digest.
-/
import Derived.Test.YtfclpieijbgodaaRsaJ
namespace Go.Proofs.Ytfclpieijbgodaa
set_option linter.unusedVariables false
set_option linter.unusedSimpArgs false
open Go.RowKit

def z32 : List Nat := List.replicate 32 0
def d9 : List Nat := 9 :: List.replicate 31 0
def d91 : List Nat := 9 :: 1 :: List.replicate 30 0
theorem d9_set : z32.set 0 9 = d9 := by decide
theorem d91_set : d9.set 1 1 = d91 := by decide
theorem d9_at : d9[1]? = some 0 := by decide
theorem d9_ne : decide (d9 = d91) = false := by decide
theorem d9_len : d9.length = 32 := by decide
theorem d91_len : d91.length = 32 := by decide
theorem d9_lim : Lim 256 d9 := lim_small (by decide)
theorem d91_lim : Lim 256 d91 := lim_small (by decide)
theorem wpList_alloc_arr {P : Program} {ops : Array Oper} {rest : List Oper} {o : Oper} {a : Act} {w : World} {Q : Exit → Act → World → Prop} (hgd : o.guard = none) (ty : TypeId) (ho : o.op = .alloc ty) (k : IntKind) (n : Nat) (hz : (P.info? ty).map (fun i => i.zero) = some (some (.agg (ints k (List.replicate n 0)).toArray)))
    (h : ∀ g w', Hid (g = w.heap.size) → Whl k ty w' g (List.replicate n 0) → w'.heap.size = w.heap.size + 1 → Below w.heap.size w w' → wpList P ops Q rest (a.put o.dst (.pointer (some ⟨g, 0, none⟩))) w') : wpList P ops Q (o :: rest) a w := by
  refine wpList_plain hgd fun K hK => ?_
  obtain ⟨i, hi, hzz⟩ := Option.map_eq_some_iff.1 hz
  have hzero : (zeroValue ty).run P w = .ok (.agg (ints k (List.replicate n 0)).toArray) w := by simp [zeroValue, typeInfo, hi, hzz]
  unfold Oper.wp execOp
  simp only [ho, Instr.alloc, Sem.run_bind, Sem.run_pure, hzero, Result.andThen, newVar, run_newObj_alloc]
  exact hK _ _ (h w.heap.size _ rfl (whl_new0 w _) (by simp) ((Below.refl _ _).alloc (Nat.le_refl _) _))
theorem wpList_load_whl_if {P : Program} {ops : Array Oper} {rest : List Oper} {op : Oper} {a : Act} {w : World} {Q : Exit → Act → World → Prop} (hgd : Region.wanted op (yielded ops a.tmps) = true) (ty : TypeId) (x : Operand) (ho : op.op = .load ty x)
    (g : Nat) (hx : a.eval x = .pointer (some ⟨g, 0, none⟩)) (k : IntKind) (e : TypeId) (cs : List Nat) (hw : Whl k e w g cs) (d : TypeDesc)
    (hu : P.underlying ty = some d) (hd : d.isRow = true) (hi : (P.info? ty).map (·.size) = some cs.length)
    (h : wpList P ops Q rest (a.put op.dst (.agg (ints k cs).toArray)) w) : wpList P ops Q (op :: rest) a w :=
  wpList_step fun K hK => by
    rw [if_pos hgd]
    exact wp_load_mid ty x ho g 0 hx (ints k cs) d (Cut.of_blk hw.blk).range hu hd (by rw [hi, ints_length]) (hK _ _ h)
theorem zero_32u8 : (Try.prog.info? 49).map (fun i => i.zero) = some (some (.agg (ints .u8 z32).toArray)) := by kernel_rfl
theorem z32_at : z32[0]? = some 0 := by decide
theorem KeyAt.far {w : World} {g : Nat} {A : Option Addr} {n c e : Nat} (h : KeyAt w g A n c e) {p : Addr} (hp : g ≠ p.block) (u : Value) : KeyAt (w.setCell p u) g A n c e :=
  ⟨(World.cell?_setCell_other w p ⟨g, 0, none⟩ u (by rintro rfl; exact hp rfl)).trans h.c0, (World.cell?_setCell_other w p ⟨g, 1, none⟩ u (by rintro rfl; exact hp rfl)).trans h.c1, by simpa using h.lt⟩
set_option maxRecDepth 100000 in
set_option maxHeartbeats 1600000 in
theorem works06_any (w : World) : Calls Try.prog 51 #[] w (Yes w) := by
  have hl9 := Lib.hid d9_len
  go_enter Try.func51, Try.ntmps51
  go_wp2_with (first
    | (refine wpList_alloc_arr rfl 49 rfl .u8 32 zero_32u8 ?_
       intro g w1 hg (hw1 : Whl .u8 49 w1 g z32) hs1 hb1
       have c0 := hw1.blk.cell z32_at
       have f0 := hw1.blk.frozen z32_at
       have hw2 : Whl .u8 49 (w1.setCell ⟨g, 0, none⟩ (.int .u8 9)) g d9 := by rw [← d9_set]; exact hw1.set 0 9
       have hgw : w.heap.size ≤ g := by rw [hg.out]; exact Nat.le_refl _
       have hb2 : Below w.heap.size w (w1.setCell ⟨g, 0, none⟩ (.int .u8 9)) := hb1.setCell hgw _
       clear hw1 hb1 hs1)
    | (refine wpList_load_whl rfl 49 (.tmp 1) rfl g rfl .u8 _ d9 hw2 _ Try.underlying49 rfl (by rw [hl9.out]; exact size_32u8) ?_))
  generalize w1.setCell ⟨g, 0, none⟩ (.int .u8 9) = w2 at *
  clear c0 f0
  refine (for_any d9 w2 d9_len d9_lim).mono ?_
  rintro r w3 ⟨A, c, B, d, rfl, h3a, h3b, oA, h3c, h3d, oB, e3⟩
  unfold keyVal
  have hw3 := hw2.below e3
  have e3 := hb2.trans (e3.mono hb2.size)
  have hgl := hw3.lt
  have c1 := hw3.blk.cell d9_at
  have f1 := hw3.blk.frozen d9_at
  have hw4 : Whl .u8 49 (w3.setCell ⟨g, 1, none⟩ (.int .u8 1)) g d91 := by rw [← d91_set]; exact hw3.set 1 1
  have oA := own_far_new oA (p := ⟨g, 1, none⟩) hw2.lt (.int .u8 1)
  have oB := own_far_new oB (p := ⟨g, 1, none⟩) hw2.lt (.int .u8 1)
  have e4 : Below w.heap.size w (w3.setCell ⟨g, 1, none⟩ (.int .u8 1)) := e3.setCell hgw _
  have e5 : Below (w3.setCell ⟨g, 1, none⟩ (.int .u8 1)).heap.size (w3.setCell ⟨g, 1, none⟩ (.int .u8 1)) ((w3.setCell ⟨g, 1, none⟩ (.int .u8 1)).alloc (.cells #[.slice A 256 c, .int .u64 3] 52)) := (Below.refl _ _).alloc (Nat.le_refl _) _
  have hw5 := hw4.below e5
  have oA := oA.rd.below e5
  have oB := oB.rd.below e5
  have e5 := e4.trans (e5.mono e4.size)
  have K5 : KeyAt ((w3.setCell ⟨g, 1, none⟩ (.int .u8 1)).alloc (.cells #[.slice A 256 c, .int .u64 3] 52)) w3.heap.size A 256 c 3 := by
    have := key_new (w3.setCell ⟨g, 1, none⟩ (.int .u8 1)) A 256 c 3 52
    rwa [World.size_setCell] at this
  clear hw4 e4 hw2
  have k0 := K5.c0
  have k1 := K5.c1
  go_wp2_with fail
  clear c1 f1 k0 k1
  generalize ((w3.setCell ⟨g, 1, none⟩ (.int .u8 1)).alloc (.cells #[.slice A 256 c, .int .u64 3] 52)) = w5 at *
  have hS := sound_any A 256 c 3 (forKey d9) w5 (forKey_len d9).symm (by omega) oA (forKey_lim d9) (by omega)
  rw [soundE_yes (for_sounds d9_len d9_lim)] at hS
  unfold keyVal at hS
  refine hS.mono ?_
  rintro r w6 ⟨rfl, e6⟩
  have K6 := K5.below e6
  have hw6 := hw5.below e6
  have oA := oA.below e6
  have oB := oB.below e6
  have e6 := e5.trans (e6.mono e5.size)
  clear hS hw5 K5 e5
  have k0 := K6.c0
  have k1 := K6.c1
  go_wp2_with (refine wpList_load_whl_if rfl 49 (.tmp 1) rfl g rfl .u8 _ d91 hw6 _ Try.underlying49 rfl (by rw [d91_len]; exact size_32u8) ?_)
  have hV := verify_any A B 256 c 3 256 d (forKey d9) d91 (forSig d9) w6 (forKey_len d9).symm (forSig_len d9).symm (by omega) (by omega) oA oB (forKey_lim d9) (forSig_lim d9) d91_len d91_lim (by omega)
  rw [ver_for d9_len d9_lim, d9_ne] at hV
  unfold keyVal at hV
  refine hV.mono ?_
  rintro r w7 ⟨rfl, e7⟩
  have e7 := e6.trans (e7.mono e6.size)
  clear hV hw6 K6 k0 k1
  go_wp2_with fail
  go_ret
  exact ⟨rfl, e7⟩
set_option maxRecDepth 100000 in
set_option maxHeartbeats 1600000 in
theorem alive06_any (ds : List Nat) (w : World) (hd : ds.length = 32) (ld : Lim 256 ds) : Calls Try.prog 41 #[.agg (ints .u8 ds).toArray] w (Yes w) := by
  have hD : Whl .u8 49 (w.alloc (.cells (ints .u8 ds).toArray 49)) w.heap.size ds := whl_new0 _ _
  have e1 : Below w.heap.size w (w.alloc (.cells (ints .u8 ds).toArray 49)) := (Below.refl _ _).alloc (Nat.le_refl _) _
  have hl := Lib.hid hd
  clear hd
  go_enter Try.func41, Try.ntmps41
  go_wp2_with (refine wpList_load_whl_if rfl 49 (.tmp 1) rfl w.heap.size rfl .u8 _ ds hD _ Try.underlying49 rfl (by rw [hl.out]; exact size_32u8) ?_)
  generalize w.alloc (.cells (ints .u8 ds).toArray 49) = w1 at *
  refine (for_any ds w1 hl.out ld).mono ?_
  rintro r w3 ⟨A, c, B, d, rfl, h3a, h3b, oA, h3c, h3d, oB, e3⟩
  unfold keyVal
  have D3 := hD.below e3
  have e4 : Below w3.heap.size w3 (w3.alloc (.cells #[.slice A 256 c, .int .u64 3] 52)) := (Below.refl _ _).alloc (Nat.le_refl _) _
  have K4 := key_new w3 A 256 c 3 52
  have D4 := D3.below e4
  have oA := oA.rd.below e4
  have oB := oB.rd.below e4
  have e3 := e1.trans (e3.mono e1.size)
  have e4 := e3.trans (e4.mono e3.size)
  clear hD D3 e3 e1
  have k0 := K4.c0
  have k1 := K4.c1
  go_wp2_with (refine wpList_load_whl_if rfl 49 (.tmp 1) rfl w.heap.size rfl .u8 _ ds D4 _ Try.underlying49 rfl (by rw [hl.out]; exact size_32u8) ?_)
  have hV := verify_any A B 256 c 3 256 d (forKey ds) ds (forSig ds) _ (forKey_len ds).symm (forSig_len ds).symm (by omega) (by omega) oA oB (forKey_lim ds) (forSig_lim ds) hl.out ld (by omega)
  rw [ver_for hl.out ld, decide_eq_true rfl] at hV
  unfold keyVal at hV
  refine hV.mono ?_
  rintro r w7 ⟨rfl, e7⟩
  have e7 := e4.trans (e7.mono e4.size)
  clear hV D4 K4 k0 k1 e4
  go_wp2_with fail
  refine (works06_any w7).mono ?_
  rintro r w8 ⟨rfl, e8⟩
  have e8 := e7.trans (e8.mono e7.size)
  go_wp2_with fail
  go_ret
  exact ⟨rfl, e8⟩
end Go.Proofs.Ytfclpieijbgodaa
