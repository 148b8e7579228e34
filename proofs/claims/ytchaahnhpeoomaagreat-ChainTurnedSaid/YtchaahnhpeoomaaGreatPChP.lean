/-
 lintellaw13.ladder: three certificates, each signed by the next one.
-/
import Derived.Test.YtchaahnhpeoomaaGreatPChLa
namespace Go.Proofs.YtchaahnhpeoomaaGreat
set_option linter.unusedVariables false
set_option linter.unusedSimpArgs false
set_option maxRecDepth 20000
open Go.RowKit
def plainOf (x : Nat) : Rung := ⟨[x], 0, true, true, -1, -1⟩
def rungs3 : List Rung := [plainOf 97, plainOf 98, plainOf 99]
theorem rungs3_ok : ∀ r ∈ rungs3, RungOk r := fun r hr => by
 simp only [rungs3, List.mem_cons, List.not_mem_nil, or_false] at hr
 rcases hr with rfl | rfl | rfl <;> exact ⟨⟨by decide, fun x hx => by simp [plainOf] at hx; omega⟩, by decide, rfl, rfl, rfl⟩
theorem bstr_a : bstr [97] = ⟨#[97]⟩ := by kernel_rfl
theorem bstr_b : bstr [98] = ⟨#[98]⟩ := by kernel_rfl
theorem bstr_c : bstr [99] = ⟨#[99]⟩ := by kernel_rfl
theorem fill_rung3 (c d e : Rung) (z : Array Value) (hz : z = #[.string ⟨#[]⟩, .int .u8 0, .bool false, .bool false, .int .i64 0, .int .i64 0]) : Instr.fill (fun i => some (i * 6, 6)) ((Array.range (3 * 6)).map (z[· % z.size]!)) [(0, .agg c.cells.toArray), (1, .agg d.cells.toArray), (2, .agg e.cells.toArray)] = some (c.cells ++ d.cells ++ e.cells).toArray := by
 subst hz
 kernel_rfl
theorem wpList_build_rung3 {w : World} {ops : Array Oper} {rest : List Oper} {o : Oper} {a : Act} {Q : Exit → Act → World → Prop} (hgd : o.guard = none) (x y z : Operand) (ho : o.op = .buildSlice 123 3 #[(0, x), (1, y), (2, z)]) (c d e : Rung) (hx : a.eval x = .agg c.cells.toArray) (hy : a.eval y = .agg d.cells.toArray) (hz : a.eval z = .agg e.cells.toArray)
  (h : ∀ g w', Hid (g = w.heap.size) → Row w' g 0 (rungCells [c, d, e]) → w'.heap.size = w.heap.size + 1 → Below w.heap.size w w' → wpList Tryz.prog ops Q rest (a.put o.dst (.slice (some ⟨g, 0, none⟩) 3 3)) w') : wpList Tryz.prog ops Q (o :: rest) a w := by
 obtain ⟨i, hi, hzz⟩ := Option.map_eq_some_iff.1 info_rung
 simp only [Prod.mk.injEq] at hzz
 obtain ⟨hz0, hs1, hb⟩ := hzz
 refine wpList_buildSlice hgd 123 125 3 #[(0, x), (1, y), (2, z)] ho (c.cells ++ d.cells ++ e.cells).toArray i (.agg #[.string ⟨#[]⟩, .int .u8 0, .bool false, .bool false, .int .i64 0, .int .i64 0]) Tryz.underlying123 hi hz0 (by rw [hs1]; decide) (by rw [hs1]; decide) ?_ (h w.heap.size _ rfl ?_ (by simp) ((Below.refl _ _).alloc (Nat.le_refl _) _))
 ·rw [hs1]
  simp only [List.map_toArray, List.map_cons, List.map_nil, hx, hy, hz]
  exact fill_rung3 c d e _ rfl
 ·refine Row.of_cut (Cut.of_heap (heap_alloc_new _ _) fun i v hv => ?_)
  simpa [rungCells] using hv
def Lad13Post (w : World) (e : Ending) (w' : World) : Prop := ∃ (cs : List Crt) (v : Value), e = .returned v ∧ w'.ownsRow w.heap.size 30 24 v 3 (crtCells cs) ∧ cs.length = 3 ∧ cs.map Crt.say = ladderB rungs3 [1] 3 ∧ (∀ c ∈ cs, c.ok w') ∧ Below w.heap.size w w'
set_option maxRecDepth 100000 in
set_option maxHeartbeats 4000000 in
theorem ladder13_any (w : World) : Calls Tryz.prog 45 #[] w (Lad13Post w) := by
 have p1 := fun W => plain_any [97] W
 have p2 := fun W => plain_any [98] W
 have p3 := fun W => plain_any [99] W
 simp only [bstr_a] at p1
 simp only [bstr_b] at p2
 simp only [bstr_c] at p3
 go_enter Tryz.func45, Tryz.ntmps45
 go_wp2_with fail
 refine (p1 w).mono ?_
 rintro r1 w1 ⟨rfl, e1⟩
 go_wp2_with fail
 refine (p2 w1).mono ?_
 rintro r2 w2 ⟨rfl, e2⟩
 go_wp2_with fail
 refine (p3 w2).mono ?_
 rintro r3 w3 ⟨rfl, e3⟩
 clear p1 p2 p3
 have e13 := e1.trans ((e2.trans (e3.mono e2.size)).mono e1.size)
 go_wp2_with (refine wpList_build_rung3 rfl (.tmp 1) (.tmp 2) (.tmp 3) rfl (plainOf 97) (plainOf 98) (plainOf 99) rfl rfl rfl ?_; intro g4 w4 hg4 R4 z4 e4)
 have hk1 := rd_1 w4
 have z4' : w4.heap.size = w3.heap.size + 1 := z4
 rw [z4'] at hk1
 obtain ⟨w5, hw5⟩ : ∃ u, u = w4.alloc (.cells #[.int .u8 1] 5) := ⟨_, rfl⟩
 have e5 : Below w4.heap.size w4 w5 := by rw [hw5]; exact (Below.refl _ _).alloc (Nat.le_refl _) _
 rw [← hw5] at hk1 ⊢
 clear hw5
 have hq := ladder_any g4 0 3 3 (some ⟨g4, 0, none⟩) rungs3 (some ⟨w3.heap.size + 1, 0, none⟩) 1 3 [1] w5 rfl (by decide) (.inr rfl) (R4.below e5) rungs3_ok hk1 (by decide) (by decide)
 refine Calls.mono hq ?_
 clear hq
 rintro r6 w6 ⟨cs, v, rfl, own, hl, hsay, hok, -, e6⟩
 have s13 := e13.size
 have s4 := e4.size
 have s5 := e5.size
 have eAll : Below w.heap.size w w6 := ((e13.trans (e4.mono s13)).trans (e5.mono (by omega))).trans (e6.mono (by omega))
 have own' := own_base own (B' := w.heap.size) (by omega)
 clear e1 e2 e3 e13 e4 e5 e6 own hk1 R4 z4 z4'
 go_wp2_with fail
 go_ret
 exact ⟨cs, v, rfl, own', hl, hsay, hok, eAll⟩
end Go.Proofs.YtchaahnhpeoomaaGreat
