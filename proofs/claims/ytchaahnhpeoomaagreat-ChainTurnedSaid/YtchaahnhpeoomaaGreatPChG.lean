/-
 Who is trusted; the closures of chain.Find.
-/
import Derived.Test.YtchaahnhpeoomaaGreatPChF
import Derived.Test.YtchaahnhpeoomaaGreatPOpnS
namespace Go.Proofs.YtchaahnhpeoomaaGreat
set_option linter.unusedVariables false
set_option linter.unusedSimpArgs false
set_option maxRecDepth 20000
open Go.RowKit
def trB (T : List Sl) (c : Crt) : Bool := T.any fun s => decide (s.xs = c.raw.xs)
theorem lt_cell {W : World} {p : Addr} {v : Value} (h : W.cell? p = some v) : p.block < W.heap.size := World.block_lt_of_cell? W _ h
theorem fa_trust0 (g off : Nat) (W : World) : (Instr.fieldAt 34 (.pointer (some ⟨g, off, none⟩)) 0).run Tryz.prog W = .ok (.pointer (some ⟨g, off, none⟩)) W := by go_simp
theorem ld_mat (p : Addr) (v : Value) : ∀ W : World, W.cell? p = some v → (Instr.loadAt 32 (.pointer (some p))).run Tryz.prog W = .ok v W := fun W h => by go_simp
theorem ia_mat (g off n c i : Nat) (h : i < n) (W : World) : (Instr.indexAt 32 (.slice (some ⟨g, off, none⟩) n c) (.int .i64 (i : Int))).run Tryz.prog W = .ok (.pointer (some ⟨g, off + i * 1, none⟩)) W := by
 have h1 : (0 : Int) ≤ (i : Int) ∧ (i : Int) < (n : Int) := by omega
 go_simp
def isT (gt ot g3 b o : Nat) (vT : Value) (ix : Int) (s : Sl) (c : Crt) (p : Bool) : Nat → Tg
 | 0 => tv (.pointer (some ⟨gt, ot, none⟩))
 | 1 => tv (.pointer (some ⟨gt, ot, none⟩))
 | 2 => tv (.pointer (some ⟨gt, ot, none⟩))
 | 3 => tv vT
 | 4 => tv (.int .i64 ix)
 | 5 => tv (.pointer (some ⟨b, o, none⟩))
 | 6 => tv (.slice s.A s.xs.length s.c)
 | 7 => tv (.pointer (some ⟨g3, 0, none⟩))
 | 8 => tv (.slice c.raw.A c.raw.xs.length c.raw.c)
 | _ => tv (.bool p)
theorem rg25 : List.range 25 = [0, 1, 2, 3, 4, 5, 6, 7, 8, 9, 10, 11, 12, 13, 14, 15, 16, 17, 18, 19, 20, 21, 22, 23, 24] := rfl
set_option maxRecDepth 100000 in
set_option maxHeartbeats 4000000 in
theorem is_any {W : World} {gt ot : Nat} {t : Sls3 Sl} {c : Crt} (hT : W.cell? ⟨gt, ot, none⟩ = some t.val) (hR : RowsIn 1 (fun s : Sl => [s.val]) (fun s => s.ok W) W t) (hc : c.ok W) :
  Calls Tryz.prog 24 #[.pointer (some ⟨gt, ot, none⟩), c.val] W (RetW (trB t.l c) W) := by
 obtain ⟨w1, hw1⟩ : ∃ u, u = W.alloc (.cells c.cells.toArray 30) := ⟨_, rfl⟩
 obtain ⟨g3, hg3⟩ : ∃ g, g = W.heap.size := ⟨_, rfl⟩
 have e1 : Below W.heap.size W w1 := by rw [hw1]; exact (Below.refl _ _).alloc (Nat.le_refl _) _
 have B3 : Row w1 g3 0 c.cells := by rw [hw1, hg3]; exact row_new _
 replace hg3 := Lib.hid hg3
 have R1 := hR.below e1 (Q' := fun s => s.ok w1) (fun s h => h.below e1)
 have co := hc.below e1
 have kT := (e1.cell (p := ⟨gt, ot, none⟩) (lt_cell hT)).trans hT
 have ltT := Nat.lt_of_lt_of_le (lt_cell hT) e1.size
 obtain ⟨tA, tc, tl⟩ := t
 have hmax : tl.length ≤ 9223372036854775807 := Nat.le_trans hR.cap hR.max
 have e1' := Lib.hid e1
 unfold Crt.val
 go_enter Tryz.func24, Tryz.ntmps24
 go_wp2_with fail
 rw [← hw1, ← hg3.out]
 clear hw1 e1 hR hc
 unfold Sls3.val at kT
 simp only at kT
 go_loopw [5] (fun t wr => ∃ ix : Nat, t = .int .i64 (ix : Int) ∧ ix ≤ tl.length ∧ (tl.take ix).any (fun s => decide (s.xs = c.raw.xs)) = false ∧ Below w1.heap.size w1 wr) (fun t _ => tl.length - (intOf t).toNat)
 case atStart => exact ⟨0, rfl, Nat.zero_le _, by simp, Below.refl _ _⟩
 case round =>
  obtain ⟨ix, rfl, hi, hno, er⟩ := hrel
  replace hno := Lib.hid hno
  have kTr := (er.cell (p := ⟨gt, ot, none⟩) ltT).trans kT
  have z6 : (ix : Int) ≤ 9223372036854775807 := by omega
  by_cases hlt : ix < tl.length
  ·have z1 : (ix : Int) < (tl.length : Int) := by omega
   obtain ⟨s, hs⟩ : ∃ s, tl[ix]? = some s := ⟨_, List.getElem?_eq_getElem hlt⟩
   obtain ⟨b, o, hA, Rs⟩ := rows_at R1 (n := 1) (fun _ => rfl) hs
   have hA : tA = some ⟨b, o, none⟩ := hA
   have so := R1.each s (List.mem_of_getElem? hs)
   have kTb : w1.cell? ⟨gt, ot, none⟩ = some (.slice (some ⟨b, o, none⟩) tl.length tc) := by rw [kT, hA]
   rw [hA] at kTr
   go_upto_region 4 with fail
   clear kTr
   obtain ⟨p, hp⟩ : ∃ p, p = decide (s.xs = c.raw.xs) := ⟨_, rfl⟩
   replace hp := Lib.hid hp
   have hd0 : Below wr.heap.size wr wr.drew := below_drewN (Below.refl _ _) 1
   refine wp_region_steps (by kernel_rfl) (fun i => 15 + i) (fun i v W => Sp ((isT gt ot g3 b (o + ix * 1) (.slice (some ⟨b, o, none⟩) tl.length tc) (ix : Int) s c p) i) v W) (fun W => Below wr.heap.size wr W) (by kernel_rfl) (by kernel_rfl) ?inj ?lt (fun i v W W' h hs => h.mono hs) hd0 ⟨?s0, ?s1, ?s2, ?s3, ?s4, ?s5, ?s6, ?s7, ?s8, ?s9, trivial⟩ ?fin
   case inj =>
    intro i j hi hj h
    have h40 : i < 10 ∧ j < 10 := ⟨hi, hj⟩
    have h : 15 + i = 15 + j := h
    omega
   case lt =>
    intro i hi
    have h40 : i < 10 := hi
    show 15 + i < 25
    omega
   case s0 => exact (st_move rfl (.inl rfl) (src_base (fun i hi => by have hi : i < 10 := hi; show 15 + i ≠ _; omega) rfl))
   case s1 => exact (st_pure (V := .pointer (some ⟨gt, ot, none⟩)) (U := .pointer (some ⟨gt, ot, none⟩)) rfl (src_dep (j := 0) (e := ⟨0, .data⟩) (by simp) rfl rfl rfl) (fun a h W => by
     have h : a.eval (.tmp 15) = .pointer (some ⟨gt, ot, none⟩) := h
     unfold execOp
     simp only [h]
     go_simp) (fun W hg => Sp.tv rfl))
   case s2 => exact (st_field rfl rfl rfl (src_dep (j := 1) (e := ⟨1, .data⟩) (by simp) rfl rfl rfl) (fun W => fa_trust0 gt ot W))
   case s3 => exact (st_load rfl rfl rfl (src_dep (j := 2) (e := ⟨2, .data⟩) (by simp) rfl rfl rfl) (ld_mat _ _) (fun W h => ((er.trans (h.mono er.size)).cell (p := ⟨gt, ot, none⟩) ltT).trans kTb))
   case s4 => exact (st_move rfl (.inl rfl) (src_base (fun i hi => by have hi : i < 10 := hi; show 15 + i ≠ _; omega) rfl))
   case s5 => exact (st_index rfl rfl rfl (src_dep (j := 3) (e := ⟨3, .data⟩) (by simp) rfl rfl rfl) (src_dep (j := 4) (e := ⟨4, .data⟩) (by simp) rfl rfl rfl) (fun W => ia_mat b o tl.length tc ix hlt W))
   case s6 => exact (st_load rfl rfl rfl (src_dep (j := 5) (e := ⟨5, .data⟩) (by simp) rfl rfl rfl) (ld_u8s _ _) (fun W h => (Rs.below (er.trans (h.mono er.size))).at_ (i := 0) rfl (by omega)))
   case s7 => exact (st_field rfl rfl rfl (src_base (fun i hi => by have hi : i < 10 := hi; show 15 + i ≠ _; omega) rfl) (fun W => fa_cert0 g3 0 W))
   case s8 => exact (st_load rfl rfl rfl (src_dep (j := 7) (e := ⟨7, .data⟩) (by simp) rfl rfl rfl) (ld_u8s _ _) (fun W h => (B3.below (er.trans (h.mono er.size))).at_ (i := 0) rfl rfl))
   case s9 => exact (st_call rfl (fun a W => run_call rfl cf_eqb a W) (fun a W hb hd h => by
     have h1 : a.eval (.tmp 21) = .slice s.A s.xs.length s.c := (hd ⟨6, .data⟩ (by simp) rfl).now
     have h2 : a.eval (.tmp 23) = .slice c.raw.A c.raw.xs.length c.raw.c := (hd ⟨8, .data⟩ (by simp) rfl).now
     simp only [List.map_toArray, List.map_cons, List.map_nil, h1, h2]
     refine (eqBytes_any s.A c.raw.A _ _ s.c c.raw.c s.xs c.raw.xs W rfl rfl (so.below (er.trans (h.mono er.size))).rd (co.raw.below (er.trans (h.mono er.size))).rd so.lim co.raw.lim).mono ?_
     rintro e W' ⟨rfl, rfl⟩
     exact ⟨_, rfl, Below.refl _ _, by rw [← hp.out]; exact Sp.tv rfl⟩))
   case fin =>
    intro a W2 h1 h2 h3 h4 h5
    have b24 : a.tmps.getD 24 undef = .bool p := (h4 9 (by show 9 < 10; omega)).now
    have hz : a.tmps.size = 25 := h2
    have hdf : a.defers = [] := h1
    have b0 : a.tmps.getD 0 undef = .pointer (some ⟨gt, ot, none⟩) := h3 0 (fun i (h : i < 10) => by show (15 + i) ≠ 0; omega)
    have b1 : a.tmps.getD 1 undef = .agg c.cells.toArray := h3 1 (fun i (h : i < 10) => by show (15 + i) ≠ 1; omega)
    have b2 : a.tmps.getD 2 undef = undef := h3 2 (fun i (h : i < 10) => by show (15 + i) ≠ 2; omega)
    have b3 : a.tmps.getD 3 undef = .pointer (some ⟨g3, 0, none⟩) := h3 3 (fun i (h : i < 10) => by show (15 + i) ≠ 3; omega)
    have b5 : a.tmps.getD 5 undef = .int .i64 (ix : Int) := h3 5 (fun i (h : i < 10) => by show (15 + i) ≠ 5; omega)
    rw [act_eq hz hdf]
    simp only [rg25, List.map_cons, List.map_nil, b0, b1, b2, b3, b5, b24]
    clear b0 b1 b2 b3 b5 b24 hz hdf h1 h2 h3 h4
    have er2 := er.trans (h5.mono er.size)
    have HT := Lib.hid (show tl.take (ix + 1) = tl.take ix ++ [s] by rw [List.take_add_one, hs]; rfl)
    cases p
    case false =>
     go_wp2_with fail
     go_roundw
     case rel => exact ⟨ix + 1, by go_num, by omega, by rw [HT.out, List.any_append, hno.out]; simp [← hp.out], er2⟩
     case measure =>
      simp [intOf]
      omega
    case true =>
     have hy : trB tl c = true := List.any_eq_true.2 ⟨s, List.mem_of_getElem? hs, hp.out.symm⟩
     replace hy := Lib.hid hy
     go_wp2_with fail
     go_ret
     exact ⟨by rw [hy.out]; rfl, e1'.out.trans (er2.mono e1'.out.size)⟩
  ·have z1 : ¬ (ix : Int) < (tl.length : Int) := by omega
   have hy : trB tl c = false := by
    obtain rfl : ix = tl.length := by omega
    have h := hno.out
    rw [List.take_length] at h
    exact h
   replace hy := Lib.hid hy
   go_wp2_with fail
   go_ret
   exact ⟨by rw [hy.out]; rfl, e1'.out.trans (er.mono e1'.out.size)⟩
end Go.Proofs.YtchaahnhpeoomaaGreat
