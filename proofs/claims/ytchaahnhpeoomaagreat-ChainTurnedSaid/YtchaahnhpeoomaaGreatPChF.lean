/-
 house.levels: who stands at the places of rows.
-/
import Derived.Test.YtchaahnhpeoomaaGreatPChE
import Derived.Maps.RangeWalk
namespace Go.Proofs.YtchaahnhpeoomaaGreat
set_option linter.unusedVariables false
set_option linter.unusedSimpArgs false
set_option maxRecDepth 20000
open Go.RowKit
theorem cf_lv1 (vs : Array Value) (w : World) : (callFunc 78 vs).run Tryz.prog w = .ok (.enter 78 vs) w := by kernel_rfl
structure Fr (W0 w0 : World) (lf : Crt) (cs : List Crt) (pA : Option Addr) (pc hb mb g1 : Nat) (U : World) : Prop where
 hm : Hm w0 lf cs pA pc hb mb U
 r1 : Row U g1 0 [.pointer (some ⟨hb, 0, none⟩)]
 gr : W0.grownBy U (some mb)
section
variable {W0 w0 U U' : World} {lf : Crt} {cs : List Crt} {pA : Option Addr} {pc hb mb g1 : Nat}
theorem grown_fresh {W U U' : World} {mb : Nat} {r : Option Nat} (h : W.grownBy U (some mb)) (g : U.grownBy U' r) (hr : ∀ b, r = some b → W.heap.size ≤ b) : W.grownBy U' (some mb) :=
 ⟨g.os.trans h.os, g.tape.trans h.tape, g.output.trans h.output, Nat.le_trans h.size g.size, fun k hk hne => (g.block k (Nat.lt_of_lt_of_le hk h.size) (fun e => by have := hr k e.symm; omega)).trans (h.block k hk hne)⟩
theorem Fr.new (h : Fr W0 w0 lf cs pA pc hb mb g1 U) (hbW : hb < W0.heap.size) (mbW : mb < W0.heap.size) {r : Option Nat} (g : U.grownBy U' r) (hr : ∀ b, r = some b → W0.heap.size ≤ b ∧ b ≠ g1) : Fr W0 w0 lf cs pA pc hb mb g1 U' := by
 refine ⟨⟨?_, h.hm.row.keep g.size (g.block hb h.hm.row.1 (fun e => by have := (hr hb e.symm).1; omega)), h.hm.hn, h.hm.mn, h.hm.ne, h.hm.tbl.kept (g.block mb h.hm.tbl.lt (fun e => by have := (hr mb e.symm).1; omega))⟩, h.r1.keep g.size (g.block g1 h.r1.1 (fun e => (hr g1 e.symm).2 rfl)), grown_fresh h.gr g fun b e => (hr b e).1⟩
 have h1 := h.hm.below
 have h2 := h.hm.mn
 exact ⟨g.os.trans h1.os, g.tape.trans h1.tape, g.output.trans h1.output, Nat.le_trans h1.size g.size, fun k hk => (g.block k (Nat.lt_of_lt_of_le hk h1.size) (fun e => by have := (hr k e.symm).1; omega)).trans (h1.block k hk)⟩
theorem Fr.clo (h : Fr W0 w0 lf cs pA pc hb mb g1 U) (hn : g1 ≠ mb) (q : CloI (sgAt lf cs) mb U U') : Fr W0 w0 lf cs pA pc hb mb g1 U' := ⟨q.hm h.hm, q.row h.r1 hn, only_trans h.gr q.g⟩
end
def lvlP (lf : Crt) (cs : List Crt) (m ix : Nat) : List Int := ((hse lf cs).idx.take ix).filter fun i => (hse lf cs).fit ((hse lf cs).at i) (m + 1) && ((hse lf cs).lvl m).any fun c => (hse lf cs).sg ((hse lf cs).at c) ((hse lf cs).at i)
theorem idx_take (lf : Crt) (cs : List Crt) {ix : Nat} (h : ix < cs.length) : (hse lf cs).idx.take (ix + 1) = (hse lf cs).idx.take ix ++ [(ix : Int)] := by
 rw [List.take_add_one]
 congr 1
 have : (hse lf cs).pool = cs := rfl
 simp [Chn.House.idx, this, h]
theorem lvlP_no {lf : Crt} {cs : List Crt} {m ix : Nat} (h : ix < cs.length) (hf : ((hse lf cs).fit ((hse lf cs).at (ix : Int)) (m + 1) && ((hse lf cs).lvl m).any fun c => (hse lf cs).sg ((hse lf cs).at c) ((hse lf cs).at (ix : Int))) = false) : lvlP lf cs m (ix + 1) = lvlP lf cs m ix := by
 unfold lvlP
 rw [idx_take lf cs h, List.filter_append]
 simp [hf]
theorem lvlP_yes {lf : Crt} {cs : List Crt} {m ix : Nat} (h : ix < cs.length) (hf : ((hse lf cs).fit ((hse lf cs).at (ix : Int)) (m + 1) && ((hse lf cs).lvl m).any fun c => (hse lf cs).sg ((hse lf cs).at c) ((hse lf cs).at (ix : Int))) = true) : lvlP lf cs m (ix + 1) = lvlP lf cs m ix ++ [(ix : Int)] := by
 unfold lvlP
 rw [idx_take lf cs h, List.filter_append]
 simp [hf]
theorem lvlP_all {lf : Crt} {cs : List Crt} {m : Nat} : lvlP lf cs m cs.length = (hse lf cs).lvl (m + 1) := by
 unfold lvlP
 rw [Chn.House.lvl, List.take_of_length_le (by simp [Chn.House.idx, hse])]
theorem slice_of {w : World} {B : Nat} {e : TypeId} {s : Nat} {v : Value} {n : Nat} {xs : List Value} (h : w.ownsRow B e s v n xs) : ∃ A n c, v = .slice A n c := by
 rcases h.2 with ⟨h1, _⟩ | ⟨g, cap, cur, h1, _⟩
 ·exact ⟨_, _, _, h1⟩
 ·exact ⟨_, _, _, h1⟩
theorem own_base {w : World} {B B' : Nat} {e : TypeId} {s : Nat} {v : Value} {n : Nat} {xs : List Value} (h : w.ownsRow B e s v n xs) (hB : B' ≤ B) : w.ownsRow B' e s v n xs := by
 refine ⟨h.1, h.2.imp id ?_⟩
 rintro ⟨g, cap, cur, h1, h2, h3⟩
 exact ⟨g, cap, cur, h1, Nat.le_trans hB h2, h3⟩
theorem lv_one {W : World} {B g2 : Nat} {V : Nat → Value} {L : Nat → List Int} (h : Lv W B g2 V L) (u : Value) (hu : u ∈ (List.range 8).map V) : u.oneCell' = true := by
 obtain ⟨j, hj, rfl⟩ := List.mem_map.1 hu
 obtain ⟨A, n, c, e⟩ := slice_of (h.own j (List.mem_range.1 hj))
 rw [e]
 rfl
theorem lit_cell (W : World) (v : Value) (t : TypeId) : (W.alloc (.cells #[v] t)).cell? ⟨W.heap.size, 0, none⟩ = some v := by
 have h := heap_alloc_new W (.cells #[v] t)
 unfold World.cell?
 rw [show (W.alloc (.cells #[v] t)).heap[(⟨W.heap.size, 0, none⟩ : Addr).block]? = _ from h]
 rfl
theorem ia_lv (g m : Nat) (hm : m + 1 < 8) (W : World) : (Instr.indexAt 98 (.pointer (some ⟨g, 0, none⟩)) (.int .i64 ((m : Int) + 1))).run Tryz.prog W = .ok (.pointer (some ⟨g, m + 1, none⟩)) W := by
 have h1 : (0 : Int) ≤ (m : Int) + 1 ∧ (m : Int) + 1 < 8 := by omega
 have h2 : (m : Int) + 1 < 8 := by omega
 have h3 : (0 : Int) ≤ (m : Int) + 1 := by omega
 have h4 : ((m : Int) + 1).toNat = m + 1 := by omega
 go_simp
theorem ld_isl (p : Addr) (v : Value) : ∀ W : World, W.cell? p = some v → (Instr.loadAt 97 (.pointer (some p))).run Tryz.prog W = .ok v W := fun W h => by go_simp
def LevPost (W : World) (mb : Nat) (lf : Crt) (cs : List Crt) (e : Ending) (W' : World) : Prop := ∃ V : Nat → Value, e = .returned (.agg ((List.range 8).map V).toArray) ∧ W.grownBy W' (some mb) ∧ Tbl (sgAt lf cs) W' mb ∧
 ∀ j, j < 8 → W'.ownsRow W.heap.size 3 1 (V j) ((hse lf cs).lvl j).length (((hse lf cs).lvl j).map intV)
def lvT (g2 g7 m : Nat) (ix : Int) (vk : Value) : Nat → Tg
 | 0 => tv (.int .i64 ((m : Int) + 1))
 | 1 => tv (.int .i64 ((m : Int) + 1))
 | 2 => tv (.pointer (some ⟨g2, m + 1, none⟩))
 | 3 => tv vk
 | 4 => tv (.int .i64 ix)
 | 5 => tv (.slice (some ⟨g7, 0, none⟩) 1 1)
 | 7 => tv (.pointer (some ⟨g2, m + 1, none⟩))
 | _ => fun _ _ => True
theorem stat_lv (g2 g7 m : Nat) (ix : Int) (vk : Value) : Static (lvT g2 g7 m ix vk) := fun j x W W' h => by
 unfold lvT at *
 split at h <;> exact h
def lvG (W0 w0 : World) (lf : Crt) (cs : List Crt) (pA : Option Addr) (pc hb mb g1 g2 g7 m : Nat) (ix : Int) (V : Nat → Value) (L : Nat → List Int) (w9 : World) (d : Nat → Bool) (v : Nat → Value) (W : World) : Prop := match d 5, d 6, d 8 with
 | false, false, false => Below w9.heap.size w9 W ∧ W.heap.size = g7
 | true, false, false => Below w9.heap.size w9 W ∧ W.cell? ⟨g7, 0, none⟩ = some (.int .i64 ix)
 | true, true, false => ∃ U, Below w9.heap.size w9 U ∧ W.ownsRow (g2 + 1) 3 1 (v 6) (L (m + 1) ++ [ix]).length ((L (m + 1) ++ [ix]).map intV) ∧ U.grownBy W (V (m + 1)).ownBlock ∧ ((v 6).ownBlock = (V (m + 1)).ownBlock ∨ (v 6).ownBlock = some U.heap.size)
 | true, true, true => Lv W (g2 + 1) g2 (put1 V (m + 1) (v 6)) (put1 L (m + 1) (L (m + 1) ++ [ix])) ∧ Fr W0 w0 lf cs pA pc hb mb g1 W
 | _, _, _ => False
theorem lvG_g {W0 w0 : World} {lf : Crt} {cs : List Crt} {pA : Option Addr} {pc hb mb g1 g2 g7 m : Nat} {ix : Int} {V : Nat → Value} {L : Nat → List Int} {w9 W : World} {d : Nat → Bool} {v : Nat → Value} (h6 : d 6 = false)
  (h : lvG W0 w0 lf cs pA pc hb mb g1 g2 g7 m ix V L w9 d v W) : Below w9.heap.size w9 W := by
 unfold lvG at h
 rw [h6] at h
 cases h5 : d 5 <;> cases h8 : d 8 <;> rw [h5, h8] at h
 ·exact h.1
 ·exact h.elim
 ·exact h.1
 ·exact h.elim
theorem lvG_f {W0 w0 : World} {lf : Crt} {cs : List Crt} {pA : Option Addr} {pc hb mb g1 g2 g7 m : Nat} {ix : Int} {V : Nat → Value} {L : Nat → List Int} {w9 W : World} {d : Nat → Bool} {v : Nat → Value} (h5 : d 5 = false)
  (h : lvG W0 w0 lf cs pA pc hb mb g1 g2 g7 m ix V L w9 d v W) : Below w9.heap.size w9 W ∧ W.heap.size = g7 := by
 unfold lvG at h
 rw [h5] at h
 cases h6 : d 6 <;> cases h8 : d 8 <;> rw [h6, h8] at h
 ·exact h
 ·exact h.elim
 ·exact h.elim
 ·exact h.elim
set_option maxRecDepth 100000 in
set_option maxHeartbeats 4000000 in
theorem levels_any {w0 : World} {lf : Crt} {cs : List Crt} {pA : Option Addr} {pc gp op hb mb : Nat} {W : World} (P : Pool w0 lf cs pA pc gp op) (H : Hm w0 lf cs pA pc hb mb W) :
  Calls Tryz.prog 47 #[.pointer (some ⟨hb, 0, none⟩)] W (LevPost W mb lf cs) := by
 obtain ⟨w1, hw1⟩ : ∃ u, u = W.alloc (.cells #[.pointer (some ⟨hb, 0, none⟩)] 95) := ⟨_, rfl⟩
 obtain ⟨g1, hg1⟩ : ∃ g, g = W.heap.size := ⟨_, rfl⟩
 have e1 : Below W.heap.size W w1 := by rw [hw1]; exact (Below.refl _ _).alloc (Nat.le_refl _) _
 have z1 : w1.heap.size = g1 + 1 := by rw [hw1, hg1]; simp
 have R1 : Row w1 g1 0 [.pointer (some ⟨hb, 0, none⟩)] := by rw [hw1, hg1]; exact row_new _
 have hbW := H.row.1
 have mbW := H.tbl.lt
 have hlen := P.len
 go_enter Tryz.func47, Tryz.ntmps47
 go_upto_region 1 with ((with_reducible refine wpList_alloc_row ?_ 98 ?_ ((List.range 8).map fun _ => Value.slice none 0 0) zero_lv ?_); (· rfl); (· rfl); intro g2 w2 hg2 V2 z2 e2)
 rw [← hw1] at hg2 e2 z2
 rw [← hg1]
 clear hw1
 have hg2' : g2 = g1 + 1 := by rw [hg2.out, z1]
 replace hg1 := Lib.hid hg1
 replace hg2' := Lib.hid hg2'
 have lv2 : Lv w2 (g2 + 1) g2 (fun _ => .slice none 0 0) (fun _ => []) := Lv.none V2 (Nat.lt_succ_self _)
 go_upto_region 2 with (first
  | (refine wpList_bs1 rfl (.const (.int .i64 (-1))) rfl rfl ?_; intro g3 w3 hg3 hh3 z3 e3)
  | (refine wpList_store_sl rfl (.tmp 8) (.tmp 7) rfl g2 0 _ (.slice (some ⟨g3, 0, none⟩) 1 1) rfl rfl ⟨_, _, _, rfl⟩ (V2.below e3) (by simp) ?_; intro w4 gr4 z4 V4))
 have own3 : w3.ownsRow (g2 + 1) 3 1 (.slice (some ⟨g3, 0, none⟩) 1 1) [(-1 : Int)].length ([(-1 : Int)].map intV) := ⟨rfl, .inr ⟨g3, 1, #[.int .i64 (-1)], rfl, by have := hg3.out; have := hg2.out; omega, hh3, Nat.le_refl _, by decide, rfl, rfl⟩⟩
 have lv4 := lv2.put (k := 0) (by omega) own3 (only_of_below e3 _) (.inr (by show some g3 = _; rw [hg3.out])) gr4 V4
 have fr1 : Fr W w0 lf cs pA pc hb mb g1 w1 := ⟨H.grow e1, R1, only_of_below e1 _⟩
 have fr4 : Fr W w0 lf cs pA pc hb mb g1 w4 := ((fr1.new hbW mbW (only_of_below e2 none) (fun b e => by cases e)).new hbW mbW (only_of_below e3 none) (fun b e => by cases e)).new hbW mbW gr4 (fun b e => by cases e; exact ⟨by have := hg1.out; have := hg2'.out; omega, by have := hg2'.out; omega⟩)
 clear fr1 lv2 own3 gr4 V4 hh3 hg3 z3 e3 z4 V2 hg2 z2 e2 R1 e1 z1
 go_wp2_with fail
 go_loopw [3] (fun t wr => ∃ (m : Nat) (V : Nat → Value) (L : Nat → List Int), t = .int .i64 ((m : Int) + 1) ∧ m ≤ 7 ∧ (∀ j, j ≤ m → L j = (hse lf cs).lvl j) ∧ (∀ j, m < j → L j = []) ∧ Lv wr (g2 + 1) g2 V L ∧ Fr W w0 lf cs pA pc hb mb g1 wr) (fun t _ => 9 - (intOf t).toNat)
 case atStart => exact ⟨0, _, _, rfl, by omega, fun j hj => by obtain rfl : j = 0 := by { omega }; rfl, fun j hj => by simp [put1, Nat.pos_iff_ne_zero.1 hj], lv4, fr4⟩
 case round =>
  obtain ⟨m, V, L, rfl, hm, hL, hN, lv, fr⟩ := hrel
  have z6 : (m : Int) ≤ 7 := by omega
  by_cases hlt : m < 7
  ·have z7 : (m : Int) + 1 < 8 := by omega
   have k1 : wr.cell? ⟨g1, 0, none⟩ = some (.pointer (some ⟨hb, 0, none⟩)) := fr.r1.2 0 _ rfl
   have kp := fr.hm.pool
   go_wp2_with fail
   clear k1 kp
   go_loopw [18] (fun t wr => ∃ (ix : Nat) (V : Nat → Value) (L : Nat → List Int), t = .int .i64 (ix : Int) ∧ ix ≤ cs.length ∧ (∀ j, j ≤ m → L j = (hse lf cs).lvl j) ∧ (∀ j, m + 1 < j → L j = []) ∧ L (m + 1) = lvlP lf cs m ix ∧ Lv wr (g2 + 1) g2 V L ∧ Fr W w0 lf cs pA pc hb mb g1 wr) (fun t _ => cs.length - (intOf t).toNat)
   case atStart => exact ⟨0, V, L, rfl, Nat.zero_le _, hL, fun j hj => hN j (by omega), by rw [hN _ (by omega)]; rfl, lv, fr⟩
   case round =>
    clear lv fr hL hN V L
    obtain ⟨ix, V, L, rfl, hi, hL, hN, hP, lv, fr⟩ := hrel
    have z8 : (ix : Int) ≤ 16 := by omega
    by_cases hix : ix < cs.length
    ·have z9 : (ix : Int) < (cs.length : Int) := by omega
     obtain ⟨c, hc⟩ : ∃ c, cs[ix]? = some c := ⟨_, List.getElem?_eq_getElem hix⟩
     have hA := P.A.resolve_left (by rintro rfl; simp at hix)
     have Rc := crt_row (P.row.below fr.hm.below) hc
     have kc := Rc.rng
     subst hA
     go_upto_region 8 with (first
      | ((with_reducible refine wpList_load_mid ?_ 30 (.tmp 21) ?_ gp (op + ix * 24) ?_ c.cells _ kc Tryz.underlying30 ?_ (sz_crt _) ?_); (· rfl); (· rfl); (· rfl); (· rfl))
      | ((with_reducible refine wpList_alloc_one ?_ 3 ?_ (.int .i64 0) ?_ zero_int ?_); (· rfl); (· rfl); (· rfl); intro g4 w5 hg4 C4 z5 e5)
      | ((with_reducible refine wpList_alloc_row ?_ 30 ?_ Crt.none.cells zero_cert ?_); (· rfl); (· rfl); intro g5 w6 hg5 C5 z6 e6)
      | ((with_reducible refine wpList_store_int ?_ (.tmp 4) (.tmp 20) ?_ g4 (ix : Int) _ ?_ ?_ (C4.below e6) ?_); (· rfl); (· rfl); (· rfl); (· rfl); intro w7 gr7 z7 D4)
      | ((with_reducible refine wpList_store_cut ?_ 30 (.tmp 5) (.tmp 22) ?_ g5 0 c.cells _ ?_ ?_ (C5.grown gr7 (fun e => (by have := hg4.out; have := hg5.out; have := C4.lt; have e := Option.some.inj e; omega : False).elim)) ?_ (sz_crt _) (crt_one _) ?_); (· rfl); (· rfl); (· rfl); (· rfl); (· rfl); intro w8 hst))
     have hs5 := e5.size
     have e57 : Below wr.heap.size wr w7 := below_only (e5.trans (e6.mono e5.size)) gr7 (e5.trans (e6.mono e5.size)).size (by have := hg4.out; omega)
     have e8 : Below wr.heap.size wr w8 := below_only e57 hst.1 e57.size (by have := hg5.out; omega)
     have ne45 : g4 ≠ g5 := by have := C4.lt; have := hg5.out; omega
     have D4 : Row w8 g4 0 [.int .i64 (ix : Int)] := Row.of_cut (D4.grown hst.1 (fun e => ne45 (Option.some.inj e).symm))
     have D5 : Row w8 g5 0 c.cells := Row.of_cut hst.2.2.1
     have gn4 : W.heap.size ≤ g4 := by have := fr.gr.size; have := hg4.out; omega
     have lv8 := lv.below e8
     have fr8 := fr.new hbW mbW (only_of_below e8 none) (fun b e => by cases e)
     clear hst gr7 e57 e6 e5 C4 C5 Rc kc lv fr hs5
     have kpath : w8.cell? ⟨g5, 21, none⟩ = some (.int .i64 c.path) := D5.cell (i := 21) rfl
     go_frame
     obtain ⟨f, hf⟩ : ∃ f, f = (decide (c.path < 0) || decide ((m : Int) ≤ c.path)) := ⟨_, rfl⟩
     go_cut [6] from 23 to 32 (fun s6 wx => s6 = .bool f ∧ wx = w8)
     case first =>
      replace hf := Lib.hid hf
      by_cases h1 : c.path < 0
      ·go_wp2_with fail
       go_meet
       case rel => exact ⟨by rw [hf.out, decide_eq_true h1]; rfl, rfl⟩
      ·have h2 : ¬ c.path < 0 := h1
       go_wp2_with fail
       go_meet
       case rel => exact ⟨by rw [hf.out, decide_eq_false (show ¬ c.path < 0 by omega)]; rfl, rfl⟩
     case rest =>
      obtain ⟨rfl, hw⟩ := hcut
      rw [hw]
      clear hw kpath
      replace hf := Lib.hid hf
      have hS : (hse lf cs).fit ((hse lf cs).at (ix : Int)) (m + 1) = f := by
       rw [hse_at, show atC lf cs (ix : Int) = c by unfold atC; rw [if_neg (by omega), Int.toNat_natCast, hc]; rfl]
       rw [hf.out]
       show (decide (c.path < 0) || decide (((m + 1 : Nat) : Int) - 1 ≤ c.path)) = _
       rw [show ((m + 1 : Nat) : Int) - 1 = (m : Int) by omega]
      replace hS := Lib.hid hS
      cases f
      case false =>
       go_wp2_with fail
       go_roundw
       case rel => exact ⟨ix + 1, V, L, by go_num, by omega, hL, hN, by rw [hP, lvlP_no hix (by rw [hS.out]; rfl)], lv8, fr8⟩
       case measure =>
        simp [intOf]
        omega
      case true =>
       obtain ⟨A, c0, hV, hcap, hcm, hrd⟩ := own_rd (lv8.own m (by omega))
       rw [hL m (Nat.le_refl _)] at hV hcap hrd
       have kV : w8.cell? ⟨g2, m, none⟩ = some (.slice A ((hse lf cs).lvl m).length c0) := by rw [← hV]; exact lv8.at (by omega)
       have hll := lvl_len lf cs hlen m
       have hAb : ∀ U, CloI (sgAt lf cs) mb w8 U → RdI U A ((hse lf cs).lvl m) := fun U q => by
        rcases hrd with h0 | ⟨b, o, h1, h2⟩
        ·exact .inl h0
        ·refine .inr ⟨b, o, h1, q.row h2 ?_⟩
         rintro rfl
         rcases hq : (hse lf cs).lvl m with _ | ⟨x, l⟩
         ·have h3 := lv8.own m (by omega)
          have h4 := (h3.lt b (by rw [hV, h1]; rfl)).1
          have := hg1.out
          have := hg2'.out
          omega
         ·have h3 := lv8.own m (by omega)
          have h4 := (h3.lt b (by rw [hV, h1]; rfl)).1
          have := hg1.out
          have := hg2'.out
          omega
       have hq := containsI_any 78 #[.pointer (some ⟨g1, 0, none⟩), .pointer (some ⟨g4, 0, none⟩)] cf_lv1 (CloI (sgAt lf cs) mb w8) (fun x => sgAt lf cs x (ix : Int)) A _ c0 ((hse lf cs).lvl m) rfl (by omega) hAb (fun U x hx q => (levels1_any P (q.hm fr8.hm) (q.row fr8.r1 (by have := hg1.out; omega)) (q.row D4 (by omega)) (spot_lvl hx) (.inr ⟨by omega, by omega⟩)).mono fun e U' h => q.next h) w8 (CloI.refl fr8.hm.tbl)
       obtain ⟨an, han⟩ : ∃ b, b = ((hse lf cs).lvl m).any (fun x => sgAt lf cs x (ix : Int)) := ⟨_, rfl⟩
       rw [← han] at hq
       replace han := Lib.hid han
       clear hV hcap hcm hrd hAb
       generalize ((hse lf cs).lvl m).length = nn at kV hq hll
       go_wp2_with fail
       clear kV
       refine hq.mono ?_
       clear hq
       rintro e w9 ⟨rfl, q9⟩
       have fr9 := fr8.clo (by have := hg1.out; omega) q9
       have lv9 := lv8.kept q9.g (fun b e => by cases e; have := hg1.out; have := hg2'.out; exact ⟨by omega, by omega⟩)
       have D49 := q9.row D4 (by omega)
       clear lv8 fr8 D4 D5 q9
       cases an
       case false =>
        go_wp2_with fail
        go_roundw
        case rel => exact ⟨ix + 1, V, L, by go_num, by omega, hL, hN, by rw [hP, lvlP_no hix (by rw [hS.out, show ((hse lf cs).lvl m).any (fun c => (hse lf cs).sg ((hse lf cs).at c) ((hse lf cs).at (ix : Int))) = false from han.out.symm]; rfl)], lv9, fr9⟩
        case measure =>
         simp [intOf]
         omega
       case true =>
        obtain ⟨g7, hg7⟩ : ∃ g, g = w9.heap.size := ⟨_, rfl⟩
        replace hg7 := Lib.hid hg7
        have hPl : (L (m + 1)).length ≤ 16 := by
         rw [hP]
         unfold lvlP
         refine Nat.le_trans (List.length_filter_le _ _) ?_
         rw [List.length_take]
         omega
        have B9 : g2 + 1 ≤ w9.heap.size := by have := lv9.arr.lt; omega
        have k44 : ∀ U : World, Below w9.heap.size w9 U → U.cell? ⟨g4, 0, none⟩ = some (.int .i64 (ix : Int)) := fun U b => (D49.below b).2 0 _ rfl
        obtain ⟨gv, hgv⟩ : ∃ v, v = V (m + 1) := ⟨_, rfl⟩
        replace hgv := Lib.hid hgv
        go_upto_region 10 with fail
        refine wp_region_eff (by kernel_rfl) (fun i => i == 5 || i == 6 || i == 8) (fun i => i == 8) (fun i => if i = 8 then 1008 else 42 + i) (lvT g2 g7 m (ix : Int) (V (m + 1))) (lvG W w0 lf cs (some ⟨gp, op, none⟩) pc hb mb g1 g2 g7 m (ix : Int) V L w9) (by kernel_rfl) (by kernel_rfl) ?hno ?inj ?hEs ?hGe ?hG ⟨?s0, ?s1, ?s2, ?s3, ?s4, ?s5, ?s6, ?s7, ?s8, trivial⟩ ?fin
        case hno =>
         intro i h v W
         have h : (i == 8) = true := h
         simp at h
         subst h; trivial
        case inj =>
         intro i j hi hj h
         have h40 : i < 9 ∧ j < 9 := ⟨hi, hj⟩
         have h : (if i = 8 then 1008 else 42 + i) = (if j = 8 then 1008 else 42 + j) := h
         (repeat' split at h) <;> omega
        case hEs =>
         intro j h
         have h : (j == 5 || j == 6 || j == 8) = true := h
         show j < 9
         simp at h
         omega
        case hGe => exact fun d d' x x' U h h6 hg => by unfold lvG at *; rw [← h 5 rfl, ← h 6 rfl, ← h 8 rfl, ← h6 6 rfl]; exact hg
        case hG => exact fun x => ⟨below_drewN (Below.refl _ _) 1, hg7.out.symm⟩
        case s0 => exact fun d_ v_ hd_ hc_ => (st_move rfl (.inl rfl) (src_base (fun i hi => by have hi : i < 9 := hi; show (if i = 8 then 1008 else 42 + i) ≠ 3; (repeat' split) <;> omega) rfl))
        case s1 => exact fun d_ v_ hd_ hc_ => (st_move rfl (.inl rfl) (src_base (fun i hi => by have hi : i < 9 := hi; show (if i = 8 then 1008 else 42 + i) ≠ 3; (repeat' split) <;> omega) rfl))
        case s2 => exact fun d_ v_ hd_ hc_ => (st_run rfl (fun a U hba hd hg => ⟨.pointer (some ⟨g2, m + 1, none⟩), U, by
          have u1 : a.eval (.tmp 43) = .int .i64 ((m : Int) + 1) := (hd ⟨1, .data⟩ (by simp) rfl).now
          have u2 : a.eval (.tmp 2) = .pointer (some ⟨g2, 0, none⟩) := (hba 2 (fun i hi => by have hi : i < 9 := hi; show (if i = 8 then 1008 else 42 + i) ≠ 2; split <;> omega)).trans rfl
          unfold execOp
          simp only [u1, u2, ia_lv g2 m (by omega), Sem.run_bind, Sem.run_pure, Result.andThen_ok], Sub.refl U, hg, Sp.tv rfl⟩))
        case s3 => exact fun d_ v_ hd_ hc_ => (st_run rfl (fun a U hba hd hg => by
          have u1 : a.eval (.tmp 44) = .pointer (some ⟨g2, m + 1, none⟩) := (hd ⟨2, .data⟩ (by simp) rfl).now
          have h6 : d_ 6 = false := by
           cases h6 : d_ 6 with
           | false => rfl
           | true =>
            have := hc_ 6 _ rfl h6 ⟨3, .data⟩ (by simp) rfl
            rw [hd_] at this
            exact Bool.noConfusion this
          have hb9 : Below w9.heap.size w9 U := lvG_g h6 hg
          have k45 : U.cell? ⟨g2, m + 1, none⟩ = some (V (m + 1)) := (lv9.below hb9).at (by omega)
          refine ⟨V (m + 1), U, ?_, Sub.refl U, hg, Sp.tv rfl⟩
          unfold execOp
          simp only [u1, Sem.run_bind, Sem.run_pure, ld_isl _ _ U k45, Result.andThen_ok]))
        case s4 => exact fun d_ v_ hd_ hc_ => (st_load rfl rfl rfl (src_base (fun i hi => by have hi : i < 9 := hi; show (if i = 8 then 1008 else 42 + i) ≠ 4; split <;> omega) rfl) (ld_int _ _) (fun U h => by
          have h5 : d_ 5 = false := by
           cases h5 : d_ 5 with
           | false => rfl
           | true =>
            have := hc_ 5 _ rfl h5 ⟨4, .data⟩ (by simp) rfl
            rw [hd_] at this
            exact Bool.noConfusion this
          exact k44 U (lvG_f h5 h).1))
        case s5 =>
         refine eff_run rfl fun d a U hd hba hdp hal hG => ?_
         have u1 : a.eval (.tmp 46) = .int .i64 (ix : Int) := (hdp ⟨4, .data⟩ (by simp) rfl).now
         unfold lvG at hG
         rw [hd] at hG
         cases h6 : d 6 with
         | true =>
          rw [h6] at hG
          cases h8 : d 8 with
          | false => rw [h8] at hG; exact hG.elim
          | true => rw [h8] at hG; exact hG.elim
         | false =>
          cases h8 : d 8 with
          | true => rw [h6, h8] at hG; exact hG.elim
          | false =>
           rw [h6, h8] at hG
           obtain ⟨q1, q2⟩ : Below w9.heap.size w9 U ∧ U.heap.size = g7 := hG
           refine ⟨_, _, bs1_int rfl a U u1, (stat_lv _ _ _ _ _).sp (by rw [q2]; rfl), (stat_lv _ _ _ _ _).keep 5, fun v' _ _ => ?_⟩
           unfold lvG
           rw [show done1 d 5 5 = true from rfl, show done1 d 5 6 = false from h6, show done1 d 5 8 = false from h8]
           refine ⟨q1.alloc q1.size _, ?_⟩
           rw [← q2]
           exact lit_cell _ _ _
        case s6 =>
         refine eff_run rfl fun d a U hd hba hdp hal hG => ?_
         have d5 : d 5 = true := hal ⟨5, .data⟩ (by simp) rfl
         have u1 : a.eval (.tmp 45) = V (m + 1) := (hdp ⟨3, .data⟩ (by simp) rfl).now
         have u2 : a.eval (.tmp 47) = .slice (some ⟨g7, 0, none⟩) 1 1 := (hdp ⟨5, .data⟩ (by simp) rfl).now
         unfold lvG at hG
         rw [hd, d5] at hG
         cases h8 : d 8 with
         | true => rw [h8] at hG; exact hG.elim
         | false =>
          rw [h8] at hG
          obtain ⟨q1, q2⟩ : Below w9.heap.size w9 U ∧ U.cell? ⟨g7, 0, none⟩ = some (.int .i64 (ix : Int)) := hG
          refine (app_int (by rfl) a U u1 u2 (((lv9.below q1)).own (m + 1) (by omega)) q2 (by omega) (Nat.le_trans B9 q1.size)).elim fun v' hh => hh.elim fun U' hh => ⟨v', U', hh.1, (stat_lv _ _ _ _ _).sp trivial, (stat_lv _ _ _ _ _).keep 6, fun vv _ hv => ?_⟩
          obtain ⟨_, h1, h2, h3⟩ := hh
          unfold lvG
          rw [show done1 d 6 5 = true from d5, show done1 d 6 6 = true from rfl, show done1 d 6 8 = false from h8, hv (by simp)]
          exact ⟨U, q1, by simpa [intV] using h1, h2, h3⟩
        case s7 => exact fun d_ v_ hd_ hc_ => (st_run rfl (fun a U hba hd hg => ⟨.pointer (some ⟨g2, m + 1, none⟩), U, by
          have u1 : a.eval (.tmp 42) = .int .i64 ((m : Int) + 1) := (hd ⟨0, .data⟩ (by simp) rfl).now
          have u2 : a.eval (.tmp 2) = .pointer (some ⟨g2, 0, none⟩) := (hba 2 (fun i hi => by have hi : i < 9 := hi; show (if i = 8 then 1008 else 42 + i) ≠ 2; split <;> omega)).trans rfl
          unfold execOp
          simp only [u1, u2, ia_lv g2 m (by omega), Sem.run_bind, Sem.run_pure, Result.andThen_ok], Sub.refl U, hg, Sp.tv rfl⟩))
        case s8 =>
         intro d a U hd hba hdp hal hG K hK
         have d5 : d 5 = true := hal ⟨5, .phase⟩ (by simp) rfl
         have d6 : d 6 = true := hal ⟨6, .data⟩ (by simp) rfl
         have u1 : a.eval (.tmp 49) = .pointer (some ⟨g2, m + 1, none⟩) := (hdp ⟨7, .data⟩ (by simp) rfl).now
         unfold lvG at hG
         rw [hd, d5, d6] at hG
         obtain ⟨U0, q1, q2, q3, q4⟩ := hG
         have q2 : U.ownsRow (g2 + 1) 3 1 (a.tmps.getD 48 undef) (L (m + 1) ++ [(ix : Int)]).length ((L (m + 1) ++ [(ix : Int)]).map intV) := q2
         have q3 : U0.grownBy U (V (m + 1)).ownBlock := q3
         have q4 : (a.tmps.getD 48 undef).ownBlock = (V (m + 1)).ownBlock ∨ (a.tmps.getD 48 undef).ownBlock = some U0.heap.size := q4
         have lvU := lv9.below q1
         have frU := fr9.new hbW mbW (only_of_below q1 none) (fun b e => by cases e)
         have hblk : ∀ b, (V (m + 1)).ownBlock = some b → g2 + 1 ≤ b := fun b e => ((lvU.own (m + 1) (by omega)).lt b e).1
         have frU1 := frU.new hbW mbW q3 (fun b e => by have := hblk b e; have := hg1.out; have := hg2'.out; exact ⟨by omega, by omega⟩)
         have C2 := lvU.arr.grown q3 (fun e => by have := hblk _ e; omega)
         refine step_store_sl rfl (.tmp 49) (.tmp 48) rfl g2 (m + 1) _ (a.tmps.getD 48 undef) u1 rfl (slice_of q2) C2 (by simp; omega) (fun w' gr _ hcut => hK undef w' (fun _ _ => trivial) ((stat_lv _ _ _ _ _).keep 8) (fun v' hv _ => ?_))
         unfold lvG
         rw [show done1 d 8 5 = true from d5, show done1 d 8 6 = true from d6, show done1 d 8 8 = true from rfl, hv 6 (by omega) rfl]
         refine ⟨lvU.put (by omega) q2 q3 q4 gr hcut, frU1.new hbW mbW gr (fun b e => by cases e; have := hg1.out; have := hg2'.out; exact ⟨by omega, by omega⟩)⟩
        case fin =>
         intro a wz h1 h2 h3 h4 h5
         have hz : a.tmps.size = 52 := h2
         have hdf : a.defers = [] := h1
         have b0 := h3 0 (fun i hi => by have h8 : i < 9 := hi; show (if i = 8 then 1008 else 42 + i) ≠ 0; (repeat' split) <;> omega)
         replace b0 : a.tmps.getD 0 undef = .pointer (some ⟨hb, 0, none⟩) := b0
         have b1 := h3 1 (fun i hi => by have h8 : i < 9 := hi; show (if i = 8 then 1008 else 42 + i) ≠ 1; (repeat' split) <;> omega)
         replace b1 : a.tmps.getD 1 undef = .pointer (some ⟨g1, 0, none⟩) := b1
         have b2 := h3 2 (fun i hi => by have h8 : i < 9 := hi; show (if i = 8 then 1008 else 42 + i) ≠ 2; (repeat' split) <;> omega)
         replace b2 : a.tmps.getD 2 undef = .pointer (some ⟨g2, 0, none⟩) := b2
         have b3 := h3 3 (fun i hi => by have h8 : i < 9 := hi; show (if i = 8 then 1008 else 42 + i) ≠ 3; (repeat' split) <;> omega)
         replace b3 : a.tmps.getD 3 undef = .int .i64 ((m : Int) + 1) := b3
         have b7 := h3 7 (fun i hi => by have h8 : i < 9 := hi; show (if i = 8 then 1008 else 42 + i) ≠ 7; (repeat' split) <;> omega)
         replace b7 : a.tmps.getD 7 undef = .slice (some ⟨g3, 0, none⟩) 1 1 := b7
         have b8 := h3 8 (fun i hi => by have h8 : i < 9 := hi; show (if i = 8 then 1008 else 42 + i) ≠ 8; (repeat' split) <;> omega)
         replace b8 : a.tmps.getD 8 undef = .pointer (some ⟨g2, 0, none⟩) := b8
         have b9 := h3 9 (fun i hi => by have h8 : i < 9 := hi; show (if i = 8 then 1008 else 42 + i) ≠ 9; (repeat' split) <;> omega)
         replace b9 : a.tmps.getD 9 undef = .int .i64 ((m : Int) + 1) := b9
         have b10 := h3 10 (fun i hi => by have h8 : i < 9 := hi; show (if i = 8 then 1008 else 42 + i) ≠ 10; (repeat' split) <;> omega)
         replace b10 : a.tmps.getD 10 undef = .bool true := b10
         have b11 := h3 11 (fun i hi => by have h8 : i < 9 := hi; show (if i = 8 then 1008 else 42 + i) ≠ 11; (repeat' split) <;> omega)
         replace b11 : a.tmps.getD 11 undef = u11 := b11
         have b12 := h3 12 (fun i hi => by have h8 : i < 9 := hi; show (if i = 8 then 1008 else 42 + i) ≠ 12; (repeat' split) <;> omega)
         replace b12 : a.tmps.getD 12 undef = u12 := b12
         have b13 := h3 13 (fun i hi => by have h8 : i < 9 := hi; show (if i = 8 then 1008 else 42 + i) ≠ 13; (repeat' split) <;> omega)
         replace b13 : a.tmps.getD 13 undef = .pointer (some ⟨hb, 0, none⟩) := b13
         have b14 := h3 14 (fun i hi => by have h8 : i < 9 := hi; show (if i = 8 then 1008 else 42 + i) ≠ 14; (repeat' split) <;> omega)
         replace b14 : a.tmps.getD 14 undef = .pointer (some ⟨hb, 0, none⟩) := b14
         have b15 := h3 15 (fun i hi => by have h8 : i < 9 := hi; show (if i = 8 then 1008 else 42 + i) ≠ 15; (repeat' split) <;> omega)
         replace b15 : a.tmps.getD 15 undef = .pointer (some ⟨hb, 24, none⟩) := b15
         have b16 := h3 16 (fun i hi => by have h8 : i < 9 := hi; show (if i = 8 then 1008 else 42 + i) ≠ 16; (repeat' split) <;> omega)
         replace b16 : a.tmps.getD 16 undef = .slice (some ⟨gp, op, none⟩) cs.length pc := b16
         have b17 := h3 17 (fun i hi => by have h8 : i < 9 := hi; show (if i = 8 then 1008 else 42 + i) ≠ 17; (repeat' split) <;> omega)
         replace b17 : a.tmps.getD 17 undef = .int .i64 (cs.length : Int) := b17
         have b18 := h3 18 (fun i hi => by have h8 : i < 9 := hi; show (if i = 8 then 1008 else 42 + i) ≠ 18; (repeat' split) <;> omega)
         replace b18 : a.tmps.getD 18 undef = .int .i64 (ix : Int) := b18
         have b51 := h3 51 (fun i hi => by have h8 : i < 9 := hi; show (if i = 8 then 1008 else 42 + i) ≠ 51; (repeat' split) <;> omega)
         replace b51 : a.tmps.getD 51 undef = undef := b51
         rw [act_eq hz hdf]
         simp only [show List.range 52 = [0, 1, 2, 3, 4, 5, 6, 7, 8, 9, 10, 11, 12, 13, 14, 15, 16, 17, 18, 19, 20, 21, 22, 23, 24, 25, 26, 27, 28, 29, 30, 31, 32, 33, 34, 35, 36, 37, 38, 39, 40, 41, 42, 43, 44, 45, 46, 47, 48, 49, 50, 51] from rfl, List.map_cons, List.map_nil, b0, b1, b2, b3, b7, b8, b9, b10, b11, b12, b13, b14, b15, b16, b17, b18, b51]
         clear b0 b1 b2 b3 b7 b8 b9 b10 b11 b12 b13 b14 b15 b16 b17 b18 b51 hz hdf h1 h2 h3 h4
         obtain ⟨lvz, frz⟩ := h5
         go_wp2_with fail
         go_roundw
         case rel => exact ⟨ix + 1, _, put1 L (m + 1) (L (m + 1) ++ [(ix : Int)]), by go_num, by omega, fun j hj => by simp only [put1]; rw [if_neg (by omega)]; exact hL j hj, fun j hj => by simp only [put1]; rw [if_neg (by omega)]; exact hN j hj, by simp only [put1, if_true]; rw [hP, lvlP_yes hix (by rw [hS.out, show ((hse lf cs).lvl m).any (fun c => (hse lf cs).sg ((hse lf cs).at c) ((hse lf cs).at (ix : Int))) = true from han.out.symm]; rfl)], lvz, frz⟩
         case measure =>
          simp [intOf]
          omega
    ·have z9 : ¬ (ix : Int) < (cs.length : Int) := by omega
     obtain rfl : ix = cs.length := by omega
     go_wp2_with fail
     go_roundw
     case rel => exact ⟨m + 1, V, L, by go_num, by omega, fun j hj => by
                                 by_cases h : j ≤ m
                                 ·exact hL j h
                                 ·obtain rfl : j = m + 1 := by omega
                                  rw [hP, lvlP_all], hN, lv, fr⟩
     case measure =>
      simp [intOf]
      omega
  ·have z7 : ¬ (m : Int) + 1 < 8 := by omega
   obtain rfl : m = 7 := by omega
   have kk := lv.arr.range
   have V9 := lv.arr
   go_wp2_with (first
    | ((with_reducible refine wpList_load_mid ?_ 98 (.tmp 2) ?_ g2 0 ?_ ((List.range 8).map V) _ kk Tryz.underlying98 ?_ ?_ ?_); (· rfl); (· rfl); (· rfl); (· rfl); (· exact sz_lv))
    | (refine wpList_store_cut rfl 98 (.tmp 2) (.tmp 51) rfl g2 0 ((List.range 8).map V) _ rfl rfl V9 rfl sz_lv (fun u hu => lv_one lv u hu) ?_; intro w9 hst))
   refine bodyPost_ret (results_row rfl _ _ g2 0 ((List.range 8).map V) _ rfl hst.2.2.1.range Tryz.underlying98 rfl sz_lv) rfl ?_
   have frz := fr.new hbW mbW hst.1 (fun b e => by cases e; have := hg1.out; have := hg2'.out; exact ⟨by omega, by omega⟩)
   refine ⟨V, rfl, frz.gr, frz.hm.tbl, fun j hj => ?_⟩
   have h1 := lv.own j hj
   rw [hL j (by omega)] at h1
   refine own_base (h1.kept hst.1 ?_) (by have := hg1.out; have := hg2'.out; omega)
   cases e : (V j).ownBlock with
   | none => exact .inl rfl
   | some b =>
    refine .inr fun e2 => ?_
    have := (h1.lt b e).1
    cases e2
    omega
end Go.Proofs.YtchaahnhpeoomaaGreat
