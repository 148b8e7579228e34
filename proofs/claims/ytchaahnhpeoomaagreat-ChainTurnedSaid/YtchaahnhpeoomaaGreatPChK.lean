/-
 chain.Find where there is nobody to ask; lintelref13.Same: are two rows of certificates the same?
-/
import Derived.Test.YtchaahnhpeoomaaGreatPChJ
namespace Go.Proofs.YtchaahnhpeoomaaGreat
set_option linter.unusedVariables false
set_option linter.unusedSimpArgs false
set_option maxRecDepth 20000
open Go.RowKit
theorem cf_same12 (vs : Array Value) (w : World) : (callFunc 34 vs).run Tryz.prog w = .ok (.enter 34 vs) w := by kernel_rfl
def Crs (W : World) (A : Option Addr) (cs : List Crt) : Prop := cs = [] ∨ ∃ g o, A = some ⟨g, o, none⟩ ∧ Row W g o (crtCells cs)
theorem Crs.below {W W' : World} {A : Option Addr} {cs : List Crt} (h : Crs W A cs) (hb : Below W.heap.size W W') : Crs W' A cs := h.imp id fun ⟨g, o, h1, h2⟩ => ⟨g, o, h1, h2.below hb⟩
def smT (ga oa gb ob n cA cB ix : Nat) (c d : Crt) (p : Bool) : Nat → Tg
 | 0 => tv (.slice (some ⟨ga, oa, none⟩) n cA)
 | 1 => tv (.int .i64 (ix : Int))
 | 2 => tv (.pointer (some ⟨ga, oa + ix * 24, none⟩))
 | 3 => tv (.agg c.cells.toArray)
 | 4 => tv (.slice (some ⟨gb, ob, none⟩) n cB)
 | 5 => tv (.int .i64 (ix : Int))
 | 6 => tv (.pointer (some ⟨gb, ob + ix * 24, none⟩))
 | 7 => tv (.agg d.cells.toArray)
 | 8 => tv (.bool p)
 | _ => tv (.bool !p)
theorem rg27 : List.range 27 = [0, 1, 2, 3, 4, 5, 6, 7, 8, 9, 10, 11, 12, 13, 14, 15, 16, 17, 18, 19, 20, 21, 22, 23, 24, 25, 26] := rfl
set_option maxRecDepth 100000 in
set_option maxHeartbeats 4000000 in
theorem same13_any {W : World} {A B : Option Addr} {cA cB : Nat} {cs ds : List Crt} (hA : Crs W A cs) (hB : Crs W B ds) (hcok : ∀ c ∈ cs, c.ok W) (hdok : ∀ c ∈ ds, c.ok W) (hl : cs.length ≤ 1000000) :
  Calls Tryz.prog 26 #[.slice A cs.length cA, .slice B ds.length cB] W (RetW (decide (cs.map Crt.say = ds.map Crt.say)) W) := by
 have hcl := hl
 by_cases hne : cs.length = ds.length
 case neg =>
  have hno : decide (cs.map Crt.say = ds.map Crt.say) = false := decide_eq_false fun h => hne (by have := congrArg List.length h; simpa using this)
  rw [hno]
  clear hno
  have z0 : ((cs.length : Int) == (ds.length : Int)) = false := by simp; omega
  have hne : ¬ cs.length = ds.length := hne
  go_enter Tryz.func26, Tryz.ntmps26
  go_wp2_with fail
  go_ret
  exact ⟨rfl, Below.refl _ _⟩
 obtain ⟨bs, hbs⟩ : ∃ b, b = decide (cs.map Crt.say = ds.map Crt.say) := ⟨_, rfl⟩
 rw [← hbs]
 replace hbs := Lib.hid hbs
 obtain ⟨m, hm⟩ : ∃ m, m = ds.length := ⟨_, rfl⟩
 rw [← hm] at hne ⊢
 subst hne
 replace hm := Lib.hid hm
 go_enter Tryz.func26, Tryz.ntmps26
 go_wp2_with fail
 go_loopw [5] (fun t wr => ∃ ix : Nat, t = .int .i64 (ix : Int) ∧ ix ≤ cs.length ∧ (cs.take ix).map Crt.say = (ds.take ix).map Crt.say ∧ Below W.heap.size W wr) (fun t _ => cs.length - (intOf t).toNat)
 case atStart => exact ⟨0, rfl, Nat.zero_le _, rfl, Below.refl _ _⟩
 case round =>
  obtain ⟨ix, rfl, hi, hno, er⟩ := hrel
  replace hno := Lib.hid hno
  have z6 : (ix : Int) ≤ 1000000 := by omega
  by_cases hlt : ix < cs.length
  ·have z1 : (ix : Int) < (cs.length : Int) := by omega
   have hld : ix < ds.length := by rw [← hm.out]; exact hlt
   obtain ⟨c, hc⟩ : ∃ c, cs[ix]? = some c := ⟨_, List.getElem?_eq_getElem hlt⟩
   obtain ⟨d, hd⟩ : ∃ d, ds[ix]? = some d := ⟨_, List.getElem?_eq_getElem hld⟩
   obtain ⟨ga, oa, rfl, Ra⟩ := hA.resolve_left (by rintro rfl; simp at hlt)
   obtain ⟨gb, ob, rfl, Rb⟩ := hB.resolve_left (by rintro rfl; simp at hld)
   have Rc := crt_row Ra hc
   have Rd' := crt_row Rb hd
   have co := hcok c (List.mem_of_getElem? hc)
   have do' := hdok d (List.mem_of_getElem? hd)
   go_upto_region 6 with fail
   obtain ⟨p, hp⟩ : ∃ p, p = decide (c.say = d.say) := ⟨_, rfl⟩
   replace hp := Lib.hid hp
   have hd0 : Below wr.heap.size wr wr.drew := below_drewN (Below.refl _ _) 1
   refine wp_region_steps (by kernel_rfl) (fun i => 17 + i) (fun i v W => Sp ((smT ga oa gb ob cs.length cA cB ix c d p) i) v W) (fun W => Below wr.heap.size wr W) (by kernel_rfl) (by kernel_rfl) ?inj ?lt (fun i v W W' h hs => h.mono hs) hd0 ⟨?s0, ?s1, ?s2, ?s3, ?s4, ?s5, ?s6, ?s7, ?s8, ?s9, trivial⟩ ?fin
   case inj =>
    intro i j hi hj h
    have h40 : i < 10 ∧ j < 10 := ⟨hi, hj⟩
    have h : 17 + i = 17 + j := h
    omega
   case lt =>
    intro i hi
    have h40 : i < 10 := hi
    show 17 + i < 27
    omega
   case s0 => exact (st_move rfl (.inl rfl) (src_base (fun i hi => by have hi : i < 10 := hi; show 17 + i ≠ _; omega) rfl))
   case s1 => exact (st_move rfl (.inl rfl) (src_base (fun i hi => by have hi : i < 10 := hi; show 17 + i ≠ _; omega) rfl))
   case s2 => exact (st_index rfl rfl rfl (src_dep (j := 0) (e := ⟨0, .data⟩) (by simp) rfl rfl rfl) (src_dep (j := 1) (e := ⟨1, .data⟩) (by simp) rfl rfl rfl) (fun W => ia_cert ga oa cs.length cA ix hlt W))
   case s3 => exact (st_loadR (b := ga) (off := (oa + ix * 24)) rfl rfl rfl (src_dep (j := 2) (e := ⟨2, .data⟩) (by simp) rfl rfl rfl) Tryz.underlying30 rfl (sz_crt _) (fun W h => (Rc.below (er.trans (h.mono er.size))).rng))
   case s4 => exact (st_move rfl (.inl rfl) (src_base (fun i hi => by have hi : i < 10 := hi; show 17 + i ≠ _; omega) rfl))
   case s5 => exact (st_move rfl (.inl rfl) (src_base (fun i hi => by have hi : i < 10 := hi; show 17 + i ≠ _; omega) rfl))
   case s6 => exact (st_index rfl rfl rfl (src_dep (j := 4) (e := ⟨4, .data⟩) (by simp) rfl rfl rfl) (src_dep (j := 5) (e := ⟨5, .data⟩) (by simp) rfl rfl rfl) (fun W => ia_cert gb ob cs.length cB ix hlt W))
   case s7 => exact (st_loadR (b := gb) (off := (ob + ix * 24)) rfl rfl rfl (src_dep (j := 6) (e := ⟨6, .data⟩) (by simp) rfl rfl rfl) Tryz.underlying30 rfl (sz_crt _) (fun W h => (Rd'.below (er.trans (h.mono er.size))).rng))
   case s8 => exact (st_call rfl (fun a W => run_call rfl cf_same12 a W) (fun a W hb hd h => by
     have h1 : a.eval (.tmp 20) = c.val := (hd ⟨3, .data⟩ (by simp) rfl).now
     have h2 : a.eval (.tmp 24) = d.val := (hd ⟨7, .data⟩ (by simp) rfl).now
     simp only [List.map_toArray, List.map_cons, List.map_nil, h1, h2]
     refine (sameC_any c d W (co.below (er.trans (h.mono er.size))) (do'.below (er.trans (h.mono er.size)))).mono ?_
     rintro e W' ⟨rfl, q⟩
     exact ⟨_, rfl, q, by rw [← hp.out]; exact Sp.tv rfl⟩))
   case s9 => exact (st_pure (V := .bool p) (U := .bool !p) rfl (src_dep (j := 8) (e := ⟨8, .data⟩) (by simp) rfl rfl rfl) (fun a h W => by
     have h : a.eval (.tmp 25) = .bool p := h
     unfold execOp
     simp only [h]
     rfl) (fun W hg => Sp.tv rfl))
   case fin =>
    intro a W2 h1 h2 h3 h4 h5
    have b26 : a.tmps.getD 26 undef = .bool !p := (h4 9 (by show 9 < 10; omega)).now
    have hz : a.tmps.size = 27 := h2
    have hdf : a.defers = [] := h1
    have b0 : a.tmps.getD 0 undef = .slice (some ⟨ga, oa, none⟩) cs.length cA := h3 0 (fun i (h : i < 10) => by show (17 + i) ≠ 0; omega)
    have b1 : a.tmps.getD 1 undef = .slice (some ⟨gb, ob, none⟩) cs.length cB := h3 1 (fun i (h : i < 10) => by show (17 + i) ≠ 1; omega)
    have b2 : a.tmps.getD 2 undef = undef := h3 2 (fun i (h : i < 10) => by show (17 + i) ≠ 2; omega)
    have b3 : a.tmps.getD 3 undef = undef := h3 3 (fun i (h : i < 10) => by show (17 + i) ≠ 3; omega)
    have b5 : a.tmps.getD 5 undef = .int .i64 (ix : Int) := h3 5 (fun i (h : i < 10) => by show (17 + i) ≠ 5; omega)
    have b6 : a.tmps.getD 6 undef = .slice (some ⟨ga, oa, none⟩) cs.length cA := h3 6 (fun i (h : i < 10) => by show (17 + i) ≠ 6; omega)
    have b7 : a.tmps.getD 7 undef = .int .i64 (cs.length : Int) := h3 7 (fun i (h : i < 10) => by show (17 + i) ≠ 7; omega)
    have b8 : a.tmps.getD 8 undef = .slice (some ⟨gb, ob, none⟩) cs.length cB := h3 8 (fun i (h : i < 10) => by show (17 + i) ≠ 8; omega)
    have b9 : a.tmps.getD 9 undef = .int .i64 (cs.length : Int) := h3 9 (fun i (h : i < 10) => by show (17 + i) ≠ 9; omega)
    have b10 : a.tmps.getD 10 undef = .bool false := h3 10 (fun i (h : i < 10) => by show (17 + i) ≠ 10; omega)
    rw [act_eq hz hdf]
    simp only [rg27, List.map_cons, List.map_nil, b0, b1, b2, b3, b5, b6, b7, b8, b9, b10, b26]
    clear b0 b1 b2 b3 b5 b6 b7 b8 b9 b10 b26 hz hdf h1 h2 h3 h4
    have er2 := er.trans (h5.mono er.size)
    have HT := Lib.hid (show cs.take (ix + 1) = cs.take ix ++ [c] by rw [List.take_add_one, hc]; rfl)
    have HU := Lib.hid (show ds.take (ix + 1) = ds.take ix ++ [d] by rw [List.take_add_one, hd]; rfl)
    cases p
    case true =>
     go_wp2_with fail
     go_roundw
     case rel => exact ⟨ix + 1, by go_num, by omega, by rw [HT.out, HU.out, List.map_append, List.map_append, hno.out]; simp [of_decide_eq_true hp.out.symm], er2⟩
     case measure =>
      simp [intOf]
      omega
    case false =>
     have hy : bs = false := by
      rw [hbs.out]
      refine decide_eq_false fun h => of_decide_eq_false hp.out.symm ?_
      have h1 := congrArg (fun l : List Say => l[ix]?) h
      simp [hc, hd] at h1
      exact h1
     replace hy := Lib.hid hy
     go_wp2_with fail
     go_ret
     exact ⟨by rw [hy.out]; rfl, er2⟩
  ·have z1 : ¬ (ix : Int) < (cs.length : Int) := by omega
   have hy : bs = true := by
    obtain rfl : ix = cs.length := by omega
    rw [hbs.out]
    refine decide_eq_true ?_
    have h := hno.out
    rwa [List.take_length, List.take_of_length_le (by rw [← hm.out]; exact Nat.le_refl _)] at h
   replace hy := Lib.hid hy
   go_wp2_with fail
   go_ret
   exact ⟨by rw [hy.out]; rfl, er⟩
end Go.Proofs.YtchaahnhpeoomaaGreat
