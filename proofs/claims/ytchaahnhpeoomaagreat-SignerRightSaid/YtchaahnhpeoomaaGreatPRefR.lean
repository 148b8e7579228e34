/-
 lintelref15.Right: for what a signer is right, and by which certificate, as the document says.
-/
import Derived.Test.YtchaahnhpeoomaaGreatPRefO
import Derived.Test.YtchaahnhpeoomaaGreatPPrsC
namespace Go.Proofs.YtchaahnhpeoomaaGreat
set_option linter.unusedVariables false
set_option linter.unusedSimpArgs false
set_option maxRecDepth 20000
open Go.RowKit
theorem cf_own (vs : Array Value) (w : World) : (callFunc 62 vs).run Tryz.prog w = .ok (.enter 62 vs) w := by kernel_rfl
theorem rg69 : List.range 69 = [0, 1, 2, 3, 4, 5, 6, 7, 8, 9, 10, 11, 12, 13, 14, 15, 16, 17, 18, 19, 20, 21, 22, 23, 24, 25, 26, 27, 28, 29, 30, 31, 32, 33, 34, 35, 36, 37, 38, 39, 40, 41, 42, 43, 44, 45, 46, 47, 48, 49, 50, 51, 52, 53, 54, 55, 56, 57, 58, 59, 60, 61, 62, 63, 64, 65, 66, 67, 68] := rfl
def rgtT (g0 gc o1 B : Nat) (vC : Value) (G : Sgd) (k i : Int) (c : Crt) : Nat → Tg
 | 0 => tv (.pointer (some ⟨g0, 2, none⟩))
 | 1 => tv vC
 | 2 => tv (.agg G.cells.toArray)
 | 3 => tv (.int .i64 k)
 | 4 => tv (.int .i64 i)
 | 5 => tv (.pointer (some ⟨gc, o1, none⟩))
 | 6 => tv (.agg c.cells.toArray)
 | _ => tptr B (Value.agg Crt.none.cells.toArray).cells 30
def dgT (g4 gb : Nat) (s : Sgn) (kA : Option Addr) (kc : Nat) (kx : List Nat) (p1 p2 : Bool) : Nat → Tg
 | 0 => tv (.pointer (some ⟨g4, 3, none⟩))
 | 1 => tv (.slice s.kind.A s.kind.xs.length s.kind.c)
 | 2 => tv (.slice kA kx.length kc)
 | 3 => tv (.bool p1)
 | 4 => tv (.bool !p1)
 | 5 => tv (.bool !p1)
 | 11 => tv (.bool (!p1 || !p2))
 | n => match p1 with
  | false => fun _ _ => True
  | true => match n with
   | 6 => tv (.pointer (some ⟨g4, 4, none⟩))
   | 7 => tv (.slice s.digest.A s.digest.xs.length s.digest.c)
   | 8 => tv (.slice (some ⟨gb, 0, none⟩) 32 32)
   | 9 => tv (.bool p2)
   | _ => tv (.bool !p2)
set_option maxRecDepth 100000 in
set_option maxHeartbeats 30000000 in
theorem rRight_any {G : Sgd} {cs : List Crt} {ss : List Sgn} {gc oc gs os : Nat} {w : World} (M : SMem G cs ss gc oc gs os w) (K : Int) (hK : -9223372036854775808 ≤ K ∧ K < 9223372036854775808) (kd : Sl) (hkd : kd.ok w) (ds : List Nat) (hd : ds.length = 32) (ld : Lim 256 ds) :
  Calls Tryz.prog 31 #[G.val, .int .i64 K, kd.val, .agg (ints .u8 ds).toArray] w (RightPost (rightAt cs ss K kd.xs ds) w) := by
 obtain ⟨g0, hg0⟩ : ∃ g, g = w.heap.size := ⟨_, rfl⟩
 obtain ⟨u0, hu0⟩ : ∃ u, u = w.alloc (.cells G.cells.toArray 48) := ⟨_, rfl⟩
 obtain ⟨w0, hw0⟩ : ∃ u, u = u0.alloc (.cells (ints .u8 ds).toArray 49) := ⟨_, rfl⟩
 obtain ⟨gb, hgb⟩ : ∃ g, g = w.heap.size + 1 := ⟨_, rfl⟩
 have hu1 : u0.heap.size = gb := by rw [hu0, hgb]; simp
 have eu : Below w.heap.size w u0 := by rw [hu0]; exact (Below.refl _ _).alloc (Nat.le_refl _) _
 have ev : Below u0.heap.size u0 w0 := by rw [hw0]; exact (Below.refl _ _).alloc (Nat.le_refl _) _
 have hE : Below w.heap.size w w0 := eu.trans (ev.mono eu.size)
 have B0 : Row u0 g0 0 G.cells := by rw [hu0, hg0]; exact row_new _
 replace B0 := B0.below ev
 have U1 : Whl .u8 49 w0 gb ds := by rw [hw0, ← hu1]; exact whl_new0 _ _
 have M0 := M
 replace M := M.below hE
 replace hkd := hkd.below hE
 replace hd := Lib.hid hd
 obtain ⟨kA, kc0, kx⟩ := kd
 have hcn := M.cn
 have hsn := M.sn
 have hcl := M.cl
 have hsl := M.sl
 replace hcn := Lib.hid hcn
 replace hsn := Lib.hid hsn
 unfold Sgd.val Sl.val
 go_enter Tryz.func31, Tryz.ntmps31
 go_upto_region 1 with ((with_reducible refine wpList_alloc_row ?_ 30 ?_ Crt.none.cells zero_cert ?_); (· rfl); (· rfl); intro g1 w1 hg1 V1 z1 e1)
 rw [← hu0, ← hw0] at hg1 e1
 rw [← hgb, ← hg0]
 clear hw0 hu0 eu ev hu1
 replace hg0 := Lib.hid hg0
 replace hgb := Lib.hid hgb
 have lt0 : w.heap.size ≤ g0 := Nat.le_of_eq hg0.out.symm
 have lt1 : w.heap.size ≤ g1 := by have := hE.size; have := hg1.out; omega
 have ltb : w.heap.size ≤ gb := by have := hgb.out; omega
 have l01 : g0 < g1 := by have := hg1.out; have := B0.1; omega
 have lb1 : gb < g1 := by have := hg1.out; have := U1.lt; omega
 replace B0 := B0.below e1
 replace U1 := U1.below e1
 replace M := M.below e1
 replace hkd := hkd.below e1
 replace hE := hE.trans (e1.mono hE.size)
 clear e1
 have k3 : w1.cell? ⟨g0, 3, none⟩ = some (.slice G.SA ss.length G.sc) := by have q := B0.at_ (i := 3) (o' := 3) (v := .slice G.SA G.sn G.sc) rfl rfl; rwa [hsn.out] at q
 have hz : K < 0 ∨ (0 ≤ K ∧ ¬ K < 0 ∧ ¬ K < (ss.length : Int)) ∨ (0 ≤ K ∧ ¬ K < 0 ∧ K < (ss.length : Int)) := by omega
 rcases hz with z | ⟨z, z2, z3⟩ | ⟨z, z2, z3⟩
 ·have hno : rightAt cs ss K kx ds = none := by unfold rightAt; rw [if_pos z]
  replace hno := Lib.hid hno
  go_wp2_with (first
   | ((with_reducible refine wpList_build_at ?_ 30 #[] ?_ Crt.none.cells built_cert ?_); (· rfl); (· rfl))
   | ((with_reducible refine wpList_store_cut ?_ 30 (.tmp 8) (.tmp 27) ?_ g1 0 Crt.none.cells _ ?_ ?_ V1 ?_ (sz_crt _) (crt_one _) ?_); (· rfl); (· rfl); (· rfl); (· rfl); (· rfl); intro w9 hst))
  refine bodyPost_ret (results_row_tmp rfl _ _ g1 0 Crt.none.cells _ rfl hst.2.2.1.range Tryz.underlying30 rfl (sz_crt _)) rfl ?_
  rw [hno.out]
  exact ⟨rfl, below_only hE hst.1 hE.size lt1⟩
 ·have hno : rightAt cs ss K kx ds = none := by unfold rightAt; rw [if_neg z2, List.getElem?_eq_none (by omega)]; rfl
  replace hno := Lib.hid hno
  go_wp2_with (first
   | ((with_reducible refine wpList_build_at ?_ 30 #[] ?_ Crt.none.cells built_cert ?_); (· rfl); (· rfl))
   | ((with_reducible refine wpList_store_cut ?_ 30 (.tmp 8) (.tmp 27) ?_ g1 0 Crt.none.cells _ ?_ ?_ V1 ?_ (sz_crt _) (crt_one _) ?_); (· rfl); (· rfl); (· rfl); (· rfl); (· rfl); intro w9 hst))
  refine bodyPost_ret (results_row_tmp rfl _ _ g1 0 Crt.none.cells _ rfl hst.2.2.1.range Tryz.underlying30 rfl (sz_crt _)) rfl ?_
  rw [hno.out]
  exact ⟨rfl, below_only hE hst.1 hE.size lt1⟩
 ·obtain ⟨k, rfl⟩ : ∃ k : Nat, K = (k : Int) := ⟨K.toNat, by omega⟩
  have hks : k < ss.length := by omega
  obtain ⟨s, hs⟩ : ∃ s, ss[k]? = some s := ⟨_, List.getElem?_eq_getElem hks⟩
  have hat : rightAt cs ss (k : Int) kx ds = rightOf cs s kx ds := by
   unfold rightAt
   rw [if_neg (by omega), Int.toNat_natCast, hs]
   rfl
  replace hat := Lib.hid hat
  have hSA := M.sA.resolve_left (by rintro rfl; simp at hks)
  have z9 : decide (ss.length ≤ k) = false := decide_eq_false (by omega)
  go_wp2_with ((with_reducible refine wpList_load_if 48 (.tmp 4) ?_ g0 0 G.cells _ B0.rng Tryz.underlying48 ?_ (sz_sg _) ?_ ?_ ?_); (· rfl); (· rfl); (· rfl); (· rfl))
  refine (owner_any M.bare k s hs).mono ?_
  rintro r1 w1 ⟨rfl, b⟩
  replace B0 := B0.below b
  replace U1 := U1.below b
  replace M := M.below b
  replace hkd := hkd.below b
  replace V1 := V1.below b
  replace hE := hE.trans (b.mono hE.size)
  clear b
  obtain ⟨ow, how⟩ : ∃ o, o = ownI cs s := ⟨_, rfl⟩
  rw [← how]
  replace how := Lib.hid how
  rcases ownI_find cs s with ⟨h1, h2⟩ | ⟨ix, c, h1, h2, h3⟩
  ·have hno : rightAt cs ss (k : Int) kx ds = none := by rw [hat.out]; unfold rightOf; rw [h2]; rfl
   replace hno := Lib.hid hno
   obtain rfl : ow = -1 := how.out.trans h1
   go_wp2_with (first
    | ((with_reducible refine wpList_build_at ?_ 30 #[] ?_ Crt.none.cells built_cert ?_); (· rfl); (· rfl))
    | ((with_reducible refine wpList_store_cut ?_ 30 (.tmp 8) (.tmp 27) ?_ g1 0 Crt.none.cells _ ?_ ?_ V1 ?_ (sz_crt _) (crt_one _) ?_); (· rfl); (· rfl); (· rfl); (· rfl); (· rfl); intro w9 hst))
   refine bodyPost_ret (results_row_tmp rfl _ _ g1 0 Crt.none.cells _ rfl hst.2.2.1.range Tryz.underlying30 rfl (sz_crt _)) rfl ?_
   rw [hno.out]
   exact ⟨rfl, below_only hE hst.1 hE.size lt1⟩
  ·obtain rfl : ow = (ix : Int) := how.out.trans h1
   have hlt : ix < cs.length := (List.getElem?_eq_some_iff.1 h2).1
   have hro : rightAt cs ss (k : Int) kx ds = if sgYes s kx ds c = true then some c else none := by
    rw [hat.out]
    unfold rightOf
    rw [h3]
    rfl
   replace hro := Lib.hid hro
   have hCA := M.cA.resolve_left (by rintro rfl; simp at hlt)
   have zi : ¬ (ix : Int) < 0 := by omega
   go_upto_region 3 with fail
   have k2 : w1.cell? ⟨g0, 2, none⟩ = some (.slice (some ⟨gc, oc, none⟩) cs.length G.cc) := by have q := B0.at_ (i := 2) (o' := 2) (v := .slice G.CA G.cn G.cc) rfl rfl; rwa [hcn.out, hCA] at q
   have Rc := crt_row M.cR h2
   have Rs := M.sR k s hs
   have co := M.cok c (List.mem_of_getElem? h2)
   have so := M.sok s (List.mem_of_getElem? hs)
   have hca := M.ck c (List.mem_of_getElem? h2)
   have hsa := M.sa s (List.mem_of_getElem? hs)
   have lt2 : g1 < w1.heap.size := V1.1
   have hsz := hE.size
   have hd0 : Below w1.heap.size w1 w1.drew := below_drewN (Below.refl _ _) 1
   refine wp_region_last (by kernel_rfl) (fun i => if i = 7 then 10 else 28 + i) (fun i v W => Sp (rgtT g0 gc (oc + ix * 24) w1.heap.size (.slice (some ⟨gc, oc, none⟩) cs.length G.cc) G (k : Int) (ix : Int) c i) v W) (fun W => Below w1.heap.size w1 W) (Nat.succ_pos _) (by kernel_rfl) (by kernel_rfl) (by kernel_rfl) ?inj ?lt (fun i v W W' h hs => h.mono hs) hd0 ⟨?s0, ?s1, ?s2, ?s3, ?s4, ?s5, ?s6, ?s7, trivial⟩ ?fin
   case inj =>
    intro i j hi hj h
    have h40 : i < 8 ∧ j < 8 := ⟨hi, hj⟩
    have h : (if i = 7 then 10 else 28 + i) = (if j = 7 then 10 else 28 + j) := h
    (repeat' split at h) <;> omega
   case lt =>
    intro i hi
    have h40 : i < 8 := hi
    show (if i = 7 then 10 else 28 + i) < 69
    (repeat' split) <;> omega
   case s0 => exact (st_field rfl rfl rfl (src_base (fun i hi => by have hi : i < 8 := hi; show (if i = 7 then 10 else 28 + i) ≠ _; (repeat' split) <;> omega) rfl) (fun W => fa_sgd2 g0 0 W))
   case s1 => exact (st_load rfl rfl rfl (src_dep (j := 0) (e := ⟨0, .data⟩) (by simp) rfl rfl rfl) (ld_certs _ _) (fun W h => (h.cell (p := ⟨g0, 2, none⟩) B0.1).trans k2))
   case s2 => exact (st_loadR (b := g0) (off := 0) rfl rfl rfl (src_base (fun i hi => by have hi : i < 8 := hi; show (if i = 7 then 10 else 28 + i) ≠ _; (repeat' split) <;> omega) rfl) Tryz.underlying48 rfl (sz_sg _) (fun W h => (B0.below h).2))
   case s3 => exact (st_move rfl (.inl rfl) (src_base (fun i hi => by have hi : i < 8 := hi; show (if i = 7 then 10 else 28 + i) ≠ _; (repeat' split) <;> omega) rfl))
   case s4 => exact (st_call rfl (fun a W => run_call rfl cf_own a W) (fun a W hb hd h => by
     have h1 : a.eval (.tmp 30) = .agg G.cells.toArray := (hd ⟨2, .data⟩ (by simp) rfl).now
     have h2 : a.eval (.tmp 31) = .int .i64 (k : Int) := (hd ⟨3, .data⟩ (by simp) rfl).now
     simp only [List.map_toArray, List.map_cons, List.map_nil, h1, h2]
     refine (owner_any (M.bare.below h) k s hs).mono ?_
     rintro e W' ⟨rfl, b⟩
     exact ⟨_, rfl, b, by rw [← how.out]; exact Sp.tv rfl⟩))
   case s5 => exact (st_index rfl rfl rfl (src_dep (j := 1) (e := ⟨1, .data⟩) (by simp) rfl rfl rfl) (src_dep (j := 4) (e := ⟨4, .data⟩) (by simp) rfl rfl rfl) (fun W => ia_cert gc oc cs.length G.cc ix hlt W))
   case s6 => exact (st_loadR (b := gc) (off := (oc + ix * 24)) rfl rfl rfl (src_dep (j := 5) (e := ⟨5, .data⟩) (by simp) rfl rfl rfl) Tryz.underlying30 rfl (sz_crt _) (fun W h => (Rc.below h).2))
   case s7 => exact (st_alloc rfl rfl rfl (z := .agg Crt.none.cells.toArray) zero_cert (by decide))
   case fin =>
    intro o ho' a W h1 h2' h3' h4 h5 K' hK
    have hv' := (h4 6 (by show 6 < 8; omega)).now
    obtain ⟨g3, hg3, hB3, hh3⟩ := (h4 7 (by show 7 < 8; omega)).now
    cases (Option.some.inj (show some _ = some o from ho'))
    have b10 : a.tmps.getD 10 undef = .pointer (some ⟨g3, 0, none⟩) := hg3
    have kk2 : a.eval (.tmp 34) = .agg c.cells.toArray := hv'
    have C3 : Cut W g3 0 Crt.none.cells := Cut.of_heap hh3 fun i v hv => by simpa [Value.cells] using hv
    refine step_store_cut rfl 30 (.tmp 10) (.tmp 34) rfl g3 0 _ _ b10 kk2 C3 rfl (sz_crt _) (crt_one _) (fun w3 hst => hK a w3 ?_)
    have h2 := h2'
    have h3 := h3'
    have hz : a.tmps.size = 69 := h2
    have hdf : a.defers = [] := h1
    have b0 : a.tmps.getD 0 undef = .agg G.cells.toArray := h3 0 (fun i (h : i < 8) => by show (if i = 7 then 10 else 28 + i) ≠ 0; (repeat' split) <;> omega)
    have b1 : a.tmps.getD 1 undef = .int .i64 (k : Int) := h3 1 (fun i (h : i < 8) => by show (if i = 7 then 10 else 28 + i) ≠ 1; (repeat' split) <;> omega)
    have b2 : a.tmps.getD 2 undef = .slice kA kx.length kc0 := h3 2 (fun i (h : i < 8) => by show (if i = 7 then 10 else 28 + i) ≠ 2; (repeat' split) <;> omega)
    have b3 : a.tmps.getD 3 undef = .agg (ints .u8 ds).toArray := h3 3 (fun i (h : i < 8) => by show (if i = 7 then 10 else 28 + i) ≠ 3; (repeat' split) <;> omega)
    have b4 : a.tmps.getD 4 undef = .pointer (some ⟨g0, 0, none⟩) := h3 4 (fun i (h : i < 8) => by show (if i = 7 then 10 else 28 + i) ≠ 4; (repeat' split) <;> omega)
    have b7 : a.tmps.getD 7 undef = .pointer (some ⟨gb, 0, none⟩) := h3 7 (fun i (h : i < 8) => by show (if i = 7 then 10 else 28 + i) ≠ 7; (repeat' split) <;> omega)
    have b8 : a.tmps.getD 8 undef = .pointer (some ⟨g1, 0, none⟩) := h3 8 (fun i (h : i < 8) => by show (if i = 7 then 10 else 28 + i) ≠ 8; (repeat' split) <;> omega)
    have b9 : a.tmps.getD 9 undef = .bool false := h3 9 (fun i (h : i < 8) => by show (if i = 7 then 10 else 28 + i) ≠ 9; (repeat' split) <;> omega)
    have b11 : a.tmps.getD 11 undef = undef := h3 11 (fun i (h : i < 8) => by show (if i = 7 then 10 else 28 + i) ≠ 11; (repeat' split) <;> omega)
    rw [act_eq hz hdf]
    simp only [rg69, List.map_cons, List.map_nil, b0, b1, b2, b3, b4, b7, b8, b9, b11, b10]
    clear b0 b1 b2 b3 b4 b7 b8 b9 b11 b10 hz hdf h1 h2 h3 h4
    have b : Below w1.heap.size w1 w3 := below_only h5 hst.1 h5.size (by omega)
    have D3 : Row w3 g3 0 c.cells := Row.of_cut hst.2.2.1
    have n3 : g3 ≠ gb := by have := U1.lt; omega
    clear C3 kk2 hst hh3 hg3 hv' hB3 h5 hK ho' k3 k2
    replace B0 := B0.below b
    replace U1 := U1.below b
    replace M := M.below b
    replace hkd := hkd.below b
    replace V1 := V1.below b
    replace Rs := Rs.below b
    replace co := co.below b
    replace so := so.below b
    replace hE := hE.trans (b.mono hE.size)
    clear b
    have k3 : w3.cell? ⟨g0, 3, none⟩ = some (.slice (some ⟨gs, os, none⟩) ss.length G.sc) := by have q := B0.at_ (i := 3) (o' := 3) (v := .slice G.SA G.sn G.sc) rfl rfl; rwa [hsn.out, hSA] at q
    have zk : (k : Int) < (ss.length : Int) := by omega
    have hub := U1.lt
    go_upto_region 4 with fail
    go_upto_region 5 with (first
     | ((with_reducible refine wpList_load_mid ?_ 67 (.tmp 38) ?_ gs (os + k * 6) ?_ s.cells _ Rs.rng Tryz.underlying67 ?_ (sz_sgn _) ?_); (· rfl); (· rfl); (· rfl); (· rfl))
     | ((with_reducible refine wpList_alloc_row ?_ 67 ?_ sgn0 zero_sgn0 ?_); (· rfl); (· rfl); intro g4 wa4 hg4 V4 z4 e4)
     | ((with_reducible refine wpList_store_cut ?_ 67 (.tmp 11) (.tmp 39) ?_ g4 0 s.cells _ ?_ ?_ V4 ?_ (sz_sgn _) (sgn_one _) ?_); (· rfl); (· rfl); (· rfl); (· rfl); (· rfl); intro w4 hst4))
    have b4 : Below w3.heap.size w3 w4 := below_only e4 hst4.1 e4.size (by have := hg4.out; omega)
    have D4 : Row w4 g4 0 s.cells := Row.of_cut hst4.2.2.1
    have lt4 : w.heap.size ≤ g4 := by have := hE.size; have := hg4.out; omega
    have rt4 : w3.heap.size = g4 := hg4.out.symm
    replace rt4 := Lib.hid rt4
    clear V4 z4 e4 hst4
    replace B0 := B0.below b4
    replace U1 := U1.below b4
    replace M := M.below b4
    replace hkd := hkd.below b4
    replace V1 := V1.below b4
    replace Rs := Rs.below b4
    replace co := co.below b4
    replace so := so.below b4
    replace D3 := D3.below b4
    replace hE := hE.trans (b4.mono hE.size)
    clear b4
    have n4 : g4 ≠ gb := by have := rt4.out; omega
    have ka : w4.cell? ⟨g4, 2, none⟩ = some (.slice s.attrs.A s.attrs.xs.length s.attrs.c) := D4.at_ (i := 2) rfl rfl
    have kk : w4.cell? ⟨g4, 3, none⟩ = some (.slice s.kind.A s.kind.xs.length s.kind.c) := D4.at_ (i := 3) rfl rfl
    have kd : w4.cell? ⟨g4, 4, none⟩ = some (.slice s.digest.A s.digest.xs.length s.digest.c) := D4.at_ (i := 4) rfl rfl
    have ks : w4.cell? ⟨g4, 5, none⟩ = some (.slice s.sig.A s.sig.xs.length s.sig.c) := D4.at_ (i := 5) rfl rfl
    by_cases ha : s.attrs.xs = []
    ·have za : ¬ (0 : Int) < (s.attrs.xs.length : Int) := by rw [ha]; decide
     clear kk kd ks
     go_upto_region 9 with fail
     clear ka
     have kq : w4.cell? ⟨g4, 5, none⟩ = some (.slice s.sig.A s.sig.xs.length s.sig.c) := D4.at_ (i := 5) rfl rfl
     have kr : w4.rangeAt g3 17 [.slice c.key.A c.key.xs.length c.key.c, .int .u64 (c.e : Int)] := fun j v hv => by
      have hj : j < 2 := (List.getElem?_eq_some_iff.1 hv).1
      refine D3.cell (i := 17 + j) (v := v) ?_ |> fun q => by rwa [Nat.zero_add] at q
      rcases j with _ | _ | j
      ·exact hv
      ·exact hv
      ·omega
     go_wp2_with (first
      | ((with_reducible refine wpList_load_mid ?_ 28 (.tmp 60) ?_ g3 17 ?_ [.slice c.key.A c.key.xs.length c.key.c, .int .u64 (c.e : Int)] _ kr Tryz.underlying28 ?_ ?_ ?_); (· rfl); (· rfl); (· rfl); (· rfl); (· exact size_key))
      | ((with_reducible refine wpList_load_whl ?_ 49 (.tmp 7) ?_ gb ?_ .u8 _ ds U1 _ Tryz.underlying49 ?_ (by rw [hd.out]; exact size_32u8) ?_); (· rfl); (· rfl); (· rfl); (· rfl)))
     clear kq kr
     have hq := refVerify_any c.key.A s.sig.A c.key.xs.length c.key.c c.e s.sig.xs.length s.sig.c c.key.xs ds s.sig.xs w4 rfl rfl hca so.sig.len co.key.rd so.sig.rd co.key.lim so.sig.lim hd.out ld co.e
     rw [show keyVal c.key.A c.key.xs.length c.key.c c.e = .agg #[.slice c.key.A c.key.xs.length c.key.c, .int .u64 (c.e : Int)] from rfl] at hq
     refine (hq).mono ?_
     rintro r15 w15 ⟨rfl, b⟩
     replace B0 := B0.below b
     replace U1 := U1.below b
     replace M := M.below b
     replace hkd := hkd.below b
     replace V1 := V1.below b
     replace Rs := Rs.below b
     replace co := co.below b
     replace so := so.below b
     replace D3 := D3.below b
     replace D4 := D4.below b
     replace hE := hE.trans (b.mono hE.size)
     clear b
     obtain ⟨vv, hvv⟩ : ∃ v, v = verB c.key.xs c.e ds s.sig.xs := ⟨_, rfl⟩
     rw [← hvv]
     replace hvv := Lib.hid hvv
     clear hq
     cases vv
     case false =>
      have hy : Hid (rightAt cs ss (k : Int) kx ds = none) := Lib.hid (by rw [hro.out, (show sgYes s kx ds c = false by unfold sgYes; rw [if_pos ha, ← hvv.out])]; rfl)
      go_wp2_with (first
       | ((with_reducible refine wpList_build_at ?_ 30 #[] ?_ Crt.none.cells built_cert ?_); (· rfl); (· rfl))
       | ((with_reducible refine wpList_store_cut ?_ 30 (.tmp 8) (.tmp 67) ?_ g1 0 Crt.none.cells _ ?_ ?_ V1 ?_ (sz_crt _) (crt_one _) ?_); (· rfl); (· rfl); (· rfl); (· rfl); (· rfl); intro w9 hst))
      refine bodyPost_ret (results_row_tmp rfl _ _ g1 0 Crt.none.cells _ rfl hst.2.2.1.range Tryz.underlying30 rfl (sz_crt _)) rfl ?_
      rw [hy.out]
      exact ⟨rfl, below_only hE hst.1 hE.size lt1⟩
     case true =>
      have hy : Hid (rightAt cs ss (k : Int) kx ds = some c) := Lib.hid (by rw [hro.out, (show sgYes s kx ds c = true by unfold sgYes; rw [if_pos ha, ← hvv.out])]; rfl)
      go_wp2_with (first
       | ((with_reducible refine wpList_load_mid ?_ 30 (.tmp 10) ?_ g3 0 ?_ c.cells _ D3.rng Tryz.underlying30 ?_ (sz_crt _) ?_); (· rfl); (· rfl); (· rfl); (· rfl))
       | ((with_reducible refine wpList_store_cut ?_ 30 (.tmp 8) (.tmp 68) ?_ g1 0 c.cells _ ?_ ?_ V1 ?_ (sz_crt _) (crt_one _) ?_); (· rfl); (· rfl); (· rfl); (· rfl); (· rfl); intro w9 hst))
      refine bodyPost_ret (results_row_tmp rfl _ _ g1 0 c.cells _ rfl hst.2.2.1.range Tryz.underlying30 rfl (sz_crt _)) rfl ?_
      rw [hy.out]
      exact ⟨rfl, below_only hE hst.1 hE.size lt1⟩
    ·have za : (0 : Int) < (s.attrs.xs.length : Int) := by
      have : s.attrs.xs.length ≠ 0 := fun h => ha (List.eq_nil_of_length_eq_zero h)
      omega
     clear ks
     go_upto_region 6 with fail
     have hud := digest_length s.attrs.xs
     have hul := U1.lt
     obtain ⟨p2, d2⟩ : ∃ p, p = decide (s.digest.xs = ds) := ⟨_, rfl⟩
     replace d2 := Lib.hid d2
     have hpc : (decide (s.kind.xs = kx) = false) ∨ (decide (s.kind.xs = kx) = true) := by cases decide (s.kind.xs = kx) <;> simp
     rcases hpc with d1 | d1
     ·skip
      have hd0 : Below w4.heap.size w4 w4.drew := below_drewN (Below.refl _ _) 1
      refine wp_region_steps (by kernel_rfl) (fun i => 44 + i) (fun i v W => Sp (dgT g4 gb s kA kc0 kx false true i) v W) (fun W => Below w4.heap.size w4 W) (by kernel_rfl) (by kernel_rfl) ?inj ?lt (fun i v W W' h hs => h.mono hs) hd0 ⟨?s0, ?s1, ?s2, ?s3, ?s4, ?s5, ?s6, ?s7, ?s8, ?s9, ?s10, ?s11, trivial⟩ ?fin
      case inj =>
       intro i j hi hj h
       have h40 : i < 12 ∧ j < 12 := ⟨hi, hj⟩
       have h : 44 + i = 44 + j := h
       omega
      case lt =>
       intro i hi
       have h40 : i < 12 := hi
       show 44 + i < 69
       omega
      case s0 => exact (st_field rfl rfl rfl (src_base (fun i hi => by have hi : i < 12 := hi; show 44 + i ≠ _; omega) rfl) (fun W => fa_sgr3 g4 0 W))
      case s1 => exact (st_load rfl rfl rfl (src_dep (j := 0) (e := ⟨0, .data⟩) (by simp) rfl rfl rfl) (ld_u8s _ _) (fun W h => (h.cell (p := ⟨g4, 3, none⟩) D4.1).trans kk))
      case s2 => exact (st_move rfl (.inl rfl) (src_base (fun i hi => by have hi : i < 12 := hi; show 44 + i ≠ _; omega) rfl))
      case s3 => exact (st_call rfl (fun a W => run_call rfl cf_eqb a W) (fun a W hb hd h => by
        have h1 : a.eval (.tmp 45) = .slice s.kind.A s.kind.xs.length s.kind.c := (hd ⟨1, .data⟩ (by simp) rfl).now
        have h2 : a.eval (.tmp 46) = .slice kA kx.length kc0 := (hd ⟨2, .data⟩ (by simp) rfl).now
        simp only [List.map_toArray, List.map_cons, List.map_nil, h1, h2]
        refine (eqBytes_any s.kind.A kA _ _ s.kind.c kc0 s.kind.xs kx W rfl rfl (so.kind.below h).rd (hkd.below h).rd so.kind.lim hkd.lim).mono ?_
        rintro e W' ⟨rfl, rfl⟩
        exact ⟨_, rfl, Below.refl _ _, by rw [d1]; exact Sp.tv rfl⟩))
      case s4 => exact (st_pure (V := .bool false) (U := .bool true) rfl (src_dep (j := 3) (e := ⟨3, .data⟩) (by simp) rfl rfl rfl) (fun a h W => by
         have h : a.eval (.tmp 47) = .bool false := h
         unfold execOp
         simp only [h]
         rfl) (fun W hg => Sp.tv rfl))
      case s5 => exact (st_move rfl (.inl rfl) (src_dep (j := 4) (e := ⟨4, .data⟩) (by simp) rfl rfl rfl))
      case s6 => exact (st_skip (j := 5) (b := false) (c := true) (e := ⟨5, .guard⟩) rfl (by simp) rfl rfl rfl (by decide) rfl rfl)
      case s7 => exact (st_skip (j := 5) (b := false) (c := true) (e := ⟨5, .guard⟩) rfl (by simp) rfl rfl rfl (by decide) rfl rfl)
      case s8 => exact (st_skip (j := 5) (b := false) (c := true) (e := ⟨5, .guard⟩) rfl (by simp) rfl rfl rfl (by decide) rfl rfl)
      case s9 => exact (st_skip (j := 5) (b := false) (c := true) (e := ⟨5, .guard⟩) rfl (by simp) rfl rfl rfl (by decide) rfl rfl)
      case s10 => exact (st_skip (j := 5) (b := false) (c := true) (e := ⟨5, .guard⟩) rfl (by simp) rfl rfl rfl (by decide) rfl rfl)
      case s11 => exact (st_pick rfl rfl (src_dep (j := 5) (e := ⟨5, .data⟩) (by simp) rfl rfl rfl) src_const)
      case fin =>
       intro a W h1 h2 h3 h4 h5
       have b55 : a.tmps.getD 55 undef = .bool true := (h4 11 (by show 11 < 12; omega)).now
       have hz : a.tmps.size = 69 := h2
       have hdf : a.defers = [] := h1
       have b0 : a.tmps.getD 0 undef = .agg G.cells.toArray := h3 0 (fun i (h : i < 12) => by show (44 + i) ≠ 0; omega)
       have b1 : a.tmps.getD 1 undef = .int .i64 (k : Int) := h3 1 (fun i (h : i < 12) => by show (44 + i) ≠ 1; omega)
       have b2 : a.tmps.getD 2 undef = .slice kA kx.length kc0 := h3 2 (fun i (h : i < 12) => by show (44 + i) ≠ 2; omega)
       have b3 : a.tmps.getD 3 undef = .agg (ints .u8 ds).toArray := h3 3 (fun i (h : i < 12) => by show (44 + i) ≠ 3; omega)
       have b4 : a.tmps.getD 4 undef = .pointer (some ⟨g0, 0, none⟩) := h3 4 (fun i (h : i < 12) => by show (44 + i) ≠ 4; omega)
       have b7 : a.tmps.getD 7 undef = .pointer (some ⟨gb, 0, none⟩) := h3 7 (fun i (h : i < 12) => by show (44 + i) ≠ 7; omega)
       have b8 : a.tmps.getD 8 undef = .pointer (some ⟨g1, 0, none⟩) := h3 8 (fun i (h : i < 12) => by show (44 + i) ≠ 8; omega)
       have b9 : a.tmps.getD 9 undef = .bool false := h3 9 (fun i (h : i < 12) => by show (44 + i) ≠ 9; omega)
       have b10 : a.tmps.getD 10 undef = .pointer (some ⟨g3, 0, none⟩) := h3 10 (fun i (h : i < 12) => by show (44 + i) ≠ 10; omega)
       have b11 : a.tmps.getD 11 undef = .pointer (some ⟨g4, 0, none⟩) := h3 11 (fun i (h : i < 12) => by show (44 + i) ≠ 11; omega)
       rw [act_eq hz hdf]
       simp only [rg69, List.map_cons, List.map_nil, b0, b1, b2, b3, b4, b7, b8, b9, b10, b11, b55]
       clear b0 b1 b2 b3 b4 b7 b8 b9 b10 b11 b55 hz hdf h1 h2 h3 h4
       clear ka kk kd
       replace B0 := B0.below h5
       replace U1 := U1.below h5
       replace M := M.below h5
       replace hkd := hkd.below h5
       replace V1 := V1.below h5
       replace Rs := Rs.below h5
       replace co := co.below h5
       replace so := so.below h5
       replace D3 := D3.below h5
       replace D4 := D4.below h5
       replace hE := hE.trans (h5.mono hE.size)
       clear h5
       have hy : Hid (rightAt cs ss (k : Int) kx ds = none) := Lib.hid (by rw [hro.out, show sgYes s kx ds c = false by unfold sgYes; rw [if_neg ha, d1]; simp]; rfl)
       go_wp2_with (first
        | ((with_reducible refine wpList_build_at ?_ 30 #[] ?_ Crt.none.cells built_cert ?_); (· rfl); (· rfl))
        | ((with_reducible refine wpList_store_cut ?_ 30 (.tmp 8) (.tmp 56) ?_ g1 0 Crt.none.cells _ ?_ ?_ V1 ?_ (sz_crt _) (crt_one _) ?_); (· rfl); (· rfl); (· rfl); (· rfl); (· rfl); intro w9 hst))
       refine bodyPost_ret (results_row_tmp rfl _ _ g1 0 Crt.none.cells _ rfl hst.2.2.1.range Tryz.underlying30 rfl (sz_crt _)) rfl ?_
       rw [hy.out]
       exact ⟨rfl, below_only hE hst.1 hE.size lt1⟩
     ·skip
      have hd0 : Below w4.heap.size w4 w4.drew := below_drewN (Below.refl _ _) 1
      refine wp_region_steps (by kernel_rfl) (fun i => 44 + i) (fun i v W => Sp (dgT g4 gb s kA kc0 kx true p2 i) v W) (fun W => Below w4.heap.size w4 W) (by kernel_rfl) (by kernel_rfl) ?inj ?lt (fun i v W W' h hs => h.mono hs) hd0 ⟨?s0, ?s1, ?s2, ?s3, ?s4, ?s5, ?s6, ?s7, ?s8, ?s9, ?s10, ?s11, trivial⟩ ?fin
      case inj =>
       intro i j hi hj h
       have h40 : i < 12 ∧ j < 12 := ⟨hi, hj⟩
       have h : 44 + i = 44 + j := h
       omega
      case lt =>
       intro i hi
       have h40 : i < 12 := hi
       show 44 + i < 69
       omega
      case s0 => exact (st_field rfl rfl rfl (src_base (fun i hi => by have hi : i < 12 := hi; show 44 + i ≠ _; omega) rfl) (fun W => fa_sgr3 g4 0 W))
      case s1 => exact (st_load rfl rfl rfl (src_dep (j := 0) (e := ⟨0, .data⟩) (by simp) rfl rfl rfl) (ld_u8s _ _) (fun W h => (h.cell (p := ⟨g4, 3, none⟩) D4.1).trans kk))
      case s2 => exact (st_move rfl (.inl rfl) (src_base (fun i hi => by have hi : i < 12 := hi; show 44 + i ≠ _; omega) rfl))
      case s3 => exact (st_call rfl (fun a W => run_call rfl cf_eqb a W) (fun a W hb hd h => by
        have h1 : a.eval (.tmp 45) = .slice s.kind.A s.kind.xs.length s.kind.c := (hd ⟨1, .data⟩ (by simp) rfl).now
        have h2 : a.eval (.tmp 46) = .slice kA kx.length kc0 := (hd ⟨2, .data⟩ (by simp) rfl).now
        simp only [List.map_toArray, List.map_cons, List.map_nil, h1, h2]
        refine (eqBytes_any s.kind.A kA _ _ s.kind.c kc0 s.kind.xs kx W rfl rfl (so.kind.below h).rd (hkd.below h).rd so.kind.lim hkd.lim).mono ?_
        rintro e W' ⟨rfl, rfl⟩
        exact ⟨_, rfl, Below.refl _ _, by rw [d1]; exact Sp.tv rfl⟩))
      case s4 => exact (st_pure (V := .bool true) (U := .bool false) rfl (src_dep (j := 3) (e := ⟨3, .data⟩) (by simp) rfl rfl rfl) (fun a h W => by
         have h : a.eval (.tmp 47) = .bool true := h
         unfold execOp
         simp only [h]
         rfl) (fun W hg => Sp.tv rfl))
      case s5 => exact (st_move rfl (.inl rfl) (src_dep (j := 4) (e := ⟨4, .data⟩) (by simp) rfl rfl rfl))
      case s6 => exact (st_guard (j := 5) (b := false) (e := ⟨5, .guard⟩) rfl (by simp) rfl rfl rfl rfl (st_field rfl rfl rfl (src_base (fun i hi => by have hi : i < 12 := hi; show 44 + i ≠ _; omega) rfl) (fun W => fa_sgr4 g4 0 W)))
      case s7 => exact (st_guard (j := 5) (b := false) (e := ⟨5, .guard⟩) rfl (by simp) rfl rfl rfl rfl (st_load rfl rfl rfl (src_dep (j := 6) (e := ⟨6, .data⟩) (by simp) rfl rfl rfl) (ld_u8s _ _) (fun W h => (h.cell (p := ⟨g4, 4, none⟩) D4.1).trans kd)))
      case s8 => exact (st_guard (j := 5) (b := false) (e := ⟨5, .guard⟩) rfl (by simp) rfl rfl rfl rfl (st_pure (V := .pointer (some ⟨gb, 0, none⟩)) (U := .slice (some ⟨gb, 0, none⟩) 32 32) rfl (src_base (fun i hi => by have hi : i < 12 := hi; show 44 + i ≠ 7; omega) rfl) (fun a h W => by
        have h : a.eval (.tmp 7) = .pointer (some ⟨gb, 0, none⟩) := h
        unfold execOp
        simp only [h, Option.map_none, Sem.run_bind, Sem.run_pure, sl_arr, Result.andThen_ok]) (fun W hg => Sp.tv rfl)))
      case s9 => exact (st_guard (j := 5) (b := false) (e := ⟨5, .guard⟩) rfl (by simp) rfl rfl rfl rfl (st_call rfl (fun a W => run_call rfl cf_eqb a W) (fun a W hb hd' h => by
        have h1 : a.eval (.tmp 51) = .slice s.digest.A s.digest.xs.length s.digest.c := (hd' ⟨7, .data⟩ (by simp) rfl).now
        have h2 : a.eval (.tmp 52) = .slice (some ⟨gb, 0, none⟩) 32 32 := (hd' ⟨8, .data⟩ (by simp) rfl).now
        simp only [List.map_toArray, List.map_cons, List.map_nil, h1, h2]
        refine (eqBytes_any s.digest.A (some ⟨gb, 0, none⟩) _ _ s.digest.c 32 s.digest.xs ds W rfl hd.out.symm (so.digest.below h).rd (Row.rd (Row.of_cut (Cut.of_blk (U1.below h).blk))) so.digest.lim ld).mono ?_
        rintro e W' ⟨rfl, rfl⟩
        exact ⟨_, rfl, Below.refl _ _, by rw [← d2.out]; exact Sp.tv rfl⟩)))
      case s10 => exact (st_guard (j := 5) (b := false) (e := ⟨5, .guard⟩) rfl (by simp) rfl rfl rfl rfl (st_pure (V := .bool p2) (U := .bool !p2) rfl (src_dep (j := 9) (e := ⟨9, .data⟩) (by simp) rfl rfl rfl) (fun a h W => by
        have h : a.eval (.tmp 53) = .bool p2 := h
        unfold execOp
        simp only [h]
        rfl) (fun W hg => Sp.tv rfl)))
      case s11 => exact (st_pick_no rfl rfl (src_dep (j := 5) (e := ⟨5, .data⟩) (by simp) rfl rfl rfl) (src_dep (j := 10) (e := ⟨10, .data⟩) (by simp) rfl rfl rfl))
      case fin =>
       intro a W h1 h2 h3 h4 h5
       have b55 : a.tmps.getD 55 undef = .bool !p2 := (h4 11 (by show 11 < 12; omega)).now
       have hz : a.tmps.size = 69 := h2
       have hdf : a.defers = [] := h1
       have b0 : a.tmps.getD 0 undef = .agg G.cells.toArray := h3 0 (fun i (h : i < 12) => by show (44 + i) ≠ 0; omega)
       have b1 : a.tmps.getD 1 undef = .int .i64 (k : Int) := h3 1 (fun i (h : i < 12) => by show (44 + i) ≠ 1; omega)
       have b2 : a.tmps.getD 2 undef = .slice kA kx.length kc0 := h3 2 (fun i (h : i < 12) => by show (44 + i) ≠ 2; omega)
       have b3 : a.tmps.getD 3 undef = .agg (ints .u8 ds).toArray := h3 3 (fun i (h : i < 12) => by show (44 + i) ≠ 3; omega)
       have b4 : a.tmps.getD 4 undef = .pointer (some ⟨g0, 0, none⟩) := h3 4 (fun i (h : i < 12) => by show (44 + i) ≠ 4; omega)
       have b7 : a.tmps.getD 7 undef = .pointer (some ⟨gb, 0, none⟩) := h3 7 (fun i (h : i < 12) => by show (44 + i) ≠ 7; omega)
       have b8 : a.tmps.getD 8 undef = .pointer (some ⟨g1, 0, none⟩) := h3 8 (fun i (h : i < 12) => by show (44 + i) ≠ 8; omega)
       have b9 : a.tmps.getD 9 undef = .bool false := h3 9 (fun i (h : i < 12) => by show (44 + i) ≠ 9; omega)
       have b10 : a.tmps.getD 10 undef = .pointer (some ⟨g3, 0, none⟩) := h3 10 (fun i (h : i < 12) => by show (44 + i) ≠ 10; omega)
       have b11 : a.tmps.getD 11 undef = .pointer (some ⟨g4, 0, none⟩) := h3 11 (fun i (h : i < 12) => by show (44 + i) ≠ 11; omega)
       rw [act_eq hz hdf]
       simp only [rg69, List.map_cons, List.map_nil, b0, b1, b2, b3, b4, b7, b8, b9, b10, b11, b55]
       clear b0 b1 b2 b3 b4 b7 b8 b9 b10 b11 b55 hz hdf h1 h2 h3 h4
       clear ka kk kd
       replace B0 := B0.below h5
       replace U1 := U1.below h5
       replace M := M.below h5
       replace hkd := hkd.below h5
       replace V1 := V1.below h5
       replace Rs := Rs.below h5
       replace co := co.below h5
       replace so := so.below h5
       replace D3 := D3.below h5
       replace D4 := D4.below h5
       replace hE := hE.trans (h5.mono hE.size)
       clear h5
       cases p2
       case false =>
        have hy : Hid (rightAt cs ss (k : Int) kx ds = none) := Lib.hid (by rw [hro.out, show sgYes s kx ds c = false by unfold sgYes; rw [if_neg ha, d1]; simp [← d2.out]]; rfl)
        go_wp2_with (first
         | ((with_reducible refine wpList_build_at ?_ 30 #[] ?_ Crt.none.cells built_cert ?_); (· rfl); (· rfl))
         | ((with_reducible refine wpList_store_cut ?_ 30 (.tmp 8) (.tmp 56) ?_ g1 0 Crt.none.cells _ ?_ ?_ V1 ?_ (sz_crt _) (crt_one _) ?_); (· rfl); (· rfl); (· rfl); (· rfl); (· rfl); intro w9 hst))
        refine bodyPost_ret (results_row_tmp rfl _ _ g1 0 Crt.none.cells _ rfl hst.2.2.1.range Tryz.underlying30 rfl (sz_crt _)) rfl ?_
        rw [hy.out]
        exact ⟨rfl, below_only hE hst.1 hE.size lt1⟩
       case true =>
        have ka : W.cell? ⟨g4, 2, none⟩ = some (.slice s.attrs.A s.attrs.xs.length s.attrs.c) := D4.at_ (i := 2) rfl rfl
        have lg := digest_lim s.attrs.xs
        go_wp2_with fail
        clear ka
        refine (refSum_any s.attrs.A s.attrs.xs.length s.attrs.c s.attrs.xs W rfl hsa so.attrs.rd so.attrs.lim).mono ?_
        rintro r25 w25 ⟨rfl, b⟩
        replace B0 := B0.below b
        replace U1 := U1.below b
        replace M := M.below b
        replace hkd := hkd.below b
        replace V1 := V1.below b
        replace Rs := Rs.below b
        replace co := co.below b
        replace so := so.below b
        replace D3 := D3.below b
        replace D4 := D4.below b
        replace hE := hE.trans (b.mono hE.size)
        clear b
        obtain ⟨dg, hdg⟩ : ∃ d, d = digest s.attrs.xs := ⟨_, rfl⟩
        rw [← hdg] at hud lg ⊢
        replace hud := Lib.hid hud
        replace hdg := Lib.hid hdg
        go_upto_region 9 with (refine wpList_store_whl rfl 49 (.tmp 7) (.tmp 59) rfl gb .u8 _ ds dg rfl rfl U1 (by rw [hud.out, hd.out]) (by first | (rw [hd.out]; exact size_32u8) | (rw [hud.out]; exact size_32u8)) ?_; intro w26 U26 hgg26 hss26)
        have b26 : Below w.heap.size w w26 := below_only hE hgg26 hE.size ltb
        have M9 := M0.below b26
        replace co := M9.cok c (List.mem_of_getElem? h2)
        replace so := M9.sok s (List.mem_of_getElem? hs)
        replace D3 : Row w26 g3 0 c.cells := D3.keep hgg26.size (hgg26.block g3 D3.1 (by simp; exact n3))
        replace D4 : Row w26 g4 0 s.cells := D4.keep hgg26.size (hgg26.block g4 D4.1 (by simp; exact n4))
        replace V1 := V1.grown hgg26 (by simp; omega)
        replace hE := b26
        clear b26 hgg26 hss26 M9
        have kq : w26.cell? ⟨g4, 5, none⟩ = some (.slice s.sig.A s.sig.xs.length s.sig.c) := D4.at_ (i := 5) rfl rfl
        have kr : w26.rangeAt g3 17 [.slice c.key.A c.key.xs.length c.key.c, .int .u64 (c.e : Int)] := fun j v hv => by
         have hj : j < 2 := (List.getElem?_eq_some_iff.1 hv).1
         refine D3.cell (i := 17 + j) (v := v) ?_ |> fun q => by rwa [Nat.zero_add] at q
         rcases j with _ | _ | j
         ·exact hv
         ·exact hv
         ·omega
        go_wp2_with (first
         | ((with_reducible refine wpList_load_mid ?_ 28 (.tmp 60) ?_ g3 17 ?_ [.slice c.key.A c.key.xs.length c.key.c, .int .u64 (c.e : Int)] _ kr Tryz.underlying28 ?_ ?_ ?_); (· rfl); (· rfl); (· rfl); (· rfl); (· exact size_key))
         | ((with_reducible refine wpList_load_whl ?_ 49 (.tmp 7) ?_ gb ?_ .u8 _ dg U26 _ Tryz.underlying49 ?_ (by rw [hud.out]; exact size_32u8) ?_); (· rfl); (· rfl); (· rfl); (· rfl)))
        clear kq kr
        have hq := refVerify_any c.key.A s.sig.A c.key.xs.length c.key.c c.e s.sig.xs.length s.sig.c c.key.xs dg s.sig.xs w26 rfl rfl hca so.sig.len co.key.rd so.sig.rd co.key.lim so.sig.lim hud.out lg co.e
        rw [show keyVal c.key.A c.key.xs.length c.key.c c.e = .agg #[.slice c.key.A c.key.xs.length c.key.c, .int .u64 (c.e : Int)] from rfl] at hq
        refine (hq).mono ?_
        rintro r38 w38 ⟨rfl, b⟩
        replace co := co.below b
        replace so := so.below b
        replace D3 := D3.below b
        replace D4 := D4.below b
        replace V1 := V1.below b
        replace U26 := U26.below b
        replace hE := hE.trans (b.mono hE.size)
        clear b
        obtain ⟨vv, hvv⟩ : ∃ v, v = verB c.key.xs c.e dg s.sig.xs := ⟨_, rfl⟩
        rw [← hvv]
        replace hvv := Lib.hid hvv
        clear hq
        cases vv
        case false =>
         have hy : Hid (rightAt cs ss (k : Int) kx ds = none) := Lib.hid (by rw [hro.out, (show sgYes s kx ds c = false by unfold sgYes; rw [if_neg ha, d1, ← d2.out, ← hdg.out, ← hvv.out]; rfl)]; rfl)
         go_wp2_with (first
          | ((with_reducible refine wpList_build_at ?_ 30 #[] ?_ Crt.none.cells built_cert ?_); (· rfl); (· rfl))
          | ((with_reducible refine wpList_store_cut ?_ 30 (.tmp 8) (.tmp 67) ?_ g1 0 Crt.none.cells _ ?_ ?_ V1 ?_ (sz_crt _) (crt_one _) ?_); (· rfl); (· rfl); (· rfl); (· rfl); (· rfl); intro w9 hst))
         refine bodyPost_ret (results_row_tmp rfl _ _ g1 0 Crt.none.cells _ rfl hst.2.2.1.range Tryz.underlying30 rfl (sz_crt _)) rfl ?_
         rw [hy.out]
         exact ⟨rfl, below_only hE hst.1 hE.size lt1⟩
        case true =>
         have hy : Hid (rightAt cs ss (k : Int) kx ds = some c) := Lib.hid (by rw [hro.out, (show sgYes s kx ds c = true by unfold sgYes; rw [if_neg ha, d1, ← d2.out, ← hdg.out, ← hvv.out]; rfl)]; rfl)
         go_wp2_with (first
          | ((with_reducible refine wpList_load_mid ?_ 30 (.tmp 10) ?_ g3 0 ?_ c.cells _ D3.rng Tryz.underlying30 ?_ (sz_crt _) ?_); (· rfl); (· rfl); (· rfl); (· rfl))
          | ((with_reducible refine wpList_store_cut ?_ 30 (.tmp 8) (.tmp 68) ?_ g1 0 c.cells _ ?_ ?_ V1 ?_ (sz_crt _) (crt_one _) ?_); (· rfl); (· rfl); (· rfl); (· rfl); (· rfl); intro w9 hst))
         refine bodyPost_ret (results_row_tmp rfl _ _ g1 0 c.cells _ rfl hst.2.2.1.range Tryz.underlying30 rfl (sz_crt _)) rfl ?_
         rw [hy.out]
         exact ⟨rfl, below_only hE hst.1 hE.size lt1⟩
end Go.Proofs.YtchaahnhpeoomaaGreat
