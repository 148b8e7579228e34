/-
 lintelref15.Owner: the place of the certificate of a signer.
-/
import Derived.Test.YtchaahnhpeoomaaGreatPSgLa
namespace Go.Proofs.YtchaahnhpeoomaaGreat
set_option linter.unusedVariables false
set_option linter.unusedSimpArgs false
set_option maxRecDepth 20000
open Go.RowKit
def ownI (cs : List Crt) (s : Sgn) : Int := match cs.findIdx? (fitsB s) with
 | some i => (i : Int)
 | none => -1
theorem ownI_some {cs : List Crt} {s : Sgn} {i : Nat} {c : Crt} (hc : cs[i]? = some c) (hf : fitsB s c = true) (hno : ∀ (j : Nat) (c : Crt), j < i → cs[j]? = some c → fitsB s c = false) : ownI cs s = (i : Int) := by
 have h : cs.findIdx? (fitsB s) = some i := by
  rw [List.findIdx?_eq_some_iff_getElem]
  obtain ⟨h1, h2⟩ := List.getElem?_eq_some_iff.1 hc
  refine ⟨h1, by rw [h2]; exact hf, fun j hj => ?_⟩
  rw [hno j _ hj (List.getElem?_eq_getElem (by omega))]
  simp
 unfold ownI
 rw [h]
theorem ownI_none {cs : List Crt} {s : Sgn} (hno : ∀ (j : Nat) (c : Crt), cs[j]? = some c → fitsB s c = false) : ownI cs s = -1 := by
 have h : cs.findIdx? (fitsB s) = none := by
  rw [List.findIdx?_eq_none_iff]
  intro c hc
  obtain ⟨j, hj⟩ := List.mem_iff_getElem?.1 hc
  exact hno j c hj
 unfold ownI
 rw [h]
theorem ownI_find (cs : List Crt) (s : Sgn) : (ownI cs s = -1 ∧ cs.find? (fitsB s) = none) ∨ ∃ i c, ownI cs s = ((i : Nat) : Int) ∧ cs[i]? = some c ∧ cs.find? (fitsB s) = some c := by
 cases h : cs.findIdx? (fitsB s) with
 | none =>
  refine .inl ⟨by unfold ownI; rw [h], ?_⟩
  rw [List.find?_eq_none]
  intro c hc
  rw [List.findIdx?_eq_none_iff] at h
  rw [h c hc]
  simp
 | some i =>
  have h9 := h
  rw [List.findIdx?_eq_some_iff_getElem] at h
  obtain ⟨h1, h2, h3⟩ := h
  refine .inr ⟨i, cs[i], by unfold ownI; rw [h9], List.getElem?_eq_getElem h1, ?_⟩
  rw [List.find?_eq_some_iff_getElem]
  exact ⟨h2, i, h1, rfl, fun j hj => by simpa using h3 j hj⟩
def ownerT (g0 gc o1 gs o2 : Nat) (vC vS : Value) (i k : Int) (c : Crt) (s : Sgn) (e1 e2 : Bool) : Nat → Tg
 | 0 => tv (.pointer (some ⟨g0, 2, none⟩))
 | 1 => tv vC
 | 2 => tv (.int .i64 i)
 | 3 => tv (.pointer (some ⟨gc, o1, none⟩))
 | 4 => tv (.pointer (some ⟨gc, o1 + 2, none⟩))
 | 5 => tv (.slice c.issuer.A c.issuer.xs.length c.issuer.c)
 | 6 => tv (.pointer (some ⟨g0, 3, none⟩))
 | 7 => tv vS
 | 8 => tv (.int .i64 k)
 | 9 => tv (.pointer (some ⟨gs, o2, none⟩))
 | 10 => tv (.pointer (some ⟨gs, o2, none⟩))
 | 11 => tv (.slice s.issuer.A s.issuer.xs.length s.issuer.c)
 | 12 => tv (.bool e1)
 | 13 => tv (.bool e1)
 | 27 => tv (.bool (e1 && e2))
 | n => match e1 with
  | false => fun _ _ => True
  | true => match n with
   | 14 => tv (.pointer (some ⟨g0, 2, none⟩))
   | 15 => tv vC
   | 16 => tv (.int .i64 i)
   | 17 => tv (.pointer (some ⟨gc, o1, none⟩))
   | 18 => tv (.pointer (some ⟨gc, o1 + 4, none⟩))
   | 19 => tv (.slice c.serial.A c.serial.xs.length c.serial.c)
   | 20 => tv (.pointer (some ⟨g0, 3, none⟩))
   | 21 => tv vS
   | 22 => tv (.int .i64 k)
   | 23 => tv (.pointer (some ⟨gs, o2, none⟩))
   | 24 => tv (.pointer (some ⟨gs, o2 + 1, none⟩))
   | 25 => tv (.slice s.serial.A s.serial.xs.length s.serial.c)
   | _ => tv (.bool e2)
theorem rg42 : List.range 42 = [0, 1, 2, 3, 4, 5, 6, 7, 8, 9, 10, 11, 12, 13, 14, 15, 16, 17, 18, 19, 20, 21, 22, 23, 24, 25, 26, 27, 28, 29, 30, 31, 32, 33, 34, 35, 36, 37, 38, 39, 40, 41] := rfl
def OwnerPost (cs : List Crt) (s : Sgn) (w : World) (e : Ending) (w' : World) : Prop := e = .returned (.int .i64 (ownI cs s)) ∧ Below w.heap.size w w'
set_option maxRecDepth 100000 in
set_option maxHeartbeats 30000000 in
theorem owner_any {G : Sgd} {cs : List Crt} {ss : List Sgn} {gc oc gs os : Nat} {w : World} (M : SMemB G cs ss gc oc gs os w) (k : Nat) (s : Sgn) (hs : ss[k]? = some s) :
  Calls Tryz.prog 62 #[G.val, .int .i64 (k : Int)] w (OwnerPost cs s w) := by
 obtain ⟨w1, hw1⟩ : ∃ w1, w1 = w.alloc (.cells G.cells.toArray 48) := ⟨_, rfl⟩
 obtain ⟨g0, hg0⟩ : ∃ g0, g0 = w.heap.size := ⟨_, rfl⟩
 have e1 : Below w.heap.size w w1 := by rw [hw1]; exact (Below.refl _ _).alloc (Nat.le_refl _) _
 have B0 : Row w1 g0 0 G.cells := by rw [hw1, hg0]; exact row_new _
 replace M := M.below e1
 have hks : k < ss.length := (List.getElem?_eq_some_iff.1 hs).1
 have hcn := M.cn
 have hsn := M.sn
 have hcl := M.cl
 have hsl := M.sl
 have k2 : w1.cell? ⟨g0, 2, none⟩ = some (.slice G.CA cs.length G.cc) := by have q := B0.at_ (i := 2) (o' := 2) (v := .slice G.CA G.cn G.cc) rfl rfl; rwa [hcn] at q
 have k3 : w1.cell? ⟨g0, 3, none⟩ = some (.slice G.SA ss.length G.sc) := by have q := B0.at_ (i := 3) (o' := 3) (v := .slice G.SA G.sn G.sc) rfl rfl; rwa [hsn] at q
 replace hcn := Lib.hid hcn
 replace hsn := Lib.hid hsn
 unfold Sgd.val
 go_enter Tryz.func62, Tryz.ntmps62
 go_wp2_with fail
 rw [← hw1, ← hg0]
 clear hw1
 replace hg0 := Lib.hid hg0
 go_loopw [5] (fun t wr => ∃ ix : Nat, t = .int .i64 (ix : Int) ∧ ix ≤ cs.length ∧ (∀ (j : Nat) (c : Crt), j < ix → cs[j]? = some c → fitsB s c = false) ∧ Below w1.heap.size w1 wr) (fun t _ => cs.length - (intOf t).toNat)
 case atStart => exact ⟨0, rfl, Nat.zero_le _, fun j c h => by omega, Below.refl _ _⟩
 case round =>
  obtain ⟨ix, rfl, hi, hno, er⟩ := hrel
  have e2 := (er.cell (p := ⟨g0, 2, none⟩) B0.1).trans k2
  have z6 : (ix : Int) ≤ 1000000 := by omega
  by_cases hlt : ix < cs.length
  ·have z1 : (ix : Int) < (cs.length : Int) := by omega
   obtain ⟨c, hc⟩ : ∃ c, cs[ix]? = some c := ⟨_, List.getElem?_eq_getElem hlt⟩
   have hCA := M.cA.resolve_left (by rintro rfl; simp at hlt)
   have hSA := M.sA.resolve_left (by rintro rfl; simp at hks)
   rw [hCA] at k2 e2
   rw [hSA] at k3
   have Rc := crt_row M.cR hc
   have Rs := M.sR k s hs
   have co := M.cok c (List.mem_of_getElem? hc)
   have so := M.sok s (List.mem_of_getElem? hs)
   go_upto_region 4 with fail
   obtain ⟨p2, hp2⟩ : ∃ p, p = decide (c.serial.xs = s.serial.xs) := ⟨_, rfl⟩
   replace hp2 := Lib.hid hp2
   by_cases hp1 : c.issuer.xs = s.issuer.xs
   ·have d1 : decide (c.issuer.xs = s.issuer.xs) = true := by simp [hp1]
    have hd0 : Below wr.heap.size wr wr.drew := below_drewN (Below.refl _ _) 1
    refine wp_region_steps (by kernel_rfl) (fun i => 13 + i) (fun i v W => Sp ((ownerT g0 gc (oc + ix * 24) gs (os + k * 6) (.slice (some ⟨gc, oc, none⟩) cs.length G.cc) (.slice (some ⟨gs, os, none⟩) ss.length G.sc) (ix : Int) (k : Int) c s true p2) i) v W) (fun W => Below wr.heap.size wr W) (by kernel_rfl) (by kernel_rfl) ?inj ?lt (fun i v W W' h hs => h.mono hs) hd0 ⟨?s0, ?s1, ?s2, ?s3, ?s4, ?s5, ?s6, ?s7, ?s8, ?s9, ?s10, ?s11, ?s12, ?s13, ?s14, ?s15, ?s16, ?s17, ?s18, ?s19, ?s20, ?s21, ?s22, ?s23, ?s24, ?s25, ?s26, ?s27, trivial⟩ ?fin
    case inj =>
     intro i j hi hj h
     have h40 : i < 28 ∧ j < 28 := ⟨hi, hj⟩
     have h : 13 + i = 13 + j := h
     omega
    case lt =>
     intro i hi
     have h40 : i < 28 := hi
     show 13 + i < 42
     omega
    case s0 => exact (st_field rfl rfl rfl (src_base (fun i hi => by have hi : i < 28 := hi; show 13 + i ≠ _; omega) rfl) (fun W => fa_sgd2 g0 0 W))
    case s1 => exact (st_load rfl rfl rfl (src_dep (j := 0) (e := ⟨0, .data⟩) (by simp) rfl rfl rfl) (ld_certs _ _) (fun W h => ((er.trans (h.mono er.size)).cell (p := ⟨g0, 2, none⟩) B0.1).trans k2))
    case s2 => exact (st_move rfl (.inl rfl) (src_base (fun i hi => by have hi : i < 28 := hi; show 13 + i ≠ _; omega) rfl))
    case s3 => exact (st_index rfl rfl rfl (src_dep (j := 1) (e := ⟨1, .data⟩) (by simp) rfl rfl rfl) (src_dep (j := 2) (e := ⟨2, .data⟩) (by simp) rfl rfl rfl) (fun W => ia_cert gc oc cs.length G.cc ix hlt W))
    case s4 => exact (st_field rfl rfl rfl (src_dep (j := 3) (e := ⟨3, .data⟩) (by simp) rfl rfl rfl) (fun W => fa_cert2 gc (oc + ix * 24) W))
    case s5 => exact (st_load rfl rfl rfl (src_dep (j := 4) (e := ⟨4, .data⟩) (by simp) rfl rfl rfl) (ld_u8s _ _) (fun W h => ((er.trans (h.mono er.size)).cell (p := ⟨gc, oc + ix * 24 + 2, none⟩) Rc.1).trans (Rc.at_ (i := 2) rfl rfl)))
    case s6 => exact (st_field rfl rfl rfl (src_base (fun i hi => by have hi : i < 28 := hi; show 13 + i ≠ _; omega) rfl) (fun W => fa_sgd3 g0 0 W))
    case s7 => exact (st_load rfl rfl rfl (src_dep (j := 6) (e := ⟨6, .data⟩) (by simp) rfl rfl rfl) (ld_sgrs _ _) (fun W h => ((er.trans (h.mono er.size)).cell (p := ⟨g0, 3, none⟩) B0.1).trans k3))
    case s8 => exact (st_move rfl (.inl rfl) (src_base (fun i hi => by have hi : i < 28 := hi; show 13 + i ≠ _; omega) rfl))
    case s9 => exact (st_index rfl rfl rfl (src_dep (j := 7) (e := ⟨7, .data⟩) (by simp) rfl rfl rfl) (src_dep (j := 8) (e := ⟨8, .data⟩) (by simp) rfl rfl rfl) (fun W => ia_sgr gs os ss.length G.sc k hks W))
    case s10 => exact (st_field rfl rfl rfl (src_dep (j := 9) (e := ⟨9, .data⟩) (by simp) rfl rfl rfl) (fun W => fa_sgr0 gs (os + k * 6) W))
    case s11 => exact (st_load rfl rfl rfl (src_dep (j := 10) (e := ⟨10, .data⟩) (by simp) rfl rfl rfl) (ld_u8s _ _) (fun W h => ((er.trans (h.mono er.size)).cell (p := ⟨gs, os + k * 6, none⟩) Rs.1).trans (Rs.at_ (i := 0) rfl rfl)))
    case s12 => exact (st_call rfl (fun a W => run_call rfl cf_eqb a W) (fun a W hb hd h => by
      have h1 : a.eval (.tmp 18) = .slice c.issuer.A c.issuer.xs.length c.issuer.c := (hd ⟨5, .data⟩ (by simp) rfl).now
      have h2 : a.eval (.tmp 24) = .slice s.issuer.A s.issuer.xs.length s.issuer.c := (hd ⟨11, .data⟩ (by simp) rfl).now
      simp only [List.map_toArray, List.map_cons, List.map_nil, h1, h2]
      refine (eqBytes_any c.issuer.A s.issuer.A _ _ c.issuer.c s.issuer.c c.issuer.xs s.issuer.xs W rfl rfl (co.issuer.below (er.trans (h.mono er.size))).rd (so.issuer.below (er.trans (h.mono er.size))).rd co.issuer.lim so.issuer.lim).mono ?_
      rintro e W' ⟨rfl, rfl⟩
      exact ⟨_, rfl, Below.refl _ _, by rw [d1]; exact Sp.tv rfl⟩))
    case s13 => exact (st_move rfl (.inl rfl) (src_dep (j := 12) (e := ⟨12, .data⟩) (by simp) rfl rfl rfl))
    case s14 => exact (st_guard (j := 13) (b := true) (e := ⟨13, .guard⟩) rfl (by simp) rfl rfl rfl rfl (st_field rfl rfl rfl (src_base (fun i hi => by have hi : i < 28 := hi; show 13 + i ≠ _; omega) rfl) (fun W => fa_sgd2 g0 0 W)))
    case s15 => exact (st_guard (j := 13) (b := true) (e := ⟨13, .guard⟩) rfl (by simp) rfl rfl rfl rfl (st_load rfl rfl rfl (src_dep (j := 14) (e := ⟨14, .data⟩) (by simp) rfl rfl rfl) (ld_certs _ _) (fun W h => ((er.trans (h.mono er.size)).cell (p := ⟨g0, 2, none⟩) B0.1).trans k2)))
    case s16 => exact (st_guard (j := 13) (b := true) (e := ⟨13, .guard⟩) rfl (by simp) rfl rfl rfl rfl (st_move rfl (.inl rfl) (src_base (fun i hi => by have hi : i < 28 := hi; show 13 + i ≠ _; omega) rfl)))
    case s17 => exact (st_guard (j := 13) (b := true) (e := ⟨13, .guard⟩) rfl (by simp) rfl rfl rfl rfl (st_index rfl rfl rfl (src_dep (j := 15) (e := ⟨15, .data⟩) (by simp) rfl rfl rfl) (src_dep (j := 16) (e := ⟨16, .data⟩) (by simp) rfl rfl rfl) (fun W => ia_cert gc oc cs.length G.cc ix hlt W)))
    case s18 => exact (st_guard (j := 13) (b := true) (e := ⟨13, .guard⟩) rfl (by simp) rfl rfl rfl rfl (st_field rfl rfl rfl (src_dep (j := 17) (e := ⟨17, .data⟩) (by simp) rfl rfl rfl) (fun W => fa_cert4 gc (oc + ix * 24) W)))
    case s19 => exact (st_guard (j := 13) (b := true) (e := ⟨13, .guard⟩) rfl (by simp) rfl rfl rfl rfl (st_load rfl rfl rfl (src_dep (j := 18) (e := ⟨18, .data⟩) (by simp) rfl rfl rfl) (ld_u8s _ _) (fun W h => ((er.trans (h.mono er.size)).cell (p := ⟨gc, oc + ix * 24 + 4, none⟩) Rc.1).trans (Rc.at_ (i := 4) rfl rfl))))
    case s20 => exact (st_guard (j := 13) (b := true) (e := ⟨13, .guard⟩) rfl (by simp) rfl rfl rfl rfl (st_field rfl rfl rfl (src_base (fun i hi => by have hi : i < 28 := hi; show 13 + i ≠ _; omega) rfl) (fun W => fa_sgd3 g0 0 W)))
    case s21 => exact (st_guard (j := 13) (b := true) (e := ⟨13, .guard⟩) rfl (by simp) rfl rfl rfl rfl (st_load rfl rfl rfl (src_dep (j := 20) (e := ⟨20, .data⟩) (by simp) rfl rfl rfl) (ld_sgrs _ _) (fun W h => ((er.trans (h.mono er.size)).cell (p := ⟨g0, 3, none⟩) B0.1).trans k3)))
    case s22 => exact (st_guard (j := 13) (b := true) (e := ⟨13, .guard⟩) rfl (by simp) rfl rfl rfl rfl (st_move rfl (.inl rfl) (src_base (fun i hi => by have hi : i < 28 := hi; show 13 + i ≠ _; omega) rfl)))
    case s23 => exact (st_guard (j := 13) (b := true) (e := ⟨13, .guard⟩) rfl (by simp) rfl rfl rfl rfl (st_index rfl rfl rfl (src_dep (j := 21) (e := ⟨21, .data⟩) (by simp) rfl rfl rfl) (src_dep (j := 22) (e := ⟨22, .data⟩) (by simp) rfl rfl rfl) (fun W => ia_sgr gs os ss.length G.sc k hks W)))
    case s24 => exact (st_guard (j := 13) (b := true) (e := ⟨13, .guard⟩) rfl (by simp) rfl rfl rfl rfl (st_field rfl rfl rfl (src_dep (j := 23) (e := ⟨23, .data⟩) (by simp) rfl rfl rfl) (fun W => fa_sgr1 gs (os + k * 6) W)))
    case s25 => exact (st_guard (j := 13) (b := true) (e := ⟨13, .guard⟩) rfl (by simp) rfl rfl rfl rfl (st_load rfl rfl rfl (src_dep (j := 24) (e := ⟨24, .data⟩) (by simp) rfl rfl rfl) (ld_u8s _ _) (fun W h => ((er.trans (h.mono er.size)).cell (p := ⟨gs, os + k * 6 + 1, none⟩) Rs.1).trans (Rs.at_ (i := 1) rfl rfl))))
    case s26 => exact (st_guard (j := 13) (b := true) (e := ⟨13, .guard⟩) rfl (by simp) rfl rfl rfl rfl (st_call rfl (fun a W => run_call rfl cf_eqb a W) (fun a W hb hd h => by
      have h1 : a.eval (.tmp 32) = .slice c.serial.A c.serial.xs.length c.serial.c := (hd ⟨19, .data⟩ (by simp) rfl).now
      have h2 : a.eval (.tmp 38) = .slice s.serial.A s.serial.xs.length s.serial.c := (hd ⟨25, .data⟩ (by simp) rfl).now
      simp only [List.map_toArray, List.map_cons, List.map_nil, h1, h2]
      refine (eqBytes_any c.serial.A s.serial.A _ _ c.serial.c s.serial.c c.serial.xs s.serial.xs W rfl rfl (co.serial.below (er.trans (h.mono er.size))).rd (so.serial.below (er.trans (h.mono er.size))).rd co.serial.lim so.serial.lim).mono ?_
      rintro e W' ⟨rfl, rfl⟩
      exact ⟨_, rfl, Below.refl _ _, by rw [← hp2.out]; exact Sp.tv rfl⟩)))
    case s27 => exact (st_pick rfl rfl (src_dep (j := 13) (e := ⟨13, .data⟩) (by simp) rfl rfl rfl) (src_dep (j := 26) (e := ⟨26, .data⟩) (by simp) rfl rfl rfl))
    case fin =>
     intro a W h1 h2 h3 h4 h5
     have b40 : a.tmps.getD 40 undef = .bool p2 := (h4 27 (by show 27 < 28; omega)).now
     have hz : a.tmps.size = 42 := h2
     have hdf : a.defers = [] := h1
     have b0 : a.tmps.getD 0 undef = .agg G.cells.toArray := h3 0 (fun i (h : i < 28) => by show (13 + i) ≠ 0; omega)
     have b1 : a.tmps.getD 1 undef = .int .i64 (k : Int) := h3 1 (fun i (h : i < 28) => by show (13 + i) ≠ 1; omega)
     have b2 : a.tmps.getD 2 undef = .pointer (some ⟨g0, 0, none⟩) := h3 2 (fun i (h : i < 28) => by show (13 + i) ≠ 2; omega)
     have b3 : a.tmps.getD 3 undef = undef := h3 3 (fun i (h : i < 28) => by show (13 + i) ≠ 3; omega)
     have b5 : a.tmps.getD 5 undef = .int .i64 (ix : Int) := h3 5 (fun i (h : i < 28) => by show (13 + i) ≠ 5; omega)
     rw [act_eq hz hdf]
     simp only [rg42, List.map_cons, List.map_nil, b0, b1, b2, b3, b5, b40]
     clear b0 b1 b2 b3 b5 b40 hz hdf h1 h2 h3 h4
     have er2 := er.trans (h5.mono er.size)
     cases p2
     case false =>
      go_wp2_with fail
      go_roundw
      case rel =>
       refine ⟨ix + 1, by go_num, by omega, fun j c' hj hc' => ?_, er2⟩
       by_cases hji : j = ix
       ·subst hji
        rw [hc] at hc'
        cases hc'
        simp [fitsB, ← hp2.out]
       ·exact hno j c' (by omega) hc'
      case measure =>
       simp [intOf]
       omega
     case true =>
      have hown : ownI cs s = (ix : Int) := ownI_some hc (by simp [fitsB, ← hp2.out, hp1]) hno
      go_wp2_with fail
      go_ret
      unfold OwnerPost
      rw [hown]
      exact ⟨rfl, e1.trans (er2.mono e1.size)⟩
   ·have d1 : decide (c.issuer.xs = s.issuer.xs) = false := by simp [hp1]
    have hd0 : Below wr.heap.size wr wr.drew := below_drewN (Below.refl _ _) 1
    refine wp_region_steps (by kernel_rfl) (fun i => 13 + i) (fun i v W => Sp ((ownerT g0 gc (oc + ix * 24) gs (os + k * 6) (.slice (some ⟨gc, oc, none⟩) cs.length G.cc) (.slice (some ⟨gs, os, none⟩) ss.length G.sc) (ix : Int) (k : Int) c s false p2) i) v W) (fun W => Below wr.heap.size wr W) (by kernel_rfl) (by kernel_rfl) ?inj ?lt (fun i v W W' h hs => h.mono hs) hd0 ⟨?s0, ?s1, ?s2, ?s3, ?s4, ?s5, ?s6, ?s7, ?s8, ?s9, ?s10, ?s11, ?s12, ?s13, ?s14, ?s15, ?s16, ?s17, ?s18, ?s19, ?s20, ?s21, ?s22, ?s23, ?s24, ?s25, ?s26, ?s27, trivial⟩ ?fin
    case inj =>
     intro i j hi hj h
     have h40 : i < 28 ∧ j < 28 := ⟨hi, hj⟩
     have h : 13 + i = 13 + j := h
     omega
    case lt =>
     intro i hi
     have h40 : i < 28 := hi
     show 13 + i < 42
     omega
    case s0 => exact (st_field rfl rfl rfl (src_base (fun i hi => by have hi : i < 28 := hi; show 13 + i ≠ _; omega) rfl) (fun W => fa_sgd2 g0 0 W))
    case s1 => exact (st_load rfl rfl rfl (src_dep (j := 0) (e := ⟨0, .data⟩) (by simp) rfl rfl rfl) (ld_certs _ _) (fun W h => ((er.trans (h.mono er.size)).cell (p := ⟨g0, 2, none⟩) B0.1).trans k2))
    case s2 => exact (st_move rfl (.inl rfl) (src_base (fun i hi => by have hi : i < 28 := hi; show 13 + i ≠ _; omega) rfl))
    case s3 => exact (st_index rfl rfl rfl (src_dep (j := 1) (e := ⟨1, .data⟩) (by simp) rfl rfl rfl) (src_dep (j := 2) (e := ⟨2, .data⟩) (by simp) rfl rfl rfl) (fun W => ia_cert gc oc cs.length G.cc ix hlt W))
    case s4 => exact (st_field rfl rfl rfl (src_dep (j := 3) (e := ⟨3, .data⟩) (by simp) rfl rfl rfl) (fun W => fa_cert2 gc (oc + ix * 24) W))
    case s5 => exact (st_load rfl rfl rfl (src_dep (j := 4) (e := ⟨4, .data⟩) (by simp) rfl rfl rfl) (ld_u8s _ _) (fun W h => ((er.trans (h.mono er.size)).cell (p := ⟨gc, oc + ix * 24 + 2, none⟩) Rc.1).trans (Rc.at_ (i := 2) rfl rfl)))
    case s6 => exact (st_field rfl rfl rfl (src_base (fun i hi => by have hi : i < 28 := hi; show 13 + i ≠ _; omega) rfl) (fun W => fa_sgd3 g0 0 W))
    case s7 => exact (st_load rfl rfl rfl (src_dep (j := 6) (e := ⟨6, .data⟩) (by simp) rfl rfl rfl) (ld_sgrs _ _) (fun W h => ((er.trans (h.mono er.size)).cell (p := ⟨g0, 3, none⟩) B0.1).trans k3))
    case s8 => exact (st_move rfl (.inl rfl) (src_base (fun i hi => by have hi : i < 28 := hi; show 13 + i ≠ _; omega) rfl))
    case s9 => exact (st_index rfl rfl rfl (src_dep (j := 7) (e := ⟨7, .data⟩) (by simp) rfl rfl rfl) (src_dep (j := 8) (e := ⟨8, .data⟩) (by simp) rfl rfl rfl) (fun W => ia_sgr gs os ss.length G.sc k hks W))
    case s10 => exact (st_field rfl rfl rfl (src_dep (j := 9) (e := ⟨9, .data⟩) (by simp) rfl rfl rfl) (fun W => fa_sgr0 gs (os + k * 6) W))
    case s11 => exact (st_load rfl rfl rfl (src_dep (j := 10) (e := ⟨10, .data⟩) (by simp) rfl rfl rfl) (ld_u8s _ _) (fun W h => ((er.trans (h.mono er.size)).cell (p := ⟨gs, os + k * 6, none⟩) Rs.1).trans (Rs.at_ (i := 0) rfl rfl)))
    case s12 => exact (st_call rfl (fun a W => run_call rfl cf_eqb a W) (fun a W hb hd h => by
      have h1 : a.eval (.tmp 18) = .slice c.issuer.A c.issuer.xs.length c.issuer.c := (hd ⟨5, .data⟩ (by simp) rfl).now
      have h2 : a.eval (.tmp 24) = .slice s.issuer.A s.issuer.xs.length s.issuer.c := (hd ⟨11, .data⟩ (by simp) rfl).now
      simp only [List.map_toArray, List.map_cons, List.map_nil, h1, h2]
      refine (eqBytes_any c.issuer.A s.issuer.A _ _ c.issuer.c s.issuer.c c.issuer.xs s.issuer.xs W rfl rfl (co.issuer.below (er.trans (h.mono er.size))).rd (so.issuer.below (er.trans (h.mono er.size))).rd co.issuer.lim so.issuer.lim).mono ?_
      rintro e W' ⟨rfl, rfl⟩
      exact ⟨_, rfl, Below.refl _ _, by rw [d1]; exact Sp.tv rfl⟩))
    case s13 => exact (st_move rfl (.inl rfl) (src_dep (j := 12) (e := ⟨12, .data⟩) (by simp) rfl rfl rfl))
    case s14 => exact (st_skip (j := 13) (b := true) (c := false) (e := ⟨13, .guard⟩) rfl (by simp) rfl rfl rfl (by decide) rfl rfl)
    case s15 => exact (st_skip (j := 13) (b := true) (c := false) (e := ⟨13, .guard⟩) rfl (by simp) rfl rfl rfl (by decide) rfl rfl)
    case s16 => exact (st_skip (j := 13) (b := true) (c := false) (e := ⟨13, .guard⟩) rfl (by simp) rfl rfl rfl (by decide) rfl rfl)
    case s17 => exact (st_skip (j := 13) (b := true) (c := false) (e := ⟨13, .guard⟩) rfl (by simp) rfl rfl rfl (by decide) rfl rfl)
    case s18 => exact (st_skip (j := 13) (b := true) (c := false) (e := ⟨13, .guard⟩) rfl (by simp) rfl rfl rfl (by decide) rfl rfl)
    case s19 => exact (st_skip (j := 13) (b := true) (c := false) (e := ⟨13, .guard⟩) rfl (by simp) rfl rfl rfl (by decide) rfl rfl)
    case s20 => exact (st_skip (j := 13) (b := true) (c := false) (e := ⟨13, .guard⟩) rfl (by simp) rfl rfl rfl (by decide) rfl rfl)
    case s21 => exact (st_skip (j := 13) (b := true) (c := false) (e := ⟨13, .guard⟩) rfl (by simp) rfl rfl rfl (by decide) rfl rfl)
    case s22 => exact (st_skip (j := 13) (b := true) (c := false) (e := ⟨13, .guard⟩) rfl (by simp) rfl rfl rfl (by decide) rfl rfl)
    case s23 => exact (st_skip (j := 13) (b := true) (c := false) (e := ⟨13, .guard⟩) rfl (by simp) rfl rfl rfl (by decide) rfl rfl)
    case s24 => exact (st_skip (j := 13) (b := true) (c := false) (e := ⟨13, .guard⟩) rfl (by simp) rfl rfl rfl (by decide) rfl rfl)
    case s25 => exact (st_skip (j := 13) (b := true) (c := false) (e := ⟨13, .guard⟩) rfl (by simp) rfl rfl rfl (by decide) rfl rfl)
    case s26 => exact (st_skip (j := 13) (b := true) (c := false) (e := ⟨13, .guard⟩) rfl (by simp) rfl rfl rfl (by decide) rfl rfl)
    case s27 => exact (st_pick_no rfl rfl (src_dep (j := 13) (e := ⟨13, .data⟩) (by simp) rfl rfl rfl) src_const)
    case fin =>
     intro a W h1 h2 h3 h4 h5
     have b40 : a.tmps.getD 40 undef = .bool false := (h4 27 (by show 27 < 28; omega)).now
     have hz : a.tmps.size = 42 := h2
     have hdf : a.defers = [] := h1
     have b0 : a.tmps.getD 0 undef = .agg G.cells.toArray := h3 0 (fun i (h : i < 28) => by show (13 + i) ≠ 0; omega)
     have b1 : a.tmps.getD 1 undef = .int .i64 (k : Int) := h3 1 (fun i (h : i < 28) => by show (13 + i) ≠ 1; omega)
     have b2 : a.tmps.getD 2 undef = .pointer (some ⟨g0, 0, none⟩) := h3 2 (fun i (h : i < 28) => by show (13 + i) ≠ 2; omega)
     have b3 : a.tmps.getD 3 undef = undef := h3 3 (fun i (h : i < 28) => by show (13 + i) ≠ 3; omega)
     have b5 : a.tmps.getD 5 undef = .int .i64 (ix : Int) := h3 5 (fun i (h : i < 28) => by show (13 + i) ≠ 5; omega)
     rw [act_eq hz hdf]
     simp only [rg42, List.map_cons, List.map_nil, b0, b1, b2, b3, b5, b40]
     clear b0 b1 b2 b3 b5 b40 hz hdf h1 h2 h3 h4
     have er2 := er.trans (h5.mono er.size)
     go_wp2_with fail
     go_roundw
     case rel =>
      refine ⟨ix + 1, by go_num, by omega, fun j c' hj hc' => ?_, er2⟩
      by_cases hji : j = ix
      ·subst hji
       rw [hc] at hc'
       cases hc'
       simp [fitsB, d1]
      ·exact hno j c' (by omega) hc'
     case measure =>
      simp [intOf]
      omega
  ·have z1 : ¬ (ix : Int) < (cs.length : Int) := by omega
   have hown : ownI cs s = -1 := ownI_none fun j c hc => hno j c (by have := (List.getElem?_eq_some_iff.1 hc).1; omega) hc
   go_wp2_with fail
   go_ret
   unfold OwnerPost
   rw [hown]
   exact ⟨rfl, e1.trans (er.mono e1.size)⟩
end Go.Proofs.YtchaahnhpeoomaaGreat
