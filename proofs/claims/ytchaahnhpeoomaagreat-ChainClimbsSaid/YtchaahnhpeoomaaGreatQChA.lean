/-
  chain's house: what lies where; house.at, open.
-/
import Derived.Test.YtchaahnhpeoomaaGreatQSgLa
import Derived.Test.YtchaahnhpeoomaaGreatQGBas
import Derived.Maps.OwnSet
import Derived.DeepKeys4
namespace Go.Proofs.YtchaahnhpeoomaaGreat
set_option linter.unusedVariables false
set_option linter.unusedSimpArgs false
set_option maxRecDepth 20000
open Go.RowKit
def mayC (d : Crt) : Bool := d.ca && (decide (d.usage < 0) || !(bits .and .i64 d.usage 32 == 0))
def sgB (c d : Crt) : Bool := mayC d && decide (c.issuer.xs = d.subject.xs) && verB d.key.xs d.e (digest c.tbs.xs) c.sig.xs
theorem cf_eq (vs : Array Value) (w : World) : (callFunc 60 vs).run Tryz.prog w = .ok (.enter 60 vs) w := by kernel_rfl
theorem cf_shasum (vs : Array Value) (w : World) : (callFunc 61 vs).run Tryz.prog w = .ok (.enter 61 vs) w := by kernel_rfl
theorem cf_ver (vs : Array Value) (w : World) : (callFunc 59 vs).run Tryz.prog w = .ok (.enter 59 vs) w := by kernel_rfl
theorem key_rng {W : World} {g : Nat} {c : Crt} (h : Row W g 0 c.cells) : W.rangeAt g 17 [.slice c.key.A c.key.xs.length c.key.c, .int .u64 (c.e : Int)] := fun j v hv => by
 have hj : j < 2 := (List.getElem?_eq_some_iff.1 hv).1
 refine h.cell (i := 17 + j) (v := v) ?_ |> fun q => by rwa [Nat.zero_add] at q
 rcases j with _ | _ | j
 ·exact hv
 ·exact hv
 ·omega
def chsT (g0 gb : Nat) (c d : Crt) (m p vv : Bool) : Nat → Tg
 | 0 => tv (.bool m)
 | 1 => tv (.bool m)
 | 7 => tv (.bool (m && p))
 | 8 => tv (.bool (m && p))
 | 17 => tv (.bool (m && p && vv))
 | 18 => tv (.bool (m && p && vv))
 | n => match m with
  | false => fun _ _ => True
  | true => match n with
   | 2 => tv (.pointer (some ⟨g0, 2, none⟩))
   | 3 => tv (.slice c.issuer.A c.issuer.xs.length c.issuer.c)
   | 4 => tv (.pointer (some ⟨gb, 3, none⟩))
   | 5 => tv (.slice d.subject.A d.subject.xs.length d.subject.c)
   | 6 => tv (.bool p)
   | n => match p with
    | false => fun _ _ => True
    | true => match n with
     | 9 => tv (.pointer (some ⟨gb, 17, none⟩))
     | 10 => tv (.agg #[.slice d.key.A d.key.xs.length d.key.c, .int .u64 (d.e : Int)])
     | 11 => tv (.pointer (some ⟨g0, 1, none⟩))
     | 12 => tv (.slice c.tbs.A c.tbs.xs.length c.tbs.c)
     | 13 => tv (.agg (ints .u8 (digest c.tbs.xs)).toArray)
     | 14 => tv (.pointer (some ⟨g0, 19, none⟩))
     | 15 => tv (.slice c.sig.A c.sig.xs.length c.sig.c)
     | _ => tv (.bool vv)
set_option maxRecDepth 100000 in
set_option maxHeartbeats 30000000 in
theorem chSigned_any (c d : Crt) (w : World) (hc : c.ok w) (hd : d.ok w) (hl : c.tbs.xs.length ≤ 1099511627776) (hk : d.key.xs.length ≤ 70000) :
  Calls Tryz.prog 42 #[c.val, d.val] w (RetW (sgB c d) w) := by
 obtain ⟨g0, hg0⟩ : ∃ g, g = w.heap.size := ⟨_, rfl⟩
 obtain ⟨u0, hu0⟩ : ∃ u, u = w.alloc (.cells c.cells.toArray 30) := ⟨_, rfl⟩
 obtain ⟨w0, hw0⟩ : ∃ u, u = u0.alloc (.cells d.cells.toArray 30) := ⟨_, rfl⟩
 obtain ⟨gb, hgb⟩ : ∃ g, g = w.heap.size + 1 := ⟨_, rfl⟩
 have hu1 : u0.heap.size = gb := by rw [hu0, hgb]; simp
 have eu : Below w.heap.size w u0 := by rw [hu0]; exact (Below.refl _ _).alloc (Nat.le_refl _) _
 have ev : Below u0.heap.size u0 w0 := by rw [hw0]; exact (Below.refl _ _).alloc (Nat.le_refl _) _
 have hE : Below w.heap.size w w0 := eu.trans (ev.mono eu.size)
 have B0 : Row u0 g0 0 c.cells := by rw [hu0, hg0]; exact row_new _
 replace B0 := B0.below ev
 have B1 : Row w0 gb 0 d.cells := by rw [hw0, ← hu1]; exact row_new _
 have co := hc.below hE
 have so := hd.below hE
 unfold Crt.val
 go_enter Tryz.func42, Tryz.ntmps42
 go_upto_region 1 with fail
 refine wp_world (W' := w0) (by rw [hw0, hu0]) ?_
 rw [← hgb, ← hg0]
 clear hw0 hu0 eu ev hu1 hc hd
 replace hg0 := Lib.hid hg0
 replace hgb := Lib.hid hgb
 have k1 : w0.cell? ⟨gb, 20, none⟩ = some (.bool d.ca) := B1.at_ (i := 20) rfl rfl
 have k2 : w0.cell? ⟨gb, 22, none⟩ = some (.int .i64 d.usage) := B1.at_ (i := 22) rfl rfl
 obtain ⟨m, hm⟩ : ∃ m, m = mayC d := ⟨_, rfl⟩
 have hsg : sgB c d = (m && decide (c.issuer.xs = d.subject.xs) && verB d.key.xs d.e (digest c.tbs.xs) c.sig.xs) := by rw [hm]; rfl
 replace hsg := Lib.hid hsg
 go_cut [5] from 6 to 18 (fun s5 wx => s5 = .bool m ∧ wx = w0)
 case first =>
  unfold mayC at hm
  obtain ⟨ca, hca⟩ : ∃ b, b = d.ca := ⟨_, rfl⟩
  rw [← hca] at k1 hm
  clear hca
  cases ca
  ·replace hm := Lib.hid hm
   go_wp2_with fail
   go_meet
   case rel => exact ⟨by rw [hm.out]; rfl, rfl⟩
  ·by_cases hu : d.usage < 0
   ·replace hm := Lib.hid hm
    go_wp2_with fail
    go_meet
    case rel => exact ⟨by rw [hm.out, decide_eq_true hu]; rfl, rfl⟩
   ·replace hm := Lib.hid hm
    go_wp2_with fail
    go_meet
    case rel => exact ⟨by rw [hm.out, decide_eq_false (show ¬ d.usage < 0 by omega)]; rfl, rfl⟩
 case rest =>
  obtain ⟨rfl, hw⟩ := hcut
  rw [hw]
  clear hw k1 k2
  replace hm := Lib.hid hm
  go_upto_region 2 with fail
  have hpc : (m = false) ∨ (m = true ∧ decide (c.issuer.xs = d.subject.xs) = false) ∨ (m = true ∧ decide (c.issuer.xs = d.subject.xs) = true) := by cases m <;> cases decide (c.issuer.xs = d.subject.xs) <;> simp
  obtain ⟨vv, hvv⟩ : ∃ v, v = verB d.key.xs d.e (digest c.tbs.xs) c.sig.xs := ⟨_, rfl⟩
  have hdl := digest_length c.tbs.xs
  have hdm := digest_lim c.tbs.xs
  rcases hpc with rfl | ⟨rfl, d2⟩ | ⟨rfl, d2⟩
  ·skip
   have hd0 : Below w0.heap.size w0 w0.drew := below_drewN (Below.refl _ _) 1
   refine wp_region_steps (by kernel_rfl) (fun i => if i = 18 then 4 else 19 + i) (fun i v W => Sp ((chsT g0 gb c d false false vv) i) v W) (fun W => Below w0.heap.size w0 W) (by kernel_rfl) (by kernel_rfl) ?inj ?lt (fun i v W W' h hs => h.mono hs) hd0 ⟨?s0, ?s1, ?s2, ?s3, ?s4, ?s5, ?s6, ?s7, ?s8, ?s9, ?s10, ?s11, ?s12, ?s13, ?s14, ?s15, ?s16, ?s17, ?s18, trivial⟩ ?fin
   case inj =>
    intro i j hi hj h
    have h40 : i < 19 ∧ j < 19 := ⟨hi, hj⟩
    have h : (if i = 18 then 4 else 19 + i) = (if j = 18 then 4 else 19 + j) := h
    (repeat' split at h) <;> omega
   case lt =>
    intro i hi
    have h40 : i < 19 := hi
    show (if i = 18 then 4 else 19 + i) < 37
    (repeat' split) <;> omega
   case s0 => exact (st_move rfl (.inl rfl) (src_base (fun i hi => by have hi : i < 19 := hi; show (if i = 18 then 4 else 19 + i) ≠ _; (repeat' split) <;> omega) rfl))
   case s1 => exact (st_move rfl (.inl rfl) (src_dep (j := 0) (e := ⟨0, .data⟩) (by simp) rfl rfl rfl))
   case s2 => exact (st_skip (j := 1) (b := true) (c := false) (e := ⟨1, .guard⟩) rfl (by simp) rfl rfl rfl (by decide) rfl rfl)
   case s3 => exact (st_skip (j := 1) (b := true) (c := false) (e := ⟨1, .guard⟩) rfl (by simp) rfl rfl rfl (by decide) rfl rfl)
   case s4 => exact (st_skip (j := 1) (b := true) (c := false) (e := ⟨1, .guard⟩) rfl (by simp) rfl rfl rfl (by decide) rfl rfl)
   case s5 => exact (st_skip (j := 1) (b := true) (c := false) (e := ⟨1, .guard⟩) rfl (by simp) rfl rfl rfl (by decide) rfl rfl)
   case s6 => exact (st_skip (j := 1) (b := true) (c := false) (e := ⟨1, .guard⟩) rfl (by simp) rfl rfl rfl (by decide) rfl rfl)
   case s7 => exact (st_pick_no rfl rfl (src_dep (j := 1) (e := ⟨1, .data⟩) (by simp) rfl rfl rfl) src_const)
   case s8 => exact (st_move rfl (.inl rfl) (src_dep (j := 7) (e := ⟨7, .data⟩) (by simp) rfl rfl rfl))
   case s9 => exact (st_skip (j := 8) (b := true) (c := false) (e := ⟨8, .guard⟩) rfl (by simp) rfl rfl rfl (by decide) rfl rfl)
   case s10 => exact (st_skip (j := 8) (b := true) (c := false) (e := ⟨8, .guard⟩) rfl (by simp) rfl rfl rfl (by decide) rfl rfl)
   case s11 => exact (st_skip (j := 8) (b := true) (c := false) (e := ⟨8, .guard⟩) rfl (by simp) rfl rfl rfl (by decide) rfl rfl)
   case s12 => exact (st_skip (j := 8) (b := true) (c := false) (e := ⟨8, .guard⟩) rfl (by simp) rfl rfl rfl (by decide) rfl rfl)
   case s13 => exact (st_skip (j := 8) (b := true) (c := false) (e := ⟨8, .guard⟩) rfl (by simp) rfl rfl rfl (by decide) rfl rfl)
   case s14 => exact (st_skip (j := 8) (b := true) (c := false) (e := ⟨8, .guard⟩) rfl (by simp) rfl rfl rfl (by decide) rfl rfl)
   case s15 => exact (st_skip (j := 8) (b := true) (c := false) (e := ⟨8, .guard⟩) rfl (by simp) rfl rfl rfl (by decide) rfl rfl)
   case s16 => exact (st_skip (j := 8) (b := true) (c := false) (e := ⟨8, .guard⟩) rfl (by simp) rfl rfl rfl (by decide) rfl rfl)
   case s17 => exact (st_pick_no rfl rfl (src_dep (j := 8) (e := ⟨8, .data⟩) (by simp) rfl rfl rfl) src_const)
   case s18 => exact (st_move rfl (.inr rfl) (src_dep (j := 17) (e := ⟨17, .data⟩) (by simp) rfl rfl rfl))
   case fin =>
    intro a W h1 h2 h3 h4 h5
    have b4 : a.tmps.getD 4 undef = .bool false := (h4 18 (by show 18 < 19; omega)).now
    have hz : a.tmps.size = 37 := h2
    have hdf : a.defers = [] := h1
    have b0 := h3 0 (fun i hi => by have h8 : i < 19 := hi; show (if i = 18 then 4 else 19 + i) ≠ 0; (repeat' split) <;> omega)
    replace b0 : a.tmps.getD 0 undef = .agg c.cells.toArray := b0
    rw [act_eq hz hdf]
    simp only [show List.range 37 = [0, 1, 2, 3, 4, 5, 6, 7, 8, 9, 10, 11, 12, 13, 14, 15, 16, 17, 18, 19, 20, 21, 22, 23, 24, 25, 26, 27, 28, 29, 30, 31, 32, 33, 34, 35, 36] from rfl, List.map_cons, List.map_nil, b0, b4]
    clear b0 b4 hz hdf h1 h2 h3 h4
    go_wp2_with fail
    go_ret
    rw [hsg.out]
    exact ⟨rfl, hE.trans (h5.mono hE.size)⟩
  ·skip
   have hd0 : Below w0.heap.size w0 w0.drew := below_drewN (Below.refl _ _) 1
   refine wp_region_steps (by kernel_rfl) (fun i => if i = 18 then 4 else 19 + i) (fun i v W => Sp ((chsT g0 gb c d true false vv) i) v W) (fun W => Below w0.heap.size w0 W) (by kernel_rfl) (by kernel_rfl) ?inj ?lt (fun i v W W' h hs => h.mono hs) hd0 ⟨?s0, ?s1, ?s2, ?s3, ?s4, ?s5, ?s6, ?s7, ?s8, ?s9, ?s10, ?s11, ?s12, ?s13, ?s14, ?s15, ?s16, ?s17, ?s18, trivial⟩ ?fin
   case inj =>
    intro i j hi hj h
    have h40 : i < 19 ∧ j < 19 := ⟨hi, hj⟩
    have h : (if i = 18 then 4 else 19 + i) = (if j = 18 then 4 else 19 + j) := h
    (repeat' split at h) <;> omega
   case lt =>
    intro i hi
    have h40 : i < 19 := hi
    show (if i = 18 then 4 else 19 + i) < 37
    (repeat' split) <;> omega
   case s0 => exact (st_move rfl (.inl rfl) (src_base (fun i hi => by have hi : i < 19 := hi; show (if i = 18 then 4 else 19 + i) ≠ _; (repeat' split) <;> omega) rfl))
   case s1 => exact (st_move rfl (.inl rfl) (src_dep (j := 0) (e := ⟨0, .data⟩) (by simp) rfl rfl rfl))
   case s2 => exact (st_guard (j := 1) (b := true) (e := ⟨1, .guard⟩) rfl (by simp) rfl rfl rfl rfl (st_field rfl rfl rfl (src_base (fun i hi => by have hi : i < 19 := hi; show (if i = 18 then 4 else 19 + i) ≠ _; (repeat' split) <;> omega) rfl) (fun W => fa_cert2 g0 0 W)))
   case s3 => exact (st_guard (j := 1) (b := true) (e := ⟨1, .guard⟩) rfl (by simp) rfl rfl rfl rfl (st_load rfl rfl rfl (src_dep (j := 2) (e := ⟨2, .data⟩) (by simp) rfl rfl rfl) (ld_u8s _ _) (fun W h => (h.cell (p := ⟨g0, 2, none⟩) B0.1).trans (B0.at_ (i := 2) rfl rfl))))
   case s4 => exact (st_guard (j := 1) (b := true) (e := ⟨1, .guard⟩) rfl (by simp) rfl rfl rfl rfl (st_field rfl rfl rfl (src_base (fun i hi => by have hi : i < 19 := hi; show (if i = 18 then 4 else 19 + i) ≠ _; (repeat' split) <;> omega) rfl) (fun W => fa_cert3 gb 0 W)))
   case s5 => exact (st_guard (j := 1) (b := true) (e := ⟨1, .guard⟩) rfl (by simp) rfl rfl rfl rfl (st_load rfl rfl rfl (src_dep (j := 4) (e := ⟨4, .data⟩) (by simp) rfl rfl rfl) (ld_u8s _ _) (fun W h => (h.cell (p := ⟨gb, 3, none⟩) B1.1).trans (B1.at_ (i := 3) rfl rfl))))
   case s6 => exact (st_guard (j := 1) (b := true) (e := ⟨1, .guard⟩) rfl (by simp) rfl rfl rfl rfl (st_call rfl (fun a W => run_call rfl cf_eq a W) (fun a W hb hd h => by
     have h1 : a.eval (.tmp 22) = .slice c.issuer.A c.issuer.xs.length c.issuer.c := (hd ⟨3, .data⟩ (by simp) rfl).now
     have h2 : a.eval (.tmp 24) = .slice d.subject.A d.subject.xs.length d.subject.c := (hd ⟨5, .data⟩ (by simp) rfl).now
     simp only [List.map_toArray, List.map_cons, List.map_nil, h1, h2]
     refine (slEq_any c.issuer.A d.subject.A _ _ c.issuer.c d.subject.c c.issuer.xs d.subject.xs W rfl rfl co.issuer.len (co.issuer.below h).rd (so.subject.below h).rd).mono ?_
     rintro e W' ⟨rfl, n, rfl⟩
     exact ⟨_, rfl, below_drewN (Below.refl _ _) n, by rw [d2]; exact Sp.tv rfl⟩)))
   case s7 => exact (st_pick rfl rfl (src_dep (j := 1) (e := ⟨1, .data⟩) (by simp) rfl rfl rfl) (src_dep (j := 6) (e := ⟨6, .data⟩) (by simp) rfl rfl rfl))
   case s8 => exact (st_move rfl (.inl rfl) (src_dep (j := 7) (e := ⟨7, .data⟩) (by simp) rfl rfl rfl))
   case s9 => exact (st_skip (j := 8) (b := true) (c := false) (e := ⟨8, .guard⟩) rfl (by simp) rfl rfl rfl (by decide) rfl rfl)
   case s10 => exact (st_skip (j := 8) (b := true) (c := false) (e := ⟨8, .guard⟩) rfl (by simp) rfl rfl rfl (by decide) rfl rfl)
   case s11 => exact (st_skip (j := 8) (b := true) (c := false) (e := ⟨8, .guard⟩) rfl (by simp) rfl rfl rfl (by decide) rfl rfl)
   case s12 => exact (st_skip (j := 8) (b := true) (c := false) (e := ⟨8, .guard⟩) rfl (by simp) rfl rfl rfl (by decide) rfl rfl)
   case s13 => exact (st_skip (j := 8) (b := true) (c := false) (e := ⟨8, .guard⟩) rfl (by simp) rfl rfl rfl (by decide) rfl rfl)
   case s14 => exact (st_skip (j := 8) (b := true) (c := false) (e := ⟨8, .guard⟩) rfl (by simp) rfl rfl rfl (by decide) rfl rfl)
   case s15 => exact (st_skip (j := 8) (b := true) (c := false) (e := ⟨8, .guard⟩) rfl (by simp) rfl rfl rfl (by decide) rfl rfl)
   case s16 => exact (st_skip (j := 8) (b := true) (c := false) (e := ⟨8, .guard⟩) rfl (by simp) rfl rfl rfl (by decide) rfl rfl)
   case s17 => exact (st_pick_no rfl rfl (src_dep (j := 8) (e := ⟨8, .data⟩) (by simp) rfl rfl rfl) src_const)
   case s18 => exact (st_move rfl (.inr rfl) (src_dep (j := 17) (e := ⟨17, .data⟩) (by simp) rfl rfl rfl))
   case fin =>
    intro a W h1 h2 h3 h4 h5
    have b4 : a.tmps.getD 4 undef = .bool false := (h4 18 (by show 18 < 19; omega)).now
    have hz : a.tmps.size = 37 := h2
    have hdf : a.defers = [] := h1
    have b0 := h3 0 (fun i hi => by have h8 : i < 19 := hi; show (if i = 18 then 4 else 19 + i) ≠ 0; (repeat' split) <;> omega)
    replace b0 : a.tmps.getD 0 undef = .agg c.cells.toArray := b0
    rw [act_eq hz hdf]
    simp only [show List.range 37 = [0, 1, 2, 3, 4, 5, 6, 7, 8, 9, 10, 11, 12, 13, 14, 15, 16, 17, 18, 19, 20, 21, 22, 23, 24, 25, 26, 27, 28, 29, 30, 31, 32, 33, 34, 35, 36] from rfl, List.map_cons, List.map_nil, b0, b4]
    clear b0 b4 hz hdf h1 h2 h3 h4
    go_wp2_with fail
    go_ret
    rw [hsg.out]
    exact ⟨by rw [d2]; rfl, hE.trans (h5.mono hE.size)⟩
  ·skip
   have hd0 : Below w0.heap.size w0 w0.drew := below_drewN (Below.refl _ _) 1
   refine wp_region_steps (by kernel_rfl) (fun i => if i = 18 then 4 else 19 + i) (fun i v W => Sp ((chsT g0 gb c d true true vv) i) v W) (fun W => Below w0.heap.size w0 W) (by kernel_rfl) (by kernel_rfl) ?inj ?lt (fun i v W W' h hs => h.mono hs) hd0 ⟨?s0, ?s1, ?s2, ?s3, ?s4, ?s5, ?s6, ?s7, ?s8, ?s9, ?s10, ?s11, ?s12, ?s13, ?s14, ?s15, ?s16, ?s17, ?s18, trivial⟩ ?fin
   case inj =>
    intro i j hi hj h
    have h40 : i < 19 ∧ j < 19 := ⟨hi, hj⟩
    have h : (if i = 18 then 4 else 19 + i) = (if j = 18 then 4 else 19 + j) := h
    (repeat' split at h) <;> omega
   case lt =>
    intro i hi
    have h40 : i < 19 := hi
    show (if i = 18 then 4 else 19 + i) < 37
    (repeat' split) <;> omega
   case s0 => exact (st_move rfl (.inl rfl) (src_base (fun i hi => by have hi : i < 19 := hi; show (if i = 18 then 4 else 19 + i) ≠ _; (repeat' split) <;> omega) rfl))
   case s1 => exact (st_move rfl (.inl rfl) (src_dep (j := 0) (e := ⟨0, .data⟩) (by simp) rfl rfl rfl))
   case s2 => exact (st_guard (j := 1) (b := true) (e := ⟨1, .guard⟩) rfl (by simp) rfl rfl rfl rfl (st_field rfl rfl rfl (src_base (fun i hi => by have hi : i < 19 := hi; show (if i = 18 then 4 else 19 + i) ≠ _; (repeat' split) <;> omega) rfl) (fun W => fa_cert2 g0 0 W)))
   case s3 => exact (st_guard (j := 1) (b := true) (e := ⟨1, .guard⟩) rfl (by simp) rfl rfl rfl rfl (st_load rfl rfl rfl (src_dep (j := 2) (e := ⟨2, .data⟩) (by simp) rfl rfl rfl) (ld_u8s _ _) (fun W h => (h.cell (p := ⟨g0, 2, none⟩) B0.1).trans (B0.at_ (i := 2) rfl rfl))))
   case s4 => exact (st_guard (j := 1) (b := true) (e := ⟨1, .guard⟩) rfl (by simp) rfl rfl rfl rfl (st_field rfl rfl rfl (src_base (fun i hi => by have hi : i < 19 := hi; show (if i = 18 then 4 else 19 + i) ≠ _; (repeat' split) <;> omega) rfl) (fun W => fa_cert3 gb 0 W)))
   case s5 => exact (st_guard (j := 1) (b := true) (e := ⟨1, .guard⟩) rfl (by simp) rfl rfl rfl rfl (st_load rfl rfl rfl (src_dep (j := 4) (e := ⟨4, .data⟩) (by simp) rfl rfl rfl) (ld_u8s _ _) (fun W h => (h.cell (p := ⟨gb, 3, none⟩) B1.1).trans (B1.at_ (i := 3) rfl rfl))))
   case s6 => exact (st_guard (j := 1) (b := true) (e := ⟨1, .guard⟩) rfl (by simp) rfl rfl rfl rfl (st_call rfl (fun a W => run_call rfl cf_eq a W) (fun a W hb hd h => by
     have h1 : a.eval (.tmp 22) = .slice c.issuer.A c.issuer.xs.length c.issuer.c := (hd ⟨3, .data⟩ (by simp) rfl).now
     have h2 : a.eval (.tmp 24) = .slice d.subject.A d.subject.xs.length d.subject.c := (hd ⟨5, .data⟩ (by simp) rfl).now
     simp only [List.map_toArray, List.map_cons, List.map_nil, h1, h2]
     refine (slEq_any c.issuer.A d.subject.A _ _ c.issuer.c d.subject.c c.issuer.xs d.subject.xs W rfl rfl co.issuer.len (co.issuer.below h).rd (so.subject.below h).rd).mono ?_
     rintro e W' ⟨rfl, n, rfl⟩
     exact ⟨_, rfl, below_drewN (Below.refl _ _) n, by rw [d2]; exact Sp.tv rfl⟩)))
   case s7 => exact (st_pick rfl rfl (src_dep (j := 1) (e := ⟨1, .data⟩) (by simp) rfl rfl rfl) (src_dep (j := 6) (e := ⟨6, .data⟩) (by simp) rfl rfl rfl))
   case s8 => exact (st_move rfl (.inl rfl) (src_dep (j := 7) (e := ⟨7, .data⟩) (by simp) rfl rfl rfl))
   case s9 => exact (st_guard (j := 8) (b := true) (e := ⟨8, .guard⟩) rfl (by simp) rfl rfl rfl rfl (st_field rfl rfl rfl (src_base (fun i hi => by have hi : i < 19 := hi; show (if i = 18 then 4 else 19 + i) ≠ _; (repeat' split) <;> omega) rfl) (fun W => fa_cert7 gb 0 W)))
   case s10 => exact (st_guard (j := 8) (b := true) (e := ⟨8, .guard⟩) rfl (by simp) rfl rfl rfl rfl (st_loadR (b := gb) (off := 17) rfl rfl rfl (src_dep (j := 9) (e := ⟨9, .data⟩) (by simp) rfl rfl rfl) Tryz.underlying28 rfl size_key (fun W h => key_rng (B1.below h))))
   case s11 => exact (st_guard (j := 8) (b := true) (e := ⟨8, .guard⟩) rfl (by simp) rfl rfl rfl rfl (st_field rfl rfl rfl (src_base (fun i hi => by have hi : i < 19 := hi; show (if i = 18 then 4 else 19 + i) ≠ _; (repeat' split) <;> omega) rfl) (fun W => fa_cert1 g0 0 W)))
   case s12 => exact (st_guard (j := 8) (b := true) (e := ⟨8, .guard⟩) rfl (by simp) rfl rfl rfl rfl (st_load rfl rfl rfl (src_dep (j := 11) (e := ⟨11, .data⟩) (by simp) rfl rfl rfl) (ld_u8s _ _) (fun W h => (h.cell (p := ⟨g0, 1, none⟩) B0.1).trans (B0.at_ (i := 1) rfl rfl))))
   case s13 => exact (st_guard (j := 8) (b := true) (e := ⟨8, .guard⟩) rfl (by simp) rfl rfl rfl rfl (st_call rfl (fun a W => run_call rfl cf_shasum a W) (fun a W hb hd h => by
     have h1 : a.eval (.tmp 31) = .slice c.tbs.A c.tbs.xs.length c.tbs.c := (hd ⟨12, .data⟩ (by simp) rfl).now
     simp only [List.map_toArray, List.map_cons, List.map_nil, h1]
     refine (shaSum_any c.tbs.A _ c.tbs.c c.tbs.xs W rfl hl (co.tbs.below h).rd co.tbs.lim).mono ?_
     rintro e W' ⟨rfl, q⟩
     exact ⟨_, rfl, q, Sp.tv rfl⟩)))
   case s14 => exact (st_guard (j := 8) (b := true) (e := ⟨8, .guard⟩) rfl (by simp) rfl rfl rfl rfl (st_field rfl rfl rfl (src_base (fun i hi => by have hi : i < 19 := hi; show (if i = 18 then 4 else 19 + i) ≠ _; (repeat' split) <;> omega) rfl) (fun W => fa_cert8 g0 0 W)))
   case s15 => exact (st_guard (j := 8) (b := true) (e := ⟨8, .guard⟩) rfl (by simp) rfl rfl rfl rfl (st_load rfl rfl rfl (src_dep (j := 14) (e := ⟨14, .data⟩) (by simp) rfl rfl rfl) (ld_u8s _ _) (fun W h => (h.cell (p := ⟨g0, 19, none⟩) B0.1).trans (B0.at_ (i := 19) rfl rfl))))
   case s16 => exact (st_guard (j := 8) (b := true) (e := ⟨8, .guard⟩) rfl (by simp) rfl rfl rfl rfl (st_call rfl (fun a W => run_call rfl cf_ver a W) (fun a W hb hd h => by
     have h1 : a.eval (.tmp 29) = .agg (#[.slice d.key.A d.key.xs.length d.key.c, .int .u64 (d.e : Int)] : Array Value) := (hd ⟨10, .data⟩ (by simp) rfl).now
     have h2 : a.eval (.tmp 32) = .agg (ints .u8 (digest c.tbs.xs)).toArray := (hd ⟨13, .data⟩ (by simp) rfl).now
     have h3 : a.eval (.tmp 34) = .slice c.sig.A c.sig.xs.length c.sig.c := (hd ⟨15, .data⟩ (by simp) rfl).now
     simp only [List.map_toArray, List.map_cons, List.map_nil, h1, h2, h3]
     have hq := verify_any d.key.A c.sig.A d.key.xs.length d.key.c d.e c.sig.xs.length c.sig.c d.key.xs (digest c.tbs.xs) c.sig.xs W rfl rfl hk co.sig.len (so.key.below h).rd (co.sig.below h).rd so.key.lim co.sig.lim hdl hdm so.e
     rw [show keyVal d.key.A d.key.xs.length d.key.c d.e = .agg #[.slice d.key.A d.key.xs.length d.key.c, .int .u64 (d.e : Int)] from rfl] at hq
     refine hq.mono ?_
     rintro e W' ⟨rfl, q⟩
     exact ⟨_, rfl, q, by rw [← hvv]; exact Sp.tv rfl⟩)))
   case s17 => exact (st_pick rfl rfl (src_dep (j := 8) (e := ⟨8, .data⟩) (by simp) rfl rfl rfl) (src_dep (j := 16) (e := ⟨16, .data⟩) (by simp) rfl rfl rfl))
   case s18 => exact (st_move rfl (.inr rfl) (src_dep (j := 17) (e := ⟨17, .data⟩) (by simp) rfl rfl rfl))
   case fin =>
    intro a W h1 h2 h3 h4 h5
    have b4 : a.tmps.getD 4 undef = .bool vv := (h4 18 (by show 18 < 19; omega)).now
    have hz : a.tmps.size = 37 := h2
    have hdf : a.defers = [] := h1
    have b0 := h3 0 (fun i hi => by have h8 : i < 19 := hi; show (if i = 18 then 4 else 19 + i) ≠ 0; (repeat' split) <;> omega)
    replace b0 : a.tmps.getD 0 undef = .agg c.cells.toArray := b0
    rw [act_eq hz hdf]
    simp only [show List.range 37 = [0, 1, 2, 3, 4, 5, 6, 7, 8, 9, 10, 11, 12, 13, 14, 15, 16, 17, 18, 19, 20, 21, 22, 23, 24, 25, 26, 27, 28, 29, 30, 31, 32, 33, 34, 35, 36] from rfl, List.map_cons, List.map_nil, b0, b4]
    clear b0 b4 hz hdf h1 h2 h3 h4
    go_wp2_with fail
    go_ret
    rw [hsg.out]
    exact ⟨by rw [d2, ← hvv]; rfl, hE.trans (h5.mono hE.size)⟩
def keyV (c p : Int) : Value := .agg #[.int .i64 c, .int .i64 p]
def toldV (b : Bool) : Value := .agg #[.bool b]
theorem laid_out : laidOutB Tryz.prog = true := by kernel_rfl
theorem key_wide : (match Tryz.prog.underlying 142 with | some (.array _ _) | some (.struct _) => true | _ => false) = true := by kernel_rfl
theorem key_law : Maps.Keyed Tryz.prog 142 := Maps.Keyed.of_law (deep_law_laid laid_out (m := 2) (by omega) (Nat.le_of_ble_eq_true (by kernel_rfl)) (by kernel_rfl) key_wide)
theorem key_of {c p : Int} (hc : (Lit.int .i64 c).wf = true) (hp : (Lit.int .i64 p).wf = true) : ∃ l, keyOf Tryz.prog 142 (keyV c p) = some l := by
 have hf : ∀ a b : Value, Value.formed Tryz.prog 142 (.agg #[a, b]) = true := fun a b => by kernel_rfl
 have h1 : ∀ d, Tryz.prog.keyLits (d + 1) 3 [.int .i64 c] = some [.int .i64 c] := fun d => by
  unfold Program.keyLits
  rw [show Tryz.prog.underlying 3 = some (.int .i64) from by kernel_rfl]
  simp [hc]
 have h2 : ∀ d, Tryz.prog.keyLits (d + 1) 3 [.int .i64 p] = some [.int .i64 p] := fun d => by
  unfold Program.keyLits
  rw [show Tryz.prog.underlying 3 = some (.int .i64) from by kernel_rfl]
  simp [hp]
 have h3 : ∀ d, Tryz.prog.keyLits (d + 2) 142 [.int .i64 c, .int .i64 p] = some [.int .i64 c, .int .i64 p] := fun d => by
  unfold Program.keyLits
  rw [show Tryz.prog.underlying 142 = some (.array 2 3) from by kernel_rfl]
  simp [show Tryz.prog.cellsOf 142 = 2 from by kernel_rfl, show Tryz.prog.cellsOf 3 = 1 from by kernel_rfl, List.range_succ, h1, h2]
 obtain ⟨d, hd⟩ : ∃ d, Tryz.prog.types.size + 1 = d + 2 := ⟨Tryz.prog.types.size - 1, by have : 2 < Tryz.prog.types.size := Nat.le_of_ble_eq_true (by kernel_rfl); omega⟩
 unfold keyOf keyV
 rw [show Tryz.prog.underlying 142 = some (.array 2 3) from by kernel_rfl]
 refine ⟨.string (keyBytes [.int .i64 c, .int .i64 p]), ?_⟩
 simp only [hd, hf, show Tryz.prog.keyType 142 = true from by kernel_rfl, Bool.and_self, if_true, Value.cells]
 rw [h3]
 rfl
def Tbl (sg : Int → Int → Bool) (W : World) (b : Nat) : Prop := ∃ es clock, W.heap[b]? = some (.map es clock) ∧ ∀ e ∈ es.toList, ∃ c p : Int, (Lit.int .i64 c).wf = true ∧ (Lit.int .i64 p).wf = true ∧ e.key = keyV c p ∧ e.val = toldV (sg c p)
variable {sg : Int → Int → Bool} {W W' : World} {b : Nat}
theorem Tbl.keys {es : Array MapEntry} (h : ∀ e ∈ es.toList, ∃ c p : Int, (Lit.int .i64 c).wf = true ∧ (Lit.int .i64 p).wf = true ∧ e.key = keyV c p ∧ e.val = toldV (sg c p)) : ∀ e ∈ es.toList, ∃ l, keyOf Tryz.prog 142 e.key = some l := fun e he => by
 obtain ⟨c, p, hc, hp, hk, _⟩ := h e he
 rw [hk]
 exact key_of hc hp
theorem Tbl.lt (h : Tbl sg W b) : b < W.heap.size := by
 obtain ⟨es, clock, hb, _⟩ := h
 exact (Array.getElem?_eq_some_iff.1 hb).1
theorem Tbl.kept (h : Tbl sg W b) (hk : W'.heap[b]? = W.heap[b]?) : Tbl sg W' b := by
 obtain ⟨es, clock, hb, he⟩ := h
 exact ⟨es, clock, hk.trans hb, he⟩
theorem Tbl.below (h : Tbl sg W b) (hb : Below W.heap.size W W') : Tbl sg W' b := h.kept (hb.block b h.lt)
theorem Tbl.made (W : World) : Tbl sg (W.alloc (.map #[] 0)) W.heap.size := ⟨#[], 0, heap_alloc_new _ _, fun e he => by simp at he⟩
theorem key_inj {c p c' p' : Int} (h : keyV c p = keyV c' p') : c = c' ∧ p = p' := by
 unfold keyV at h
 simpa using h
theorem Tbl.look (h : Tbl sg W b) {c p : Int} (hc : (Lit.int .i64 c).wf = true) (hp : (Lit.int .i64 p).wf = true) : ∃ ok v, (ok = true → v = sg c p) ∧ ∀ U : World, U.heap[b]? = W.heap[b]? → (Instr.lookup 139 (.map (some b)) (keyV c p) true).run Tryz.prog U = .ok (.tuple #[toldV v, .bool ok]) U := by
 obtain ⟨es, clock, hb, he⟩ := h
 obtain ⟨l, hl⟩ := key_of hc hp
 have ht : Tryz.prog.underlying 139 = some (.map 142 144) := by kernel_rfl
 have hz : ∀ W, (zeroValue 144).run Tryz.prog W = .ok (toldV false) W := fun W => by kernel_rfl
 by_cases hex : ∃ e ∈ es.toList, e.key = keyV c p
 ·refine ⟨true, sg c p, fun _ => rfl, fun U hU => ?_⟩
  rw [hb] at hU
  rcases key_law.find U hl es.toList (Tbl.keys he) with ⟨h1, h2⟩ | ⟨j, e, h1, h2, h3⟩
  ·obtain ⟨e, hm, hk⟩ := hex
   exact absurd hk (h2 e hm)
  ·obtain ⟨c', p', _, _, hk, hv⟩ := he e (List.mem_of_getElem? h2)
   obtain ⟨rfl, rfl⟩ := key_inj (h3.symm.trans hk)
   simp [Instr.lookup, run_underlying ht, MapKept.run_getObj_map hU, key_law.check U _ hl, h1, hv, Result.andThen]
 ·refine ⟨false, false, fun h => by simp at h, fun U hU => ?_⟩
  rw [hb] at hU
  rcases key_law.find U hl es.toList (Tbl.keys he) with ⟨h1, h2⟩ | ⟨j, e, h1, h2, h3⟩
  ·simp [Instr.lookup, run_underlying ht, MapKept.run_getObj_map hU, key_law.check U _ hl, h1, hz, Result.andThen]
  ·exact absurd ⟨e, List.mem_of_getElem? h2, h3⟩ hex
theorem Tbl.store (h : Tbl sg W b) {c p : Int} (hc : (Lit.int .i64 c).wf = true) (hp : (Lit.int .i64 p).wf = true) : ∃ W', (Instr.mapUpdate 139 (.map (some b)) (keyV c p) (toldV (sg c p))).run Tryz.prog W = .ok () W' ∧ Tbl sg W' b ∧ W.grownBy W' (some b) := by
 obtain ⟨es, clock, hb, he⟩ := h
 obtain ⟨l, hl⟩ := key_of hc hp
 have ht : Tryz.prog.underlying 139 = some (.map 142 144) := by kernel_rfl
 have hgr : ∀ es' c', W.grownBy (ChangeMaps.setBlock W b (.map es' c')) (some b) := fun es' c' => World.mapTurned.grown ⟨es, clock, es', c', hb, rfl⟩
 rcases key_law.find W hl es.toList (Tbl.keys he) with ⟨h1, h2⟩ | ⟨j, e, h1, h2, h3⟩
 ·refine ⟨ChangeMaps.setBlock W b (.map (es.push ⟨keyV c p, toldV (sg c p), clock⟩) (clock + 1)), by simp [Instr.mapUpdate, run_underlying ht, MapKept.run_getObj_map hb, key_law.check W false hl, h1, MapKept.run_setObj_map _ hb, Result.andThen, ChangeMaps.setBlock], ⟨_, _, ChangeMaps.heap_setBlock_same hb _, fun e he' => ?_⟩, hgr _ _⟩
  simp only [Array.toList_push, List.mem_append, List.mem_singleton] at he'
  rcases he' with he' | rfl
  ·exact he e he'
  ·exact ⟨c, p, hc, hp, rfl, rfl⟩
 ·have hj : es[j]? = some e := by simpa using h2
  refine ⟨ChangeMaps.setBlock W b (.map (es.modify j (fun e' => { e' with key := keyV c p, val := toldV (sg c p) })) clock), by simp [Instr.mapUpdate, run_underlying ht, MapKept.run_getObj_map hb, key_law.check W false hl, h1, hj, h3, key_law.stays W hl, MapKept.run_setObj_map _ hb, Result.andThen, ChangeMaps.setBlock], ⟨_, _, ChangeMaps.heap_setBlock_same hb _, fun e' he' => ?_⟩, hgr _ _⟩
  obtain ⟨i, hi, rfl⟩ := List.getElem_of_mem he'
  by_cases hij : i = j
  ·subst hij
   exact ⟨c, p, hc, hp, by simp [Array.getElem_modify], by simp [Array.getElem_modify]⟩
  ·have := he (es.toList[i]'(by simpa using hi)) (List.getElem_mem _)
   simpa [Array.getElem_modify, Ne.symm hij] using this
def atC (leaf : Crt) (cs : List Crt) (i : Int) : Crt := if i = -1 then leaf else (cs[i.toNat]?).getD leaf
def sgAt (leaf : Crt) (cs : List Crt) (c p : Int) : Bool := sgB (atC leaf cs c) (atC leaf cs p)
structure Pool (w0 : World) (leaf : Crt) (cs : List Crt) (pA : Option Addr) (pc gp op : Nat) : Prop where
 A : cs = [] ∨ pA = some ⟨gp, op, none⟩
 row : Row w0 gp op (crtCells cs)
 ok : ∀ c ∈ leaf :: cs, c.ok w0
 tbs : ∀ c ∈ leaf :: cs, c.tbs.xs.length ≤ 1099511627776
 key : ∀ c ∈ leaf :: cs, c.key.xs.length ≤ 70000
 len : cs.length ≤ 16
theorem Pool.below {w w' : World} {leaf : Crt} {cs : List Crt} {pA : Option Addr} {pc gp op : Nat} (h : Pool w leaf cs pA pc gp op) (hb : Below w.heap.size w w') : Pool w' leaf cs pA pc gp op :=
 ⟨h.A, h.row.below hb, fun c hc => (h.ok c hc).below hb, h.tbs, h.key, h.len⟩
def Spot (cs : List Crt) (i : Int) : Prop := i = -1 ∨ (0 ≤ i ∧ i < (cs.length : Int))
theorem atC_mem {leaf : Crt} {cs : List Crt} {i : Int} (h : Spot cs i) : atC leaf cs i ∈ leaf :: cs := by
 unfold atC
 rcases h with rfl | ⟨h1, h2⟩
 ·simp
 ·rw [if_neg (by omega)]
  obtain ⟨c, hc⟩ : ∃ c, cs[i.toNat]? = some c := ⟨_, List.getElem?_eq_getElem (by omega)⟩
  rw [hc]
  exact List.mem_cons_of_mem _ (List.mem_of_getElem? hc)
structure Hm (w0 : World) (leaf : Crt) (cs : List Crt) (pA : Option Addr) (pc hb mb : Nat) (W : World) : Prop where
 below : Below w0.heap.size w0 W
 row : Row W hb 0 (leaf.cells ++ [.slice pA cs.length pc, .map (some mb)])
 hn : w0.heap.size ≤ hb
 mn : w0.heap.size ≤ mb
 ne : hb ≠ mb
 tbl : Tbl (sgAt leaf cs) W mb
section
variable {w0 : World} {lf : Crt} {cs : List Crt} {pA : Option Addr} {pc gp op hb mb : Nat} {W W' : World}
theorem Hm.step (h : Hm w0 lf cs pA pc hb mb W) (g : W.grownBy W' (some mb)) (t : Tbl (sgAt lf cs) W' mb) : Hm w0 lf cs pA pc hb mb W' :=
 ⟨below_only h.below g h.below.size h.mn, h.row.keep g.size (g.block hb h.row.1 (fun e => h.ne (by simpa using e))), h.hn, h.mn, h.ne, t⟩
theorem Hm.grow (h : Hm w0 lf cs pA pc hb mb W) (g : Below W.heap.size W W') : Hm w0 lf cs pA pc hb mb W' := h.step (only_of_below g _) (h.tbl.below g)
theorem Hm.leaf (h : Hm w0 lf cs pA pc hb mb W) : W.rangeAt hb 0 lf.cells := fun i v hv => h.row.2 i v (by
 rw [List.getElem?_append_left (by have := (List.getElem?_eq_some_iff.1 hv).1; exact this)]
 exact hv)
theorem Hm.pool (h : Hm w0 lf cs pA pc hb mb W) : W.cell? ⟨hb, 24, none⟩ = some (.slice pA cs.length pc) := by
 have := h.row.2 24 (.slice pA cs.length pc) (by rw [List.getElem?_append_right (by simp [Crt.cells_length]), Crt.cells_length]; rfl)
 simpa using this
theorem Hm.known (h : Hm w0 lf cs pA pc hb mb W) : W.cell? ⟨hb, 25, none⟩ = some (.map (some mb)) := by
 have := h.row.2 25 (.map (some mb)) (by rw [List.getElem?_append_right (by simp [Crt.cells_length]), Crt.cells_length]; rfl)
 simpa using this
def GivesC (c : Crt) (w : World) (e : Ending) (w' : World) : Prop := e = .returned c.val ∧ Below w.heap.size w w'
set_option maxRecDepth 100000 in
set_option maxHeartbeats 3200000 in
theorem hat_any (P : Pool w0 lf cs pA pc gp op) (h : Hm w0 lf cs pA pc hb mb W) {i : Int} (hi : Spot cs i) :
  Calls Tryz.prog 49 #[.pointer (some ⟨hb, 0, none⟩), .int .i64 i] W (GivesC (atC lf cs i) W) := by
 have kl := h.leaf
 have kp := h.pool
 have hlen := P.len
 rcases hi with rfl | ⟨h1, h2⟩
 ·have ha : atC lf cs (-1) = lf := by unfold atC; rw [if_pos rfl]
  rw [ha]
  clear kp ha
  go_enter Tryz.func49, Tryz.ntmps49
  go_wp2_with (first
   | ((with_reducible refine wpList_alloc_row ?_ 30 ?_ Crt.none.cells zero_cert ?_); (· rfl); (· rfl); intro g1 w1 hg1 V1 z1 e1; have kl : w1.rangeAt hb 0 lf.cells := fun j v hv => (e1.cell (p := ⟨hb, 0 + j, none⟩) h.row.1).trans (kl j v hv))
   | ((with_reducible refine wpList_load_mid ?_ 30 (.tmp 9) ?_ hb 0 ?_ lf.cells _ kl Tryz.underlying30 ?_ (sz_crt _) ?_); (· rfl); (· rfl); (· rfl); (· rfl))
   | ((with_reducible refine wpList_store_cut ?_ 30 (.tmp 4) (.tmp 10) ?_ g1 0 lf.cells _ ?_ ?_ V1 ?_ (sz_crt _) (crt_one _) ?_); (· rfl); (· rfl); (· rfl); (· rfl); (· rfl); intro w9 hst))
  refine bodyPost_ret (results_row rfl _ _ g1 0 lf.cells _ rfl hst.2.2.1.range Tryz.underlying30 rfl (sz_crt _)) rfl ?_
  exact ⟨rfl, below_only e1 hst.1 e1.size (by rw [hg1.out]; exact Nat.le_refl _)⟩
 ·obtain ⟨k, rfl⟩ : ∃ k : Nat, i = (k : Int) := ⟨i.toNat, by omega⟩
  have hk : k < cs.length := by omega
  obtain ⟨c, hc⟩ : ∃ c, cs[k]? = some c := ⟨_, List.getElem?_eq_getElem hk⟩
  have ha : atC lf cs (k : Int) = c := by unfold atC; rw [if_neg (by omega), Int.toNat_natCast, hc]; rfl
  rw [ha]
  have hA := P.A.resolve_left (by rintro rfl; simp at hk)
  rw [hA] at kp
  have z1 : ((k : Int) == -1) = false := by simp
  have Rc := crt_row (P.row.below h.below) hc
  have kc := Rc.2
  clear kl ha
  go_enter Tryz.func49, Tryz.ntmps49
  go_wp2_with (first
   | ((with_reducible refine wpList_alloc_row ?_ 30 ?_ Crt.none.cells zero_cert ?_); (· rfl); (· rfl); intro g1 w1 hg1 V1 z1 e1; have kp := (e1.cell (p := ⟨hb, 24, none⟩) h.row.1).trans kp; have kc := (Rc.below e1).2)
   | ((with_reducible refine wpList_load_mid ?_ 30 (.tmp 16) ?_ gp (op + k * 24) ?_ c.cells _ kc Tryz.underlying30 ?_ (sz_crt _) ?_); (· rfl); (· rfl); (· rfl); (· rfl))
   | ((with_reducible refine wpList_store_cut ?_ 30 (.tmp 4) (.tmp 17) ?_ g1 0 c.cells _ ?_ ?_ V1 ?_ (sz_crt _) (crt_one _) ?_); (· rfl); (· rfl); (· rfl); (· rfl); (· rfl); intro w9 hst))
  refine bodyPost_ret (results_row rfl _ _ g1 0 c.cells _ rfl hst.2.2.1.range Tryz.underlying30 rfl (sz_crt _)) rfl ?_
  exact ⟨rfl, below_only e1 hst.1 e1.size (by rw [hg1.out]; exact Nat.le_refl _)⟩
def OpenPost (w0 : World) (lf : Crt) (cs : List Crt) (pA : Option Addr) (pc : Nat) (e : Ending) (W : World) : Prop := ∃ hb mb, e = .returned (.pointer (some ⟨hb, 0, none⟩)) ∧ Hm w0 lf cs pA pc hb mb W
set_option maxRecDepth 100000 in
set_option maxHeartbeats 400000 in
theorem chOpen_any (P : Pool w0 lf cs pA pc gp op) : Calls Tryz.prog 46 #[lf.val, .slice pA cs.length pc] w0 (OpenPost w0 lf cs pA pc) := by
 obtain ⟨w1, hw1⟩ : ∃ w1, w1 = w0.alloc (.cells lf.cells.toArray 30) := ⟨_, rfl⟩
 have e1 : Below w0.heap.size w0 w1 := by rw [hw1]; exact (Below.refl _ _).alloc (Nat.le_refl _) _
 have z1 : w1.heap.size = w0.heap.size + 1 := by rw [hw1]; simp
 have R1 : Row w1 w0.heap.size 0 lf.cells := by rw [hw1]; exact row_new _
 have hmm := @run_makeMap Tryz.prog
 unfold Crt.val
 go_enter Tryz.func46, Tryz.ntmps46
 go_upto_region 1 with fail
 rw [← hw1]
 clear hw1
 go_wp2_with (first
  | ((with_reducible refine wpList_load_mid ?_ 30 (.tmp 2) ?_ w0.heap.size 0 ?_ lf.cells _ R1.rng Tryz.underlying30 ?_ (sz_crt _) ?_); (· rfl); (· rfl); (· rfl); (· rfl))
  | (refine wpList_build_at rfl 141 _ rfl (lf.cells ++ [Value.slice pA cs.length pc, Value.map (some (w0.heap.size + 1))]) (by kernel_rfl) ?_))
 obtain ⟨w2, hw2⟩ : ∃ u, u = w1.alloc (.map #[] 0) := ⟨_, rfl⟩
 obtain ⟨w3, hw3⟩ : ∃ u, u = w2.alloc (.cells (lf.cells ++ [Value.slice pA cs.length pc, Value.map (some (w0.heap.size + 1))]).toArray 141) := ⟨_, rfl⟩
 rw [← hw2, ← hw3]
 go_ret
 have z2 : w2.heap.size = w0.heap.size + 1 + 1 := by rw [hw2]; simp [z1]
 have e2 : Below w1.heap.size w1 w2 := by rw [hw2]; exact (Below.refl _ _).alloc (Nat.le_refl _) _
 have e3 : Below w2.heap.size w2 w3 := by rw [hw3]; exact (Below.refl _ _).alloc (Nat.le_refl _) _
 have t2 : Tbl (sgAt lf cs) w2 (w0.heap.size + 1) := by rw [hw2, ← z1]; exact Tbl.made w1
 have r3 : Row w3 (w0.heap.size + 1 + 1) 0 (lf.cells ++ [Value.slice pA cs.length pc, Value.map (some (w0.heap.size + 1))]) := by rw [hw3, ← z2]; exact row_new _
 exact ⟨_, _, rfl, ⟨(e1.trans (e2.mono e1.size)).trans (e3.mono (by omega)), r3, by omega, by omega, by omega, t2.below e3⟩⟩
end
end Go.Proofs.YtchaahnhpeoomaaGreat
