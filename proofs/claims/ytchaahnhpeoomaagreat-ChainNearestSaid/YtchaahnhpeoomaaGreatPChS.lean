/-
 chain.Signed: whether a certificate is signed by another one, who may do that.
-/
import Derived.Test.YtchaahnhpeoomaaGreatPSgLa
namespace Go.Proofs.YtchaahnhpeoomaaGreat
set_option linter.unusedVariables false
set_option linter.unusedSimpArgs false
set_option maxRecDepth 20000
open Go.RowKit
def mayC (d : Crt) : Bool := d.ca && (decide (d.usage < 0) || !(bits .and .i64 d.usage 32 == 0))
def sgB (c d : Crt) : Bool := mayC d && decide (c.issuer.xs = d.subject.xs) && verB d.key.xs d.e (digest c.tbs.xs) c.sig.xs
theorem cf_eq (vs : Array Value) (w : World) : (callFunc 60 vs).run Tryz.prog w = .ok (.enter 60 vs) w := by kernel_rfl
theorem cf_shasum (vs : Array Value) (w : World) : (callFunc 61 vs).run Tryz.prog w = .ok (.enter 61 vs) w := by kernel_rfl
theorem cf_ver (vs : Array Value) (w : World) : (callFunc 59 vs).run Tryz.prog w = .ok (.enter 59 vs) w := by kernel_rfl
theorem key_rng {W : World} {g : Nat} {c : Crt} (h : Row W g 0 c.cells) : W.rangeAt g 17 [.slice c.key.A c.key.xs.length c.key.c, .int .u64 (c.e : Int)] := fun j v hv => by
 have hj : j < 2 := (List.getElem?_eq_some_iff.1 hv).1
 refine h.cell (i := 17 + j) (v := v) ?_ |> fun q => by rwa [Nat.zero_add] at q
 rcases j with _ | _ | j
 ·exact hv
 ·exact hv
 ·omega
def chsT (g0 gb : Nat) (c d : Crt) (m p vv : Bool) : Nat → Tg
 | 0 => tv (.bool m)
 | 1 => tv (.bool m)
 | 7 => tv (.bool (m && p))
 | 8 => tv (.bool (m && p))
 | 17 => tv (.bool (m && p && vv))
 | 18 => tv (.bool (m && p && vv))
 | n => match m with
  | false => fun _ _ => True
  | true => match n with
   | 2 => tv (.pointer (some ⟨g0, 2, none⟩))
   | 3 => tv (.slice c.issuer.A c.issuer.xs.length c.issuer.c)
   | 4 => tv (.pointer (some ⟨gb, 3, none⟩))
   | 5 => tv (.slice d.subject.A d.subject.xs.length d.subject.c)
   | 6 => tv (.bool p)
   | n => match p with
    | false => fun _ _ => True
    | true => match n with
     | 9 => tv (.pointer (some ⟨gb, 17, none⟩))
     | 10 => tv (.agg #[.slice d.key.A d.key.xs.length d.key.c, .int .u64 (d.e : Int)])
     | 11 => tv (.pointer (some ⟨g0, 1, none⟩))
     | 12 => tv (.slice c.tbs.A c.tbs.xs.length c.tbs.c)
     | 13 => tv (.agg (ints .u8 (digest c.tbs.xs)).toArray)
     | 14 => tv (.pointer (some ⟨g0, 19, none⟩))
     | 15 => tv (.slice c.sig.A c.sig.xs.length c.sig.c)
     | _ => tv (.bool vv)
set_option maxRecDepth 100000 in
set_option maxHeartbeats 30000000 in
theorem chSigned_any (c d : Crt) (w : World) (hc : c.ok w) (hd : d.ok w) (hl : c.tbs.xs.length ≤ 1099511627776) (hk : d.key.xs.length ≤ 70000) :
  Calls Tryz.prog 42 #[c.val, d.val] w (RetW (sgB c d) w) := by
 obtain ⟨g0, hg0⟩ : ∃ g, g = w.heap.size := ⟨_, rfl⟩
 obtain ⟨u0, hu0⟩ : ∃ u, u = w.alloc (.cells c.cells.toArray 30) := ⟨_, rfl⟩
 obtain ⟨w0, hw0⟩ : ∃ u, u = u0.alloc (.cells d.cells.toArray 30) := ⟨_, rfl⟩
 obtain ⟨gb, hgb⟩ : ∃ g, g = w.heap.size + 1 := ⟨_, rfl⟩
 have hu1 : u0.heap.size = gb := by rw [hu0, hgb]; simp
 have eu : Below w.heap.size w u0 := by rw [hu0]; exact (Below.refl _ _).alloc (Nat.le_refl _) _
 have ev : Below u0.heap.size u0 w0 := by rw [hw0]; exact (Below.refl _ _).alloc (Nat.le_refl _) _
 have hE : Below w.heap.size w w0 := eu.trans (ev.mono eu.size)
 have B0 : Row u0 g0 0 c.cells := by rw [hu0, hg0]; exact row_new _
 replace B0 := B0.below ev
 have B1 : Row w0 gb 0 d.cells := by rw [hw0, ← hu1]; exact row_new _
 have co := hc.below hE
 have so := hd.below hE
 unfold Crt.val
 go_enter Tryz.func42, Tryz.ntmps42
 go_upto_region 1 with fail
 refine wp_world (W' := w0) (by rw [hw0, hu0]) ?_
 rw [← hgb, ← hg0]
 clear hw0 hu0 eu ev hu1 hc hd
 replace hg0 := Lib.hid hg0
 replace hgb := Lib.hid hgb
 have k1 : w0.cell? ⟨gb, 20, none⟩ = some (.bool d.ca) := B1.at_ (i := 20) rfl rfl
 have k2 : w0.cell? ⟨gb, 22, none⟩ = some (.int .i64 d.usage) := B1.at_ (i := 22) rfl rfl
 obtain ⟨m, hm⟩ : ∃ m, m = mayC d := ⟨_, rfl⟩
 have hsg : sgB c d = (m && decide (c.issuer.xs = d.subject.xs) && verB d.key.xs d.e (digest c.tbs.xs) c.sig.xs) := by rw [hm]; rfl
 replace hsg := Lib.hid hsg
 go_cut [5] from 6 to 18 (fun s5 wx => s5 = .bool m ∧ wx = w0)
 case first =>
  unfold mayC at hm
  obtain ⟨ca, hca⟩ : ∃ b, b = d.ca := ⟨_, rfl⟩
  rw [← hca] at k1 hm
  clear hca
  cases ca
  ·replace hm := Lib.hid hm
   go_wp2_with fail
   go_meet
   case rel => exact ⟨by rw [hm.out]; rfl, rfl⟩
  ·by_cases hu : d.usage < 0
   ·replace hm := Lib.hid hm
    go_wp2_with fail
    go_meet
    case rel => exact ⟨by rw [hm.out, decide_eq_true hu]; rfl, rfl⟩
   ·replace hm := Lib.hid hm
    go_wp2_with fail
    go_meet
    case rel => exact ⟨by rw [hm.out, decide_eq_false (show ¬ d.usage < 0 by omega)]; rfl, rfl⟩
 case rest =>
  obtain ⟨rfl, hw⟩ := hcut
  rw [hw]
  clear hw k1 k2
  replace hm := Lib.hid hm
  go_upto_region 2 with fail
  have hpc : (m = false) ∨ (m = true ∧ decide (c.issuer.xs = d.subject.xs) = false) ∨ (m = true ∧ decide (c.issuer.xs = d.subject.xs) = true) := by cases m <;> cases decide (c.issuer.xs = d.subject.xs) <;> simp
  obtain ⟨vv, hvv⟩ : ∃ v, v = verB d.key.xs d.e (digest c.tbs.xs) c.sig.xs := ⟨_, rfl⟩
  have hdl := digest_length c.tbs.xs
  have hdm := digest_lim c.tbs.xs
  rcases hpc with rfl | ⟨rfl, d2⟩ | ⟨rfl, d2⟩
  ·skip
   have hd0 : Below w0.heap.size w0 w0.drew := below_drewN (Below.refl _ _) 1
   refine wp_region_steps (by kernel_rfl) (fun i => if i = 18 then 4 else 19 + i) (fun i v W => Sp ((chsT g0 gb c d false false vv) i) v W) (fun W => Below w0.heap.size w0 W) (by kernel_rfl) (by kernel_rfl) ?inj ?lt (fun i v W W' h hs => h.mono hs) hd0 ⟨?s0, ?s1, ?s2, ?s3, ?s4, ?s5, ?s6, ?s7, ?s8, ?s9, ?s10, ?s11, ?s12, ?s13, ?s14, ?s15, ?s16, ?s17, ?s18, trivial⟩ ?fin
   case inj =>
    intro i j hi hj h
    have h40 : i < 19 ∧ j < 19 := ⟨hi, hj⟩
    have h : (if i = 18 then 4 else 19 + i) = (if j = 18 then 4 else 19 + j) := h
    (repeat' split at h) <;> omega
   case lt =>
    intro i hi
    have h40 : i < 19 := hi
    show (if i = 18 then 4 else 19 + i) < 37
    (repeat' split) <;> omega
   case s0 => exact (st_move rfl (.inl rfl) (src_base (fun i hi => by have hi : i < 19 := hi; show (if i = 18 then 4 else 19 + i) ≠ _; (repeat' split) <;> omega) rfl))
   case s1 => exact (st_move rfl (.inl rfl) (src_dep (j := 0) (e := ⟨0, .data⟩) (by simp) rfl rfl rfl))
   case s2 => exact (st_skip (j := 1) (b := true) (c := false) (e := ⟨1, .guard⟩) rfl (by simp) rfl rfl rfl (by decide) rfl rfl)
   case s3 => exact (st_skip (j := 1) (b := true) (c := false) (e := ⟨1, .guard⟩) rfl (by simp) rfl rfl rfl (by decide) rfl rfl)
   case s4 => exact (st_skip (j := 1) (b := true) (c := false) (e := ⟨1, .guard⟩) rfl (by simp) rfl rfl rfl (by decide) rfl rfl)
   case s5 => exact (st_skip (j := 1) (b := true) (c := false) (e := ⟨1, .guard⟩) rfl (by simp) rfl rfl rfl (by decide) rfl rfl)
   case s6 => exact (st_skip (j := 1) (b := true) (c := false) (e := ⟨1, .guard⟩) rfl (by simp) rfl rfl rfl (by decide) rfl rfl)
   case s7 => exact (st_pick_no rfl rfl (src_dep (j := 1) (e := ⟨1, .data⟩) (by simp) rfl rfl rfl) src_const)
   case s8 => exact (st_move rfl (.inl rfl) (src_dep (j := 7) (e := ⟨7, .data⟩) (by simp) rfl rfl rfl))
   case s9 => exact (st_skip (j := 8) (b := true) (c := false) (e := ⟨8, .guard⟩) rfl (by simp) rfl rfl rfl (by decide) rfl rfl)
   case s10 => exact (st_skip (j := 8) (b := true) (c := false) (e := ⟨8, .guard⟩) rfl (by simp) rfl rfl rfl (by decide) rfl rfl)
   case s11 => exact (st_skip (j := 8) (b := true) (c := false) (e := ⟨8, .guard⟩) rfl (by simp) rfl rfl rfl (by decide) rfl rfl)
   case s12 => exact (st_skip (j := 8) (b := true) (c := false) (e := ⟨8, .guard⟩) rfl (by simp) rfl rfl rfl (by decide) rfl rfl)
   case s13 => exact (st_skip (j := 8) (b := true) (c := false) (e := ⟨8, .guard⟩) rfl (by simp) rfl rfl rfl (by decide) rfl rfl)
   case s14 => exact (st_skip (j := 8) (b := true) (c := false) (e := ⟨8, .guard⟩) rfl (by simp) rfl rfl rfl (by decide) rfl rfl)
   case s15 => exact (st_skip (j := 8) (b := true) (c := false) (e := ⟨8, .guard⟩) rfl (by simp) rfl rfl rfl (by decide) rfl rfl)
   case s16 => exact (st_skip (j := 8) (b := true) (c := false) (e := ⟨8, .guard⟩) rfl (by simp) rfl rfl rfl (by decide) rfl rfl)
   case s17 => exact (st_pick_no rfl rfl (src_dep (j := 8) (e := ⟨8, .data⟩) (by simp) rfl rfl rfl) src_const)
   case s18 => exact (st_move rfl (.inr rfl) (src_dep (j := 17) (e := ⟨17, .data⟩) (by simp) rfl rfl rfl))
   case fin =>
    intro a W h1 h2 h3 h4 h5
    have b4 : a.tmps.getD 4 undef = .bool false := (h4 18 (by show 18 < 19; omega)).now
    have hz : a.tmps.size = 37 := h2
    have hdf : a.defers = [] := h1
    have b0 := h3 0 (fun i hi => by have h8 : i < 19 := hi; show (if i = 18 then 4 else 19 + i) ≠ 0; (repeat' split) <;> omega)
    replace b0 : a.tmps.getD 0 undef = .agg c.cells.toArray := b0
    rw [act_eq hz hdf]
    simp only [show List.range 37 = [0, 1, 2, 3, 4, 5, 6, 7, 8, 9, 10, 11, 12, 13, 14, 15, 16, 17, 18, 19, 20, 21, 22, 23, 24, 25, 26, 27, 28, 29, 30, 31, 32, 33, 34, 35, 36] from rfl, List.map_cons, List.map_nil, b0, b4]
    clear b0 b4 hz hdf h1 h2 h3 h4
    go_wp2_with fail
    go_ret
    rw [hsg.out]
    exact ⟨rfl, hE.trans (h5.mono hE.size)⟩
  ·skip
   have hd0 : Below w0.heap.size w0 w0.drew := below_drewN (Below.refl _ _) 1
   refine wp_region_steps (by kernel_rfl) (fun i => if i = 18 then 4 else 19 + i) (fun i v W => Sp ((chsT g0 gb c d true false vv) i) v W) (fun W => Below w0.heap.size w0 W) (by kernel_rfl) (by kernel_rfl) ?inj ?lt (fun i v W W' h hs => h.mono hs) hd0 ⟨?s0, ?s1, ?s2, ?s3, ?s4, ?s5, ?s6, ?s7, ?s8, ?s9, ?s10, ?s11, ?s12, ?s13, ?s14, ?s15, ?s16, ?s17, ?s18, trivial⟩ ?fin
   case inj =>
    intro i j hi hj h
    have h40 : i < 19 ∧ j < 19 := ⟨hi, hj⟩
    have h : (if i = 18 then 4 else 19 + i) = (if j = 18 then 4 else 19 + j) := h
    (repeat' split at h) <;> omega
   case lt =>
    intro i hi
    have h40 : i < 19 := hi
    show (if i = 18 then 4 else 19 + i) < 37
    (repeat' split) <;> omega
   case s0 => exact (st_move rfl (.inl rfl) (src_base (fun i hi => by have hi : i < 19 := hi; show (if i = 18 then 4 else 19 + i) ≠ _; (repeat' split) <;> omega) rfl))
   case s1 => exact (st_move rfl (.inl rfl) (src_dep (j := 0) (e := ⟨0, .data⟩) (by simp) rfl rfl rfl))
   case s2 => exact (st_guard (j := 1) (b := true) (e := ⟨1, .guard⟩) rfl (by simp) rfl rfl rfl rfl (st_field rfl rfl rfl (src_base (fun i hi => by have hi : i < 19 := hi; show (if i = 18 then 4 else 19 + i) ≠ _; (repeat' split) <;> omega) rfl) (fun W => fa_cert2 g0 0 W)))
   case s3 => exact (st_guard (j := 1) (b := true) (e := ⟨1, .guard⟩) rfl (by simp) rfl rfl rfl rfl (st_load rfl rfl rfl (src_dep (j := 2) (e := ⟨2, .data⟩) (by simp) rfl rfl rfl) (ld_u8s _ _) (fun W h => (h.cell (p := ⟨g0, 2, none⟩) B0.1).trans (B0.at_ (i := 2) rfl rfl))))
   case s4 => exact (st_guard (j := 1) (b := true) (e := ⟨1, .guard⟩) rfl (by simp) rfl rfl rfl rfl (st_field rfl rfl rfl (src_base (fun i hi => by have hi : i < 19 := hi; show (if i = 18 then 4 else 19 + i) ≠ _; (repeat' split) <;> omega) rfl) (fun W => fa_cert3 gb 0 W)))
   case s5 => exact (st_guard (j := 1) (b := true) (e := ⟨1, .guard⟩) rfl (by simp) rfl rfl rfl rfl (st_load rfl rfl rfl (src_dep (j := 4) (e := ⟨4, .data⟩) (by simp) rfl rfl rfl) (ld_u8s _ _) (fun W h => (h.cell (p := ⟨gb, 3, none⟩) B1.1).trans (B1.at_ (i := 3) rfl rfl))))
   case s6 => exact (st_guard (j := 1) (b := true) (e := ⟨1, .guard⟩) rfl (by simp) rfl rfl rfl rfl (st_call rfl (fun a W => run_call rfl cf_eq a W) (fun a W hb hd h => by
     have h1 : a.eval (.tmp 22) = .slice c.issuer.A c.issuer.xs.length c.issuer.c := (hd ⟨3, .data⟩ (by simp) rfl).now
     have h2 : a.eval (.tmp 24) = .slice d.subject.A d.subject.xs.length d.subject.c := (hd ⟨5, .data⟩ (by simp) rfl).now
     simp only [List.map_toArray, List.map_cons, List.map_nil, h1, h2]
     refine (slEq_any c.issuer.A d.subject.A _ _ c.issuer.c d.subject.c c.issuer.xs d.subject.xs W rfl rfl co.issuer.len (co.issuer.below h).rd (so.subject.below h).rd).mono ?_
     rintro e W' ⟨rfl, n, rfl⟩
     exact ⟨_, rfl, below_drewN (Below.refl _ _) n, by rw [d2]; exact Sp.tv rfl⟩)))
   case s7 => exact (st_pick rfl rfl (src_dep (j := 1) (e := ⟨1, .data⟩) (by simp) rfl rfl rfl) (src_dep (j := 6) (e := ⟨6, .data⟩) (by simp) rfl rfl rfl))
   case s8 => exact (st_move rfl (.inl rfl) (src_dep (j := 7) (e := ⟨7, .data⟩) (by simp) rfl rfl rfl))
   case s9 => exact (st_skip (j := 8) (b := true) (c := false) (e := ⟨8, .guard⟩) rfl (by simp) rfl rfl rfl (by decide) rfl rfl)
   case s10 => exact (st_skip (j := 8) (b := true) (c := false) (e := ⟨8, .guard⟩) rfl (by simp) rfl rfl rfl (by decide) rfl rfl)
   case s11 => exact (st_skip (j := 8) (b := true) (c := false) (e := ⟨8, .guard⟩) rfl (by simp) rfl rfl rfl (by decide) rfl rfl)
   case s12 => exact (st_skip (j := 8) (b := true) (c := false) (e := ⟨8, .guard⟩) rfl (by simp) rfl rfl rfl (by decide) rfl rfl)
   case s13 => exact (st_skip (j := 8) (b := true) (c := false) (e := ⟨8, .guard⟩) rfl (by simp) rfl rfl rfl (by decide) rfl rfl)
   case s14 => exact (st_skip (j := 8) (b := true) (c := false) (e := ⟨8, .guard⟩) rfl (by simp) rfl rfl rfl (by decide) rfl rfl)
   case s15 => exact (st_skip (j := 8) (b := true) (c := false) (e := ⟨8, .guard⟩) rfl (by simp) rfl rfl rfl (by decide) rfl rfl)
   case s16 => exact (st_skip (j := 8) (b := true) (c := false) (e := ⟨8, .guard⟩) rfl (by simp) rfl rfl rfl (by decide) rfl rfl)
   case s17 => exact (st_pick_no rfl rfl (src_dep (j := 8) (e := ⟨8, .data⟩) (by simp) rfl rfl rfl) src_const)
   case s18 => exact (st_move rfl (.inr rfl) (src_dep (j := 17) (e := ⟨17, .data⟩) (by simp) rfl rfl rfl))
   case fin =>
    intro a W h1 h2 h3 h4 h5
    have b4 : a.tmps.getD 4 undef = .bool false := (h4 18 (by show 18 < 19; omega)).now
    have hz : a.tmps.size = 37 := h2
    have hdf : a.defers = [] := h1
    have b0 := h3 0 (fun i hi => by have h8 : i < 19 := hi; show (if i = 18 then 4 else 19 + i) ≠ 0; (repeat' split) <;> omega)
    replace b0 : a.tmps.getD 0 undef = .agg c.cells.toArray := b0
    rw [act_eq hz hdf]
    simp only [show List.range 37 = [0, 1, 2, 3, 4, 5, 6, 7, 8, 9, 10, 11, 12, 13, 14, 15, 16, 17, 18, 19, 20, 21, 22, 23, 24, 25, 26, 27, 28, 29, 30, 31, 32, 33, 34, 35, 36] from rfl, List.map_cons, List.map_nil, b0, b4]
    clear b0 b4 hz hdf h1 h2 h3 h4
    go_wp2_with fail
    go_ret
    rw [hsg.out]
    exact ⟨by rw [d2]; rfl, hE.trans (h5.mono hE.size)⟩
  ·skip
   have hd0 : Below w0.heap.size w0 w0.drew := below_drewN (Below.refl _ _) 1
   refine wp_region_steps (by kernel_rfl) (fun i => if i = 18 then 4 else 19 + i) (fun i v W => Sp ((chsT g0 gb c d true true vv) i) v W) (fun W => Below w0.heap.size w0 W) (by kernel_rfl) (by kernel_rfl) ?inj ?lt (fun i v W W' h hs => h.mono hs) hd0 ⟨?s0, ?s1, ?s2, ?s3, ?s4, ?s5, ?s6, ?s7, ?s8, ?s9, ?s10, ?s11, ?s12, ?s13, ?s14, ?s15, ?s16, ?s17, ?s18, trivial⟩ ?fin
   case inj =>
    intro i j hi hj h
    have h40 : i < 19 ∧ j < 19 := ⟨hi, hj⟩
    have h : (if i = 18 then 4 else 19 + i) = (if j = 18 then 4 else 19 + j) := h
    (repeat' split at h) <;> omega
   case lt =>
    intro i hi
    have h40 : i < 19 := hi
    show (if i = 18 then 4 else 19 + i) < 37
    (repeat' split) <;> omega
   case s0 => exact (st_move rfl (.inl rfl) (src_base (fun i hi => by have hi : i < 19 := hi; show (if i = 18 then 4 else 19 + i) ≠ _; (repeat' split) <;> omega) rfl))
   case s1 => exact (st_move rfl (.inl rfl) (src_dep (j := 0) (e := ⟨0, .data⟩) (by simp) rfl rfl rfl))
   case s2 => exact (st_guard (j := 1) (b := true) (e := ⟨1, .guard⟩) rfl (by simp) rfl rfl rfl rfl (st_field rfl rfl rfl (src_base (fun i hi => by have hi : i < 19 := hi; show (if i = 18 then 4 else 19 + i) ≠ _; (repeat' split) <;> omega) rfl) (fun W => fa_cert2 g0 0 W)))
   case s3 => exact (st_guard (j := 1) (b := true) (e := ⟨1, .guard⟩) rfl (by simp) rfl rfl rfl rfl (st_load rfl rfl rfl (src_dep (j := 2) (e := ⟨2, .data⟩) (by simp) rfl rfl rfl) (ld_u8s _ _) (fun W h => (h.cell (p := ⟨g0, 2, none⟩) B0.1).trans (B0.at_ (i := 2) rfl rfl))))
   case s4 => exact (st_guard (j := 1) (b := true) (e := ⟨1, .guard⟩) rfl (by simp) rfl rfl rfl rfl (st_field rfl rfl rfl (src_base (fun i hi => by have hi : i < 19 := hi; show (if i = 18 then 4 else 19 + i) ≠ _; (repeat' split) <;> omega) rfl) (fun W => fa_cert3 gb 0 W)))
   case s5 => exact (st_guard (j := 1) (b := true) (e := ⟨1, .guard⟩) rfl (by simp) rfl rfl rfl rfl (st_load rfl rfl rfl (src_dep (j := 4) (e := ⟨4, .data⟩) (by simp) rfl rfl rfl) (ld_u8s _ _) (fun W h => (h.cell (p := ⟨gb, 3, none⟩) B1.1).trans (B1.at_ (i := 3) rfl rfl))))
   case s6 => exact (st_guard (j := 1) (b := true) (e := ⟨1, .guard⟩) rfl (by simp) rfl rfl rfl rfl (st_call rfl (fun a W => run_call rfl cf_eq a W) (fun a W hb hd h => by
     have h1 : a.eval (.tmp 22) = .slice c.issuer.A c.issuer.xs.length c.issuer.c := (hd ⟨3, .data⟩ (by simp) rfl).now
     have h2 : a.eval (.tmp 24) = .slice d.subject.A d.subject.xs.length d.subject.c := (hd ⟨5, .data⟩ (by simp) rfl).now
     simp only [List.map_toArray, List.map_cons, List.map_nil, h1, h2]
     refine (slEq_any c.issuer.A d.subject.A _ _ c.issuer.c d.subject.c c.issuer.xs d.subject.xs W rfl rfl co.issuer.len (co.issuer.below h).rd (so.subject.below h).rd).mono ?_
     rintro e W' ⟨rfl, n, rfl⟩
     exact ⟨_, rfl, below_drewN (Below.refl _ _) n, by rw [d2]; exact Sp.tv rfl⟩)))
   case s7 => exact (st_pick rfl rfl (src_dep (j := 1) (e := ⟨1, .data⟩) (by simp) rfl rfl rfl) (src_dep (j := 6) (e := ⟨6, .data⟩) (by simp) rfl rfl rfl))
   case s8 => exact (st_move rfl (.inl rfl) (src_dep (j := 7) (e := ⟨7, .data⟩) (by simp) rfl rfl rfl))
   case s9 => exact (st_guard (j := 8) (b := true) (e := ⟨8, .guard⟩) rfl (by simp) rfl rfl rfl rfl (st_field rfl rfl rfl (src_base (fun i hi => by have hi : i < 19 := hi; show (if i = 18 then 4 else 19 + i) ≠ _; (repeat' split) <;> omega) rfl) (fun W => fa_cert7 gb 0 W)))
   case s10 => exact (st_guard (j := 8) (b := true) (e := ⟨8, .guard⟩) rfl (by simp) rfl rfl rfl rfl (st_loadR (b := gb) (off := 17) rfl rfl rfl (src_dep (j := 9) (e := ⟨9, .data⟩) (by simp) rfl rfl rfl) Tryz.underlying28 rfl size_key (fun W h => key_rng (B1.below h))))
   case s11 => exact (st_guard (j := 8) (b := true) (e := ⟨8, .guard⟩) rfl (by simp) rfl rfl rfl rfl (st_field rfl rfl rfl (src_base (fun i hi => by have hi : i < 19 := hi; show (if i = 18 then 4 else 19 + i) ≠ _; (repeat' split) <;> omega) rfl) (fun W => fa_cert1 g0 0 W)))
   case s12 => exact (st_guard (j := 8) (b := true) (e := ⟨8, .guard⟩) rfl (by simp) rfl rfl rfl rfl (st_load rfl rfl rfl (src_dep (j := 11) (e := ⟨11, .data⟩) (by simp) rfl rfl rfl) (ld_u8s _ _) (fun W h => (h.cell (p := ⟨g0, 1, none⟩) B0.1).trans (B0.at_ (i := 1) rfl rfl))))
   case s13 => exact (st_guard (j := 8) (b := true) (e := ⟨8, .guard⟩) rfl (by simp) rfl rfl rfl rfl (st_call rfl (fun a W => run_call rfl cf_shasum a W) (fun a W hb hd h => by
     have h1 : a.eval (.tmp 31) = .slice c.tbs.A c.tbs.xs.length c.tbs.c := (hd ⟨12, .data⟩ (by simp) rfl).now
     simp only [List.map_toArray, List.map_cons, List.map_nil, h1]
     refine (shaSum_any c.tbs.A _ c.tbs.c c.tbs.xs W rfl hl (co.tbs.below h).rd co.tbs.lim).mono ?_
     rintro e W' ⟨rfl, q⟩
     exact ⟨_, rfl, q, Sp.tv rfl⟩)))
   case s14 => exact (st_guard (j := 8) (b := true) (e := ⟨8, .guard⟩) rfl (by simp) rfl rfl rfl rfl (st_field rfl rfl rfl (src_base (fun i hi => by have hi : i < 19 := hi; show (if i = 18 then 4 else 19 + i) ≠ _; (repeat' split) <;> omega) rfl) (fun W => fa_cert8 g0 0 W)))
   case s15 => exact (st_guard (j := 8) (b := true) (e := ⟨8, .guard⟩) rfl (by simp) rfl rfl rfl rfl (st_load rfl rfl rfl (src_dep (j := 14) (e := ⟨14, .data⟩) (by simp) rfl rfl rfl) (ld_u8s _ _) (fun W h => (h.cell (p := ⟨g0, 19, none⟩) B0.1).trans (B0.at_ (i := 19) rfl rfl))))
   case s16 => exact (st_guard (j := 8) (b := true) (e := ⟨8, .guard⟩) rfl (by simp) rfl rfl rfl rfl (st_call rfl (fun a W => run_call rfl cf_ver a W) (fun a W hb hd h => by
     have h1 : a.eval (.tmp 29) = .agg (#[.slice d.key.A d.key.xs.length d.key.c, .int .u64 (d.e : Int)] : Array Value) := (hd ⟨10, .data⟩ (by simp) rfl).now
     have h2 : a.eval (.tmp 32) = .agg (ints .u8 (digest c.tbs.xs)).toArray := (hd ⟨13, .data⟩ (by simp) rfl).now
     have h3 : a.eval (.tmp 34) = .slice c.sig.A c.sig.xs.length c.sig.c := (hd ⟨15, .data⟩ (by simp) rfl).now
     simp only [List.map_toArray, List.map_cons, List.map_nil, h1, h2, h3]
     have hq := verify_any d.key.A c.sig.A d.key.xs.length d.key.c d.e c.sig.xs.length c.sig.c d.key.xs (digest c.tbs.xs) c.sig.xs W rfl rfl hk co.sig.len (so.key.below h).rd (co.sig.below h).rd so.key.lim co.sig.lim hdl hdm so.e
     rw [show keyVal d.key.A d.key.xs.length d.key.c d.e = .agg #[.slice d.key.A d.key.xs.length d.key.c, .int .u64 (d.e : Int)] from rfl] at hq
     refine hq.mono ?_
     rintro e W' ⟨rfl, q⟩
     exact ⟨_, rfl, q, by rw [← hvv]; exact Sp.tv rfl⟩)))
   case s17 => exact (st_pick rfl rfl (src_dep (j := 8) (e := ⟨8, .data⟩) (by simp) rfl rfl rfl) (src_dep (j := 16) (e := ⟨16, .data⟩) (by simp) rfl rfl rfl))
   case s18 => exact (st_move rfl (.inr rfl) (src_dep (j := 17) (e := ⟨17, .data⟩) (by simp) rfl rfl rfl))
   case fin =>
    intro a W h1 h2 h3 h4 h5
    have b4 : a.tmps.getD 4 undef = .bool vv := (h4 18 (by show 18 < 19; omega)).now
    have hz : a.tmps.size = 37 := h2
    have hdf : a.defers = [] := h1
    have b0 := h3 0 (fun i hi => by have h8 : i < 19 := hi; show (if i = 18 then 4 else 19 + i) ≠ 0; (repeat' split) <;> omega)
    replace b0 : a.tmps.getD 0 undef = .agg c.cells.toArray := b0
    rw [act_eq hz hdf]
    simp only [show List.range 37 = [0, 1, 2, 3, 4, 5, 6, 7, 8, 9, 10, 11, 12, 13, 14, 15, 16, 17, 18, 19, 20, 21, 22, 23, 24, 25, 26, 27, 28, 29, 30, 31, 32, 33, 34, 35, 36] from rfl, List.map_cons, List.map_nil, b0, b4]
    clear b0 b4 hz hdf h1 h2 h3 h4
    go_wp2_with fail
    go_ret
    rw [hsg.out]
    exact ⟨by rw [d2, ← hvv]; rfl, hE.trans (h5.mono hE.size)⟩
end Go.Proofs.YtchaahnhpeoomaaGreat
