/-
  SignerNone: a signer none of whose certificates is there is not right, nor is one that is not there.
-/
import Derived.Test.YtchaahnhpeoomaaGreatPSgLa
namespace Go.Proofs.YtchaahnhpeoomaaGreat
set_option linter.unusedVariables false
set_option linter.unusedSimpArgs false
set_option maxRecDepth 20000
open Go.RowKit
def fitT (g0 gb gc o1 gs o2 : Nat) (vC vS : Value) (i k : Int) (c : Crt) (s : Sgn) (e1 e2 : Bool) : Nat → Tg
  | 0 => tv (.pointer (some ⟨g0, 2, none⟩))
  | 1 => tv vC
  | 2 => tv (.int .i64 i)
  | 3 => tv (.pointer (some ⟨gc, o1, none⟩))
  | 4 => tv (.pointer (some ⟨gc, o1 + 2, none⟩))
  | 5 => tv (.slice c.issuer.A c.issuer.xs.length c.issuer.c)
  | 6 => tv (.pointer (some ⟨g0, 3, none⟩))
  | 7 => tv vS
  | 8 => tv (.pointer (some ⟨gb, 0, none⟩))
  | 9 => tv (.int .i64 k)
  | 10 => tv (.pointer (some ⟨gs, o2, none⟩))
  | 11 => tv (.pointer (some ⟨gs, o2, none⟩))
  | 12 => tv (.slice s.issuer.A s.issuer.xs.length s.issuer.c)
  | 13 => tv (.bool e1)
  | 14 => tv (.bool e1)
  | 29 => tv (.bool (e1 && e2))
  | n => match e1 with
    | false => fun _ _ => True
    | true => match n with
      | 15 => tv (.pointer (some ⟨g0, 2, none⟩))
      | 16 => tv vC
      | 17 => tv (.int .i64 i)
      | 18 => tv (.pointer (some ⟨gc, o1, none⟩))
      | 19 => tv (.pointer (some ⟨gc, o1 + 4, none⟩))
      | 20 => tv (.slice c.serial.A c.serial.xs.length c.serial.c)
      | 21 => tv (.pointer (some ⟨g0, 3, none⟩))
      | 22 => tv vS
      | 23 => tv (.pointer (some ⟨gb, 0, none⟩))
      | 24 => tv (.int .i64 k)
      | 25 => tv (.pointer (some ⟨gs, o2, none⟩))
      | 26 => tv (.pointer (some ⟨gs, o2 + 1, none⟩))
      | 27 => tv (.slice s.serial.A s.serial.xs.length s.serial.c)
      | _ => tv (.bool e2)
theorem wpList_build_if {P : Program} {ops : Array Oper} {rest : List Oper} {o : Oper} {a : Act} {w : World} {Q : Exit → Act → World → Prop} (t : TypeId) (parts : Array (Nat × Operand)) (ho : o.op = .build t parts)
    (cs : List Value) (hf : P.built t (parts.map fun (i, x) => (i, a.eval x)).toList = some cs.toArray) (hgd : Region.wanted o (yielded ops a.tmps) = true)
    (h : wpList P ops Q rest (a.put o.dst (.agg cs.toArray)) w) : wpList P ops Q (o :: rest) a w :=
  wpList_step fun K hK => by
    rw [if_pos hgd]
    unfold Oper.wp execOp
    simp only [ho, Sem.run_bind, Sem.run_pure, run_build w t _ cs.toArray hf, Result.andThen_ok]
    exact hK _ _ h
theorem fa_ask0 (g off : Nat) (W : World) : (Instr.fieldAt 51 (.pointer (some ⟨g, off, none⟩)) 0).run Tryz.prog W = .ok (.pointer (some ⟨g, off, none⟩)) W := by go_simp
set_option maxRecDepth 100000 in
set_option maxHeartbeats 30000000 in
theorem sgNone_any (x0 : SIn) (x1 : Int × Sl × List Nat) (w : World) (q0 : QSigned w x0) (q1 : QAsk w x1) : Calls Tryz.prog 8 #[.agg (CSigned x0).toArray, .agg (CAsk x1).toArray] w (Yes w) := by
  obtain ⟨K, kd, ds⟩ := x1
  obtain ⟨hK, hkd, n2, l2⟩ := q1
  simp only at hK hkd n2 l2
  replace n2 := Lib.hid n2
  obtain ⟨kA, kc0, kx⟩ := kd
  obtain ⟨L0, hL0⟩ : ∃ L, L = CSigned x0 := ⟨_, rfl⟩
  obtain ⟨L1, hL1⟩ : ∃ L, L = CAsk (K, ⟨kA, kc0, kx⟩, ds) := ⟨_, rfl⟩
  rw [← hL0, ← hL1]
  replace hL0 := Lib.hid hL0
  replace hL1 := Lib.hid hL1
  obtain ⟨g0, hg0⟩ : ∃ g, g = w.heap.size := ⟨_, rfl⟩
  obtain ⟨u0, hu0⟩ : ∃ u, u = w.alloc (.cells L0.toArray 48) := ⟨_, rfl⟩
  obtain ⟨w0, hw0⟩ : ∃ u, u = u0.alloc (.cells L1.toArray 51) := ⟨_, rfl⟩
  obtain ⟨gb, hgb⟩ : ∃ g, g = w.heap.size + 1 := ⟨_, rfl⟩
  have hu1 : u0.heap.size = gb := by rw [hu0, hgb]; simp
  have eu : Below w.heap.size w u0 := by rw [hu0]; exact (Below.refl _ _).alloc (Nat.le_refl _) _
  have ev : Below u0.heap.size u0 w0 := by rw [hw0]; exact (Below.refl _ _).alloc (Nat.le_refl _) _
  have hE : Below w.heap.size w w0 := eu.trans (ev.mono eu.size)
  have B0 : Cut u0 g0 0 L0 := by rw [hu0, hg0]; exact Cut.of_heap (heap_alloc_new _ _) fun i v hv => by simpa using hv
  replace B0 := B0.below ev
  have B1 : Cut w0 gb 0 L1 := by rw [hw0, ← hu1]; exact Cut.of_heap (heap_alloc_new _ _) fun i v hv => by simpa using hv
  go_enter Tryz.func8, Tryz.ntmps8
  go_upto_region 1 with fail
  refine wp_world (W' := w0) (by rw [hw0, hu0]) ?_
  rw [← hgb, ← hg0]
  clear hw0 hu0 eu ev hu1
  have hbb : gb = g0 + 1 := by rw [hgb, hg0]
  replace hgb := Lib.hid hgb
  replace hbb := Lib.hid hbb
  replace hg0 := Lib.hid hg0
  have lt0 : w.heap.size ≤ g0 := Nat.le_of_eq hg0.out.symm
  have lc : (Tryz.prog.info? 48).map (·.size) = some L0.length := by rw [hL0.out]; exact sz_sgd
  replace B0 : Row w0 g0 0 L0 := Row.of_cut B0
  obtain ⟨R1, R3⟩ := (show Row w0 gb 0 ([.int .i64 K, .slice kA kx.length kc0] ++ ints .u8 ds) by have q := Row.of_cut B1; rw [hL1.out] at q; simpa [CAsk, Sl.val] using q).split
  replace R3 : Row w0 gb 2 (ints .u8 ds) := R3
  have q0' := q0.below hE
  have hkd' := hkd.below hE
  clear B1
  go_wp2_with ((with_reducible refine wpList_load_mid ?_ 48 (.tmp 2) ?_ g0 0 ?_ L0 _ B0.rng Tryz.underlying48 ?_ lc ?_); (· rfl); (· rfl); (· rfl); (· rfl))
  rw [show (Value.agg L0.toArray) = .agg (CSigned x0).toArray by rw [hL0.out]]
  refine (large15_any x0 w0 q0').mono ?_
  rintro r1 w1 ⟨big, rfl, hsm, b⟩
  replace B0 := B0.below b
  replace R1 := R1.below b
  replace R3 := R3.below b
  replace q0' := q0'.below b
  replace hkd' := hkd'.below b
  replace hE := hE.trans (b.mono hE.size)
  clear b
  cases big
  case true =>
    go_wp2_with fail
    refine (works15_any _).mono ?_
    rintro r w' ⟨rfl, b⟩
    go_wp2_with fail
    go_ret
    exact ⟨rfl, hE.trans (b.mono hE.size)⟩
  case false =>
    have hsm := hsm rfl
    obtain ⟨gc, oc, gs, os, M⟩ := smem_of_in q0' hsm (by have := B0.1; omega)
    obtain ⟨cs, hcs⟩ : ∃ l, l = x0.cs := ⟨_, rfl⟩
    obtain ⟨ss, hss⟩ : ∃ l, l = x0.ss := ⟨_, rfl⟩
    obtain ⟨G, hG⟩ : ∃ G, G = x0.G := ⟨_, rfl⟩
    rw [← hcs, ← hss, ← hG] at M
    replace B0 : Row w1 g0 0 G.cells := by rw [hG, show x0.G.cells = CSigned x0 from rfl, ← hL0.out]; exact B0
    have s1 : cs.length ≤ 20 := by rw [hcs]; exact hsm.1
    have s2 : ss.length ≤ 20 := by rw [hss]; exact hsm.2.1
    replace hG := Lib.hid hG
    clear hcs hss hsm lc q0'
    have hcn := M.cn
    have hsn := M.sn
    have k2 : w1.cell? ⟨g0, 2, none⟩ = some (.slice G.CA cs.length G.cc) := by have q := B0.at_ (i := 2) (o' := 2) (v := .slice G.CA G.cn G.cc) rfl rfl; rwa [hcn] at q
    have k3 : w1.cell? ⟨g0, 3, none⟩ = some (.slice G.SA ss.length G.sc) := by have q := B0.at_ (i := 3) (o' := 3) (v := .slice G.SA G.sn G.sc) rfl rfl; rwa [hsn] at q
    have kK : w1.cell? ⟨gb, 0, none⟩ = some (.int .i64 K) := R1.at_ (i := 0) rfl rfl
    replace hcn := Lib.hid hcn
    replace hsn := Lib.hid hsn
    obtain ⟨th, hth⟩ : ∃ th : Bool, th = (decide (0 ≤ K) && decide (K < (ss.length : Int))) := ⟨_, rfl⟩
    replace hth := Lib.hid hth
    go_upto_region 3 with fail
    go_cut [5] from 12 to 22 (fun s5 wx => s5 = .bool th ∧ wx = w1)
    case first =>
      have hc : K < 0 ∨ (0 ≤ K ∧ ¬ K < 0 ∧ ¬ K < (ss.length : Int)) ∨ (0 ≤ K ∧ ¬ K < 0 ∧ K < (ss.length : Int)) := by omega
      rcases hc with z | ⟨z, z2, z3⟩ | ⟨z, z2, z3⟩
      · have z4 : ¬ 0 ≤ K := by omega
        go_wp2_with fail
        go_meet
        case rel => exact ⟨congrArg Value.bool (by rw [hth.out]; first | (simp; done) | (simp; omega)), rfl⟩
      · go_wp2_with fail
        go_meet
        case rel => exact ⟨congrArg Value.bool (by rw [hth.out]; first | (simp; done) | (simp; omega)), rfl⟩
      · go_wp2_with fail
        go_meet
        case rel => exact ⟨congrArg Value.bool (by rw [hth.out]; first | (simp; done) | (simp; omega)), rfl⟩
    case rest =>
      obtain ⟨rfl, hw⟩ := hcut
      rw [hw]
      clear hw
      go_wp2_with fail
      go_loopw [6] (fun t wr => ∃ ix : Nat, t = .int .i64 (ix : Int) ∧ ix ≤ cs.length ∧ (∀ j c s, j < ix → cs[j]? = some c → ss[K.toNat]? = some s → fitsB s c = false) ∧ Below w1.heap.size w1 wr) (fun t _ => cs.length - (intOf t).toNat)
      case atStart => exact ⟨0, rfl, Nat.zero_le _, fun j c s h => by omega, Below.refl _ _⟩
      case round =>
        obtain ⟨ix, rfl, hi, hno, er⟩ := hrel
        have e2 := (er.cell (p := ⟨g0, 2, none⟩) B0.1).trans k2
        have z6 : (ix : Int) ≤ 20 := by omega
        by_cases hlt : ix < cs.length
        · have z1 : (ix : Int) < (cs.length : Int) := by omega
          cases th
          case false =>
            have hno9 : rightAt cs ss K kx ds = none := by
              have ho := hth.out
              have ho2 : ¬ (0 ≤ K ∧ K < (ss.length : Int)) := fun h => by simp [h.1, h.2] at ho
              unfold rightAt
              split
              · rfl
              · rw [List.getElem?_eq_none (by omega)]
                rfl
            have M9 := M.below er
            have R9 := R3.below er
            have B9 := B0.below er
            have kd9 := hkd'.below er
            have k9a := (er.cell (p := ⟨gb, 0, none⟩) R1.1).trans kK
            have k9b : wr.cell? ⟨gb, 1, none⟩ = some (.slice kA kx.length kc0) := (R1.below er).at_ (i := 1) rfl rfl
            have Q1 := right_mem M9 K (by omega) ⟨kA, kc0, kx⟩ kd9 ds n2.out l2
            rw [hno9] at Q1
            go_wp2_with (first
              | ((with_reducible refine wpList_load_mid ?_ 48 (.tmp 2) ?_ g0 0 ?_ G.cells _ B9.rng Tryz.underlying48 ?_ (sz_sg _) ?_); (· rfl); (· rfl); (· rfl); (· rfl))
              | ((with_reducible refine wpList_load_mid ?_ 49 (.tmp 70) ?_ gb 2 ?_ (ints .u8 ds) _ R9.rng Tryz.underlying49 ?_ (sz_arr n2) ?_); (· rfl); (· rfl); (· rfl); (· rfl)))
            refine Q1.mono ?_
            rintro r w5 ⟨rfl, b5⟩
            go_upto_region 10 with (first
              | ((with_reducible refine wpList_alloc_row ?_ 30 ?_ Crt.none.cells zero_cert ?_); (· rfl); (· rfl); intro gx wa hgx Vx zx ex)
              | ((with_reducible refine wpList_store_cut ?_ 30 (.tmp 7) (.tmp 73) ?_ gx 0 Crt.none.cells _ ?_ ?_ Vx ?_ (sz_crt _) (crt_one _) ?_); (· rfl); (· rfl); (· rfl); (· rfl); (· rfl); intro w6 hst))
            have b6 : Below w5.heap.size w5 w6 := below_only ex hst.1 ex.size (by have := hgx.out; omega)
            have Dx : Row w6 gx 0 Crt.none.cells := Row.of_cut hst.2.2.1
            have yx := Dx.rng
            have hF : Below w.heap.size w w6 := (hE.trans (er.mono hE.size)).trans ((b5.trans (b6.mono b5.size)).mono (Nat.le_trans hE.size er.size))
            clear Vx zx ex hst
            go_wp2_with (first
              | ((with_reducible refine wpList_load_if 30 (.tmp 7) ?_ gx 0 Crt.none.cells _ yx Tryz.underlying30 ?_ (sz_crt _) ?_ ?_ ?_); (· rfl); (· rfl); (· rfl); (· rfl))
              | ((with_reducible refine wpList_build_if 30 #[] ?_ Crt.none.cells ?_ ?_ ?_); (· rfl); (· exact built_cert); (· rfl)))
            refine (sameC_any Crt.none Crt.none w6 (Crt.ok_none _) (Crt.ok_none _)).mono ?_
            rintro r w7 ⟨rfl, b7⟩
            simp only [decide_true]
            clear yx
            go_wp2_with fail
            refine (works15_any _).mono ?_
            rintro r w' ⟨rfl, b⟩
            go_wp2_with fail
            go_ret
            have hF := hF.trans (b7.mono hF.size)
            exact ⟨rfl, hF.trans (b.mono hF.size)⟩
          case true =>
            have hKs : 0 ≤ K ∧ K < (ss.length : Int) := by
              have ho := hth.out
              simpa using ho.symm
            obtain ⟨k, hk⟩ : ∃ k : Nat, K = (k : Int) := ⟨K.toNat, by omega⟩
            subst hk
            have hks : k < ss.length := by omega
            obtain ⟨c, hc⟩ : ∃ c, cs[ix]? = some c := ⟨_, List.getElem?_eq_getElem hlt⟩
            obtain ⟨s, hs⟩ : ∃ s, ss[k]? = some s := ⟨_, List.getElem?_eq_getElem hks⟩
            have hCA := M.cA.resolve_left (by rintro rfl; simp at hlt)
            have hSA := M.sA.resolve_left (by rintro rfl; simp at hks)
            rw [hCA] at k2 e2
            rw [hSA] at k3
            have Rc := crt_row M.cR hc
            have Rs := M.sR k s hs
            have co := M.cok c (List.mem_of_getElem? hc)
            have so := M.sok s (List.mem_of_getElem? hs)
            go_upto_region 7 with fail
            obtain ⟨p2, hp2⟩ : ∃ p, p = decide (c.serial.xs = s.serial.xs) := ⟨_, rfl⟩
            replace hp2 := Lib.hid hp2
            by_cases hp1 : c.issuer.xs = s.issuer.xs
            · have d1 : decide (c.issuer.xs = s.issuer.xs) = true := by simp [hp1]
              have hd0 : Below wr.heap.size wr wr.drew := below_drewN (Below.refl _ _) 1
              refine wp_region_steps (by kernel_rfl) (fun i => 33 + i) (fun i v W => Sp ((fitT g0 gb gc (oc + ix * 24) gs (os + k * 6) (.slice (some ⟨gc, oc, none⟩) cs.length G.cc) (.slice (some ⟨gs, os, none⟩) ss.length G.sc) (ix : Int) (k : Int) c s true p2) i) v W) (fun W => Below wr.heap.size wr W) (by kernel_rfl) (by kernel_rfl) ?inj ?lt (fun i v W W' h hs => h.mono hs) hd0 ⟨?s0, ?s1, ?s2, ?s3, ?s4, ?s5, ?s6, ?s7, ?s8, ?s9, ?s10, ?s11, ?s12, ?s13, ?s14, ?s15, ?s16, ?s17, ?s18, ?s19, ?s20, ?s21, ?s22, ?s23, ?s24, ?s25, ?s26, ?s27, ?s28, ?s29, trivial⟩ ?fin
              case inj =>
                intro i j hi hj h
                have h40 : i < 30 ∧ j < 30 := ⟨hi, hj⟩
                have h : 33 + i = 33 + j := h
                omega
              case lt =>
                intro i hi
                have h40 : i < 30 := hi
                show 33 + i < 85
                omega
              case s0 => exact (st_field rfl rfl rfl (src_base (fun i hi => by have hi : i < 30 := hi; show 33 + i ≠ _; omega) rfl) (fun W => fa_sgd2 g0 0 W))
              case s1 => exact (st_load rfl rfl rfl (src_dep (j := 0) (e := ⟨0, .data⟩) (by simp) rfl rfl rfl) (ld_certs _ _) (fun W h => ((er.trans (h.mono er.size)).cell (p := ⟨g0, 2, none⟩) B0.1).trans k2))
              case s2 => exact (st_move rfl (.inl rfl) (src_base (fun i hi => by have hi : i < 30 := hi; show 33 + i ≠ _; omega) rfl))
              case s3 => exact (st_index rfl rfl rfl (src_dep (j := 1) (e := ⟨1, .data⟩) (by simp) rfl rfl rfl) (src_dep (j := 2) (e := ⟨2, .data⟩) (by simp) rfl rfl rfl) (fun W => ia_cert gc oc cs.length G.cc ix hlt W))
              case s4 => exact (st_field rfl rfl rfl (src_dep (j := 3) (e := ⟨3, .data⟩) (by simp) rfl rfl rfl) (fun W => fa_cert2 gc (oc + ix * 24) W))
              case s5 => exact (st_load rfl rfl rfl (src_dep (j := 4) (e := ⟨4, .data⟩) (by simp) rfl rfl rfl) (ld_u8s _ _) (fun W h => ((er.trans (h.mono er.size)).cell (p := ⟨gc, oc + ix * 24 + 2, none⟩) Rc.1).trans (Rc.at_ (i := 2) rfl rfl)))
              case s6 => exact (st_field rfl rfl rfl (src_base (fun i hi => by have hi : i < 30 := hi; show 33 + i ≠ _; omega) rfl) (fun W => fa_sgd3 g0 0 W))
              case s7 => exact (st_load rfl rfl rfl (src_dep (j := 6) (e := ⟨6, .data⟩) (by simp) rfl rfl rfl) (ld_sgrs _ _) (fun W h => ((er.trans (h.mono er.size)).cell (p := ⟨g0, 3, none⟩) B0.1).trans k3))
              case s8 => exact (st_field rfl rfl rfl (src_base (fun i hi => by have hi : i < 30 := hi; show 33 + i ≠ _; omega) rfl) (fun W => fa_ask0 gb 0 W))
              case s9 => exact (st_load rfl rfl rfl (src_dep (j := 8) (e := ⟨8, .data⟩) (by simp) rfl rfl rfl) (ld_int _ _) (fun W h => ((er.trans (h.mono er.size)).cell (p := ⟨gb, 0, none⟩) R1.1).trans kK))
              case s10 => exact (st_index rfl rfl rfl (src_dep (j := 7) (e := ⟨7, .data⟩) (by simp) rfl rfl rfl) (src_dep (j := 9) (e := ⟨9, .data⟩) (by simp) rfl rfl rfl) (fun W => ia_sgr gs os ss.length G.sc k hks W))
              case s11 => exact (st_field rfl rfl rfl (src_dep (j := 10) (e := ⟨10, .data⟩) (by simp) rfl rfl rfl) (fun W => fa_sgr0 gs (os + k * 6) W))
              case s12 => exact (st_load rfl rfl rfl (src_dep (j := 11) (e := ⟨11, .data⟩) (by simp) rfl rfl rfl) (ld_u8s _ _) (fun W h => ((er.trans (h.mono er.size)).cell (p := ⟨gs, os + k * 6, none⟩) Rs.1).trans (Rs.at_ (i := 0) rfl rfl)))
              case s13 => exact (st_call rfl (fun a W => run_call rfl cf_eqb a W) (fun a W hb hd h => by
                  have h1 : a.eval (.tmp 38) = .slice c.issuer.A c.issuer.xs.length c.issuer.c := (hd ⟨5, .data⟩ (by simp) rfl).now
                  have h2 : a.eval (.tmp 45) = .slice s.issuer.A s.issuer.xs.length s.issuer.c := (hd ⟨12, .data⟩ (by simp) rfl).now
                  simp only [List.map_toArray, List.map_cons, List.map_nil, h1, h2]
                  refine (eqBytes_any c.issuer.A s.issuer.A _ _ c.issuer.c s.issuer.c c.issuer.xs s.issuer.xs W rfl rfl (co.issuer.below (er.trans (h.mono er.size))).rd (so.issuer.below (er.trans (h.mono er.size))).rd co.issuer.lim so.issuer.lim).mono ?_
                  rintro e W' ⟨rfl, rfl⟩
                  exact ⟨_, rfl, Below.refl _ _, by rw [d1]; exact Sp.tv rfl⟩))
              case s14 => exact (st_move rfl (.inl rfl) (src_dep (j := 13) (e := ⟨13, .data⟩) (by simp) rfl rfl rfl))
              case s15 => exact (st_guard (j := 14) (b := true) (e := ⟨14, .guard⟩) rfl (by simp) rfl rfl rfl rfl (st_field rfl rfl rfl (src_base (fun i hi => by have hi : i < 30 := hi; show 33 + i ≠ _; omega) rfl) (fun W => fa_sgd2 g0 0 W)))
              case s16 => exact (st_guard (j := 14) (b := true) (e := ⟨14, .guard⟩) rfl (by simp) rfl rfl rfl rfl (st_load rfl rfl rfl (src_dep (j := 15) (e := ⟨15, .data⟩) (by simp) rfl rfl rfl) (ld_certs _ _) (fun W h => ((er.trans (h.mono er.size)).cell (p := ⟨g0, 2, none⟩) B0.1).trans k2)))
              case s17 => exact (st_guard (j := 14) (b := true) (e := ⟨14, .guard⟩) rfl (by simp) rfl rfl rfl rfl (st_move rfl (.inl rfl) (src_base (fun i hi => by have hi : i < 30 := hi; show 33 + i ≠ _; omega) rfl)))
              case s18 => exact (st_guard (j := 14) (b := true) (e := ⟨14, .guard⟩) rfl (by simp) rfl rfl rfl rfl (st_index rfl rfl rfl (src_dep (j := 16) (e := ⟨16, .data⟩) (by simp) rfl rfl rfl) (src_dep (j := 17) (e := ⟨17, .data⟩) (by simp) rfl rfl rfl) (fun W => ia_cert gc oc cs.length G.cc ix hlt W)))
              case s19 => exact (st_guard (j := 14) (b := true) (e := ⟨14, .guard⟩) rfl (by simp) rfl rfl rfl rfl (st_field rfl rfl rfl (src_dep (j := 18) (e := ⟨18, .data⟩) (by simp) rfl rfl rfl) (fun W => fa_cert4 gc (oc + ix * 24) W)))
              case s20 => exact (st_guard (j := 14) (b := true) (e := ⟨14, .guard⟩) rfl (by simp) rfl rfl rfl rfl (st_load rfl rfl rfl (src_dep (j := 19) (e := ⟨19, .data⟩) (by simp) rfl rfl rfl) (ld_u8s _ _) (fun W h => ((er.trans (h.mono er.size)).cell (p := ⟨gc, oc + ix * 24 + 4, none⟩) Rc.1).trans (Rc.at_ (i := 4) rfl rfl))))
              case s21 => exact (st_guard (j := 14) (b := true) (e := ⟨14, .guard⟩) rfl (by simp) rfl rfl rfl rfl (st_field rfl rfl rfl (src_base (fun i hi => by have hi : i < 30 := hi; show 33 + i ≠ _; omega) rfl) (fun W => fa_sgd3 g0 0 W)))
              case s22 => exact (st_guard (j := 14) (b := true) (e := ⟨14, .guard⟩) rfl (by simp) rfl rfl rfl rfl (st_load rfl rfl rfl (src_dep (j := 21) (e := ⟨21, .data⟩) (by simp) rfl rfl rfl) (ld_sgrs _ _) (fun W h => ((er.trans (h.mono er.size)).cell (p := ⟨g0, 3, none⟩) B0.1).trans k3)))
              case s23 => exact (st_guard (j := 14) (b := true) (e := ⟨14, .guard⟩) rfl (by simp) rfl rfl rfl rfl (st_field rfl rfl rfl (src_base (fun i hi => by have hi : i < 30 := hi; show 33 + i ≠ _; omega) rfl) (fun W => fa_ask0 gb 0 W)))
              case s24 => exact (st_guard (j := 14) (b := true) (e := ⟨14, .guard⟩) rfl (by simp) rfl rfl rfl rfl (st_load rfl rfl rfl (src_dep (j := 23) (e := ⟨23, .data⟩) (by simp) rfl rfl rfl) (ld_int _ _) (fun W h => ((er.trans (h.mono er.size)).cell (p := ⟨gb, 0, none⟩) R1.1).trans kK)))
              case s25 => exact (st_guard (j := 14) (b := true) (e := ⟨14, .guard⟩) rfl (by simp) rfl rfl rfl rfl (st_index rfl rfl rfl (src_dep (j := 22) (e := ⟨22, .data⟩) (by simp) rfl rfl rfl) (src_dep (j := 24) (e := ⟨24, .data⟩) (by simp) rfl rfl rfl) (fun W => ia_sgr gs os ss.length G.sc k hks W)))
              case s26 => exact (st_guard (j := 14) (b := true) (e := ⟨14, .guard⟩) rfl (by simp) rfl rfl rfl rfl (st_field rfl rfl rfl (src_dep (j := 25) (e := ⟨25, .data⟩) (by simp) rfl rfl rfl) (fun W => fa_sgr1 gs (os + k * 6) W)))
              case s27 => exact (st_guard (j := 14) (b := true) (e := ⟨14, .guard⟩) rfl (by simp) rfl rfl rfl rfl (st_load rfl rfl rfl (src_dep (j := 26) (e := ⟨26, .data⟩) (by simp) rfl rfl rfl) (ld_u8s _ _) (fun W h => ((er.trans (h.mono er.size)).cell (p := ⟨gs, os + k * 6 + 1, none⟩) Rs.1).trans (Rs.at_ (i := 1) rfl rfl))))
              case s28 => exact (st_guard (j := 14) (b := true) (e := ⟨14, .guard⟩) rfl (by simp) rfl rfl rfl rfl (st_call rfl (fun a W => run_call rfl cf_eqb a W) (fun a W hb hd h => by
                  have h1 : a.eval (.tmp 53) = .slice c.serial.A c.serial.xs.length c.serial.c := (hd ⟨20, .data⟩ (by simp) rfl).now
                  have h2 : a.eval (.tmp 60) = .slice s.serial.A s.serial.xs.length s.serial.c := (hd ⟨27, .data⟩ (by simp) rfl).now
                  simp only [List.map_toArray, List.map_cons, List.map_nil, h1, h2]
                  refine (eqBytes_any c.serial.A s.serial.A _ _ c.serial.c s.serial.c c.serial.xs s.serial.xs W rfl rfl (co.serial.below (er.trans (h.mono er.size))).rd (so.serial.below (er.trans (h.mono er.size))).rd co.serial.lim so.serial.lim).mono ?_
                  rintro e W' ⟨rfl, rfl⟩
                  exact ⟨_, rfl, Below.refl _ _, by rw [← hp2.out]; exact Sp.tv rfl⟩)))
              case s29 => exact (st_pick rfl rfl (src_dep (j := 14) (e := ⟨14, .data⟩) (by simp) rfl rfl rfl) (src_dep (j := 28) (e := ⟨28, .data⟩) (by simp) rfl rfl rfl))
              case fin =>
                intro a W h1 h2 h3 h4 h5
                have b62 : a.tmps.getD 62 undef = .bool p2 := (h4 29 (by show 29 < 30; omega)).now
                have hz : a.tmps.size = 85 := h2
                have hdf : a.defers = [] := h1
                have b0 := h3 0 (fun i hi => by have h8 : i < 30 := hi; show (33 + i) ≠ 0; omega)
                replace b0 : a.tmps.getD 0 undef = .agg (CSigned x0).toArray := b0
                have b1 := h3 1 (fun i hi => by have h8 : i < 30 := hi; show (33 + i) ≠ 1; omega)
                replace b1 : a.tmps.getD 1 undef = .agg L1.toArray := b1
                have b7 := h3 7 (fun i hi => by have h8 : i < 30 := hi; show (33 + i) ≠ 7; omega)
                replace b7 : a.tmps.getD 7 undef = undef := b7
                have b8 := h3 8 (fun i hi => by have h8 : i < 30 := hi; show (33 + i) ≠ 8; omega)
                replace b8 : a.tmps.getD 8 undef = undef := b8
                have b9 := h3 9 (fun i hi => by have h8 : i < 30 := hi; show (33 + i) ≠ 9; omega)
                replace b9 : a.tmps.getD 9 undef = .agg (CSigned x0).toArray := b9
                have b10 := h3 10 (fun i hi => by have h8 : i < 30 := hi; show (33 + i) ≠ 10; omega)
                replace b10 : a.tmps.getD 10 undef = .bool false := b10
                have b11 := h3 11 (fun i hi => by have h8 : i < 30 := hi; show (33 + i) ≠ 11; omega)
                replace b11 : a.tmps.getD 11 undef = undef := b11
                have b12 := h3 12 (fun i hi => by have h8 : i < 30 := hi; show (33 + i) ≠ 12; omega)
                replace b12 : a.tmps.getD 12 undef = u12 := b12
                have b13 := h3 13 (fun i hi => by have h8 : i < 30 := hi; show (33 + i) ≠ 13; omega)
                replace b13 : a.tmps.getD 13 undef = u13 := b13
                have b14 := h3 14 (fun i hi => by have h8 : i < 30 := hi; show (33 + i) ≠ 14; omega)
                replace b14 : a.tmps.getD 14 undef = u14 := b14
                have b15 := h3 15 (fun i hi => by have h8 : i < 30 := hi; show (33 + i) ≠ 15; omega)
                replace b15 : a.tmps.getD 15 undef = u15 := b15
                have b16 := h3 16 (fun i hi => by have h8 : i < 30 := hi; show (33 + i) ≠ 16; omega)
                replace b16 : a.tmps.getD 16 undef = u16 := b16
                have b17 := h3 17 (fun i hi => by have h8 : i < 30 := hi; show (33 + i) ≠ 17; omega)
                replace b17 : a.tmps.getD 17 undef = u17 := b17
                have b18 := h3 18 (fun i hi => by have h8 : i < 30 := hi; show (33 + i) ≠ 18; omega)
                replace b18 : a.tmps.getD 18 undef = u18 := b18
                have b19 := h3 19 (fun i hi => by have h8 : i < 30 := hi; show (33 + i) ≠ 19; omega)
                replace b19 : a.tmps.getD 19 undef = u19 := b19
                have b20 := h3 20 (fun i hi => by have h8 : i < 30 := hi; show (33 + i) ≠ 20; omega)
                replace b20 : a.tmps.getD 20 undef = u20 := b20
                have b21 := h3 21 (fun i hi => by have h8 : i < 30 := hi; show (33 + i) ≠ 21; omega)
                replace b21 : a.tmps.getD 21 undef = u21 := b21
                have b22 := h3 22 (fun i hi => by have h8 : i < 30 := hi; show (33 + i) ≠ 22; omega)
                replace b22 : a.tmps.getD 22 undef = u22 := b22
                have b64 := h3 64 (fun i hi => by have h8 : i < 30 := hi; show (33 + i) ≠ 64; omega)
                replace b64 : a.tmps.getD 64 undef = undef := b64
                have b65 := h3 65 (fun i hi => by have h8 : i < 30 := hi; show (33 + i) ≠ 65; omega)
                replace b65 : a.tmps.getD 65 undef = undef := b65
                have b66 := h3 66 (fun i hi => by have h8 : i < 30 := hi; show (33 + i) ≠ 66; omega)
                replace b66 : a.tmps.getD 66 undef = undef := b66
                have b67 := h3 67 (fun i hi => by have h8 : i < 30 := hi; show (33 + i) ≠ 67; omega)
                replace b67 : a.tmps.getD 67 undef = undef := b67
                have b68 := h3 68 (fun i hi => by have h8 : i < 30 := hi; show (33 + i) ≠ 68; omega)
                replace b68 : a.tmps.getD 68 undef = undef := b68
                have b69 := h3 69 (fun i hi => by have h8 : i < 30 := hi; show (33 + i) ≠ 69; omega)
                replace b69 : a.tmps.getD 69 undef = undef := b69
                have b70 := h3 70 (fun i hi => by have h8 : i < 30 := hi; show (33 + i) ≠ 70; omega)
                replace b70 : a.tmps.getD 70 undef = undef := b70
                have b71 := h3 71 (fun i hi => by have h8 : i < 30 := hi; show (33 + i) ≠ 71; omega)
                replace b71 : a.tmps.getD 71 undef = undef := b71
                have b72 := h3 72 (fun i hi => by have h8 : i < 30 := hi; show (33 + i) ≠ 72; omega)
                replace b72 : a.tmps.getD 72 undef = undef := b72
                have b73 := h3 73 (fun i hi => by have h8 : i < 30 := hi; show (33 + i) ≠ 73; omega)
                replace b73 : a.tmps.getD 73 undef = undef := b73
                have b74 := h3 74 (fun i hi => by have h8 : i < 30 := hi; show (33 + i) ≠ 74; omega)
                replace b74 : a.tmps.getD 74 undef = undef := b74
                have b75 := h3 75 (fun i hi => by have h8 : i < 30 := hi; show (33 + i) ≠ 75; omega)
                replace b75 : a.tmps.getD 75 undef = undef := b75
                have b76 := h3 76 (fun i hi => by have h8 : i < 30 := hi; show (33 + i) ≠ 76; omega)
                replace b76 : a.tmps.getD 76 undef = undef := b76
                have b77 := h3 77 (fun i hi => by have h8 : i < 30 := hi; show (33 + i) ≠ 77; omega)
                replace b77 : a.tmps.getD 77 undef = undef := b77
                have b78 := h3 78 (fun i hi => by have h8 : i < 30 := hi; show (33 + i) ≠ 78; omega)
                replace b78 : a.tmps.getD 78 undef = undef := b78
                have b79 := h3 79 (fun i hi => by have h8 : i < 30 := hi; show (33 + i) ≠ 79; omega)
                replace b79 : a.tmps.getD 79 undef = undef := b79
                have b80 := h3 80 (fun i hi => by have h8 : i < 30 := hi; show (33 + i) ≠ 80; omega)
                replace b80 : a.tmps.getD 80 undef = undef := b80
                have b81 := h3 81 (fun i hi => by have h8 : i < 30 := hi; show (33 + i) ≠ 81; omega)
                replace b81 : a.tmps.getD 81 undef = undef := b81
                have b82 := h3 82 (fun i hi => by have h8 : i < 30 := hi; show (33 + i) ≠ 82; omega)
                replace b82 : a.tmps.getD 82 undef = undef := b82
                have b83 := h3 83 (fun i hi => by have h8 : i < 30 := hi; show (33 + i) ≠ 83; omega)
                replace b83 : a.tmps.getD 83 undef = undef := b83
                have b84 := h3 84 (fun i hi => by have h8 : i < 30 := hi; show (33 + i) ≠ 84; omega)
                replace b84 : a.tmps.getD 84 undef = undef := b84
                have b2 := h3 2 (fun i hi => by have h8 : i < 30 := hi; show (33 + i) ≠ 2; omega)
                replace b2 : a.tmps.getD 2 undef = .pointer (some ⟨g0, 0, none⟩) := b2
                have b3 := h3 3 (fun i hi => by have h8 : i < 30 := hi; show (33 + i) ≠ 3; omega)
                replace b3 : a.tmps.getD 3 undef = .pointer (some ⟨gb, 0, none⟩) := b3
                have b5 := h3 5 (fun i hi => by have h8 : i < 30 := hi; show (33 + i) ≠ 5; omega)
                replace b5 : a.tmps.getD 5 undef = .bool true := b5
                have b6 := h3 6 (fun i hi => by have h8 : i < 30 := hi; show (33 + i) ≠ 6; omega)
                replace b6 : a.tmps.getD 6 undef = .int .i64 (ix : Int) := b6
                rw [act_eq hz hdf]
                simp only [show List.range 85 = [0, 1, 2, 3, 4, 5, 6, 7, 8, 9, 10, 11, 12, 13, 14, 15, 16, 17, 18, 19, 20, 21, 22, 23, 24, 25, 26, 27, 28, 29, 30, 31, 32, 33, 34, 35, 36, 37, 38, 39, 40, 41, 42, 43, 44, 45, 46, 47, 48, 49, 50, 51, 52, 53, 54, 55, 56, 57, 58, 59, 60, 61, 62, 63, 64, 65, 66, 67, 68, 69, 70, 71, 72, 73, 74, 75, 76, 77, 78, 79, 80, 81, 82, 83, 84] from rfl, List.map_cons, List.map_nil, b0, b1, b7, b8, b9, b10, b11, b12, b13, b14, b15, b16, b17, b18, b19, b20, b21, b22, b64, b65, b66, b67, b68, b69, b70, b71, b72, b73, b74, b75, b76, b77, b78, b79, b80, b81, b82, b83, b84, b2, b3, b5, b6, b62]
                clear b0 b1 b7 b8 b9 b10 b11 b12 b13 b14 b15 b16 b17 b18 b19 b20 b21 b22 b64 b65 b66 b67 b68 b69 b70 b71 b72 b73 b74 b75 b76 b77 b78 b79 b80 b81 b82 b83 b84 b2 b3 b5 b6 b62 hz hdf h1 h2 h3 h4
                have er2 := er.trans (h5.mono er.size)
                cases p2
                case false =>
                  go_wp2_with fail
                  go_roundw
                  case rel =>
                    refine ⟨ix + 1, by go_num, by omega, fun j c' s' hj hc' hs' => ?_, er2⟩
                    by_cases hji : j = ix
                    · subst hji
                      rw [hc] at hc'
                      cases hc'
                      rw [Int.toNat_natCast, hs] at hs'
                      cases hs'
                      simp [fitsB, ← hp2.out]
                    · exact hno j c' s' (by omega) hc' hs'
                  case measure =>
                    simp [intOf]
                    omega
                case true =>
                  go_wp2_with fail
                  refine (works15_any _).mono ?_
                  rintro r w' ⟨rfl, b⟩
                  go_wp2_with fail
                  go_ret
                  have hF := hE.trans (er2.mono hE.size)
                  exact ⟨rfl, hF.trans (b.mono hF.size)⟩
            · have d1 : decide (c.issuer.xs = s.issuer.xs) = false := by simp [hp1]
              have hd0 : Below wr.heap.size wr wr.drew := below_drewN (Below.refl _ _) 1
              refine wp_region_steps (by kernel_rfl) (fun i => 33 + i) (fun i v W => Sp ((fitT g0 gb gc (oc + ix * 24) gs (os + k * 6) (.slice (some ⟨gc, oc, none⟩) cs.length G.cc) (.slice (some ⟨gs, os, none⟩) ss.length G.sc) (ix : Int) (k : Int) c s false p2) i) v W) (fun W => Below wr.heap.size wr W) (by kernel_rfl) (by kernel_rfl) ?inj ?lt (fun i v W W' h hs => h.mono hs) hd0 ⟨?s0, ?s1, ?s2, ?s3, ?s4, ?s5, ?s6, ?s7, ?s8, ?s9, ?s10, ?s11, ?s12, ?s13, ?s14, ?s15, ?s16, ?s17, ?s18, ?s19, ?s20, ?s21, ?s22, ?s23, ?s24, ?s25, ?s26, ?s27, ?s28, ?s29, trivial⟩ ?fin
              case inj =>
                intro i j hi hj h
                have h40 : i < 30 ∧ j < 30 := ⟨hi, hj⟩
                have h : 33 + i = 33 + j := h
                omega
              case lt =>
                intro i hi
                have h40 : i < 30 := hi
                show 33 + i < 85
                omega
              case s0 => exact (st_field rfl rfl rfl (src_base (fun i hi => by have hi : i < 30 := hi; show 33 + i ≠ _; omega) rfl) (fun W => fa_sgd2 g0 0 W))
              case s1 => exact (st_load rfl rfl rfl (src_dep (j := 0) (e := ⟨0, .data⟩) (by simp) rfl rfl rfl) (ld_certs _ _) (fun W h => ((er.trans (h.mono er.size)).cell (p := ⟨g0, 2, none⟩) B0.1).trans k2))
              case s2 => exact (st_move rfl (.inl rfl) (src_base (fun i hi => by have hi : i < 30 := hi; show 33 + i ≠ _; omega) rfl))
              case s3 => exact (st_index rfl rfl rfl (src_dep (j := 1) (e := ⟨1, .data⟩) (by simp) rfl rfl rfl) (src_dep (j := 2) (e := ⟨2, .data⟩) (by simp) rfl rfl rfl) (fun W => ia_cert gc oc cs.length G.cc ix hlt W))
              case s4 => exact (st_field rfl rfl rfl (src_dep (j := 3) (e := ⟨3, .data⟩) (by simp) rfl rfl rfl) (fun W => fa_cert2 gc (oc + ix * 24) W))
              case s5 => exact (st_load rfl rfl rfl (src_dep (j := 4) (e := ⟨4, .data⟩) (by simp) rfl rfl rfl) (ld_u8s _ _) (fun W h => ((er.trans (h.mono er.size)).cell (p := ⟨gc, oc + ix * 24 + 2, none⟩) Rc.1).trans (Rc.at_ (i := 2) rfl rfl)))
              case s6 => exact (st_field rfl rfl rfl (src_base (fun i hi => by have hi : i < 30 := hi; show 33 + i ≠ _; omega) rfl) (fun W => fa_sgd3 g0 0 W))
              case s7 => exact (st_load rfl rfl rfl (src_dep (j := 6) (e := ⟨6, .data⟩) (by simp) rfl rfl rfl) (ld_sgrs _ _) (fun W h => ((er.trans (h.mono er.size)).cell (p := ⟨g0, 3, none⟩) B0.1).trans k3))
              case s8 => exact (st_field rfl rfl rfl (src_base (fun i hi => by have hi : i < 30 := hi; show 33 + i ≠ _; omega) rfl) (fun W => fa_ask0 gb 0 W))
              case s9 => exact (st_load rfl rfl rfl (src_dep (j := 8) (e := ⟨8, .data⟩) (by simp) rfl rfl rfl) (ld_int _ _) (fun W h => ((er.trans (h.mono er.size)).cell (p := ⟨gb, 0, none⟩) R1.1).trans kK))
              case s10 => exact (st_index rfl rfl rfl (src_dep (j := 7) (e := ⟨7, .data⟩) (by simp) rfl rfl rfl) (src_dep (j := 9) (e := ⟨9, .data⟩) (by simp) rfl rfl rfl) (fun W => ia_sgr gs os ss.length G.sc k hks W))
              case s11 => exact (st_field rfl rfl rfl (src_dep (j := 10) (e := ⟨10, .data⟩) (by simp) rfl rfl rfl) (fun W => fa_sgr0 gs (os + k * 6) W))
              case s12 => exact (st_load rfl rfl rfl (src_dep (j := 11) (e := ⟨11, .data⟩) (by simp) rfl rfl rfl) (ld_u8s _ _) (fun W h => ((er.trans (h.mono er.size)).cell (p := ⟨gs, os + k * 6, none⟩) Rs.1).trans (Rs.at_ (i := 0) rfl rfl)))
              case s13 => exact (st_call rfl (fun a W => run_call rfl cf_eqb a W) (fun a W hb hd h => by
                  have h1 : a.eval (.tmp 38) = .slice c.issuer.A c.issuer.xs.length c.issuer.c := (hd ⟨5, .data⟩ (by simp) rfl).now
                  have h2 : a.eval (.tmp 45) = .slice s.issuer.A s.issuer.xs.length s.issuer.c := (hd ⟨12, .data⟩ (by simp) rfl).now
                  simp only [List.map_toArray, List.map_cons, List.map_nil, h1, h2]
                  refine (eqBytes_any c.issuer.A s.issuer.A _ _ c.issuer.c s.issuer.c c.issuer.xs s.issuer.xs W rfl rfl (co.issuer.below (er.trans (h.mono er.size))).rd (so.issuer.below (er.trans (h.mono er.size))).rd co.issuer.lim so.issuer.lim).mono ?_
                  rintro e W' ⟨rfl, rfl⟩
                  exact ⟨_, rfl, Below.refl _ _, by rw [d1]; exact Sp.tv rfl⟩))
              case s14 => exact (st_move rfl (.inl rfl) (src_dep (j := 13) (e := ⟨13, .data⟩) (by simp) rfl rfl rfl))
              case s15 => exact (st_skip (j := 14) (b := true) (c := false) (e := ⟨14, .guard⟩) rfl (by simp) rfl rfl rfl (by decide) rfl rfl)
              case s16 => exact (st_skip (j := 14) (b := true) (c := false) (e := ⟨14, .guard⟩) rfl (by simp) rfl rfl rfl (by decide) rfl rfl)
              case s17 => exact (st_skip (j := 14) (b := true) (c := false) (e := ⟨14, .guard⟩) rfl (by simp) rfl rfl rfl (by decide) rfl rfl)
              case s18 => exact (st_skip (j := 14) (b := true) (c := false) (e := ⟨14, .guard⟩) rfl (by simp) rfl rfl rfl (by decide) rfl rfl)
              case s19 => exact (st_skip (j := 14) (b := true) (c := false) (e := ⟨14, .guard⟩) rfl (by simp) rfl rfl rfl (by decide) rfl rfl)
              case s20 => exact (st_skip (j := 14) (b := true) (c := false) (e := ⟨14, .guard⟩) rfl (by simp) rfl rfl rfl (by decide) rfl rfl)
              case s21 => exact (st_skip (j := 14) (b := true) (c := false) (e := ⟨14, .guard⟩) rfl (by simp) rfl rfl rfl (by decide) rfl rfl)
              case s22 => exact (st_skip (j := 14) (b := true) (c := false) (e := ⟨14, .guard⟩) rfl (by simp) rfl rfl rfl (by decide) rfl rfl)
              case s23 => exact (st_skip (j := 14) (b := true) (c := false) (e := ⟨14, .guard⟩) rfl (by simp) rfl rfl rfl (by decide) rfl rfl)
              case s24 => exact (st_skip (j := 14) (b := true) (c := false) (e := ⟨14, .guard⟩) rfl (by simp) rfl rfl rfl (by decide) rfl rfl)
              case s25 => exact (st_skip (j := 14) (b := true) (c := false) (e := ⟨14, .guard⟩) rfl (by simp) rfl rfl rfl (by decide) rfl rfl)
              case s26 => exact (st_skip (j := 14) (b := true) (c := false) (e := ⟨14, .guard⟩) rfl (by simp) rfl rfl rfl (by decide) rfl rfl)
              case s27 => exact (st_skip (j := 14) (b := true) (c := false) (e := ⟨14, .guard⟩) rfl (by simp) rfl rfl rfl (by decide) rfl rfl)
              case s28 => exact (st_skip (j := 14) (b := true) (c := false) (e := ⟨14, .guard⟩) rfl (by simp) rfl rfl rfl (by decide) rfl rfl)
              case s29 => exact (st_pick_no rfl rfl (src_dep (j := 14) (e := ⟨14, .data⟩) (by simp) rfl rfl rfl) src_const)
              case fin =>
                intro a W h1 h2 h3 h4 h5
                have b62 : a.tmps.getD 62 undef = .bool false := (h4 29 (by show 29 < 30; omega)).now
                have hz : a.tmps.size = 85 := h2
                have hdf : a.defers = [] := h1
                have b0 := h3 0 (fun i hi => by have h8 : i < 30 := hi; show (33 + i) ≠ 0; omega)
                replace b0 : a.tmps.getD 0 undef = .agg (CSigned x0).toArray := b0
                have b1 := h3 1 (fun i hi => by have h8 : i < 30 := hi; show (33 + i) ≠ 1; omega)
                replace b1 : a.tmps.getD 1 undef = .agg L1.toArray := b1
                have b7 := h3 7 (fun i hi => by have h8 : i < 30 := hi; show (33 + i) ≠ 7; omega)
                replace b7 : a.tmps.getD 7 undef = undef := b7
                have b8 := h3 8 (fun i hi => by have h8 : i < 30 := hi; show (33 + i) ≠ 8; omega)
                replace b8 : a.tmps.getD 8 undef = undef := b8
                have b9 := h3 9 (fun i hi => by have h8 : i < 30 := hi; show (33 + i) ≠ 9; omega)
                replace b9 : a.tmps.getD 9 undef = .agg (CSigned x0).toArray := b9
                have b10 := h3 10 (fun i hi => by have h8 : i < 30 := hi; show (33 + i) ≠ 10; omega)
                replace b10 : a.tmps.getD 10 undef = .bool false := b10
                have b11 := h3 11 (fun i hi => by have h8 : i < 30 := hi; show (33 + i) ≠ 11; omega)
                replace b11 : a.tmps.getD 11 undef = undef := b11
                have b12 := h3 12 (fun i hi => by have h8 : i < 30 := hi; show (33 + i) ≠ 12; omega)
                replace b12 : a.tmps.getD 12 undef = u12 := b12
                have b13 := h3 13 (fun i hi => by have h8 : i < 30 := hi; show (33 + i) ≠ 13; omega)
                replace b13 : a.tmps.getD 13 undef = u13 := b13
                have b14 := h3 14 (fun i hi => by have h8 : i < 30 := hi; show (33 + i) ≠ 14; omega)
                replace b14 : a.tmps.getD 14 undef = u14 := b14
                have b15 := h3 15 (fun i hi => by have h8 : i < 30 := hi; show (33 + i) ≠ 15; omega)
                replace b15 : a.tmps.getD 15 undef = u15 := b15
                have b16 := h3 16 (fun i hi => by have h8 : i < 30 := hi; show (33 + i) ≠ 16; omega)
                replace b16 : a.tmps.getD 16 undef = u16 := b16
                have b17 := h3 17 (fun i hi => by have h8 : i < 30 := hi; show (33 + i) ≠ 17; omega)
                replace b17 : a.tmps.getD 17 undef = u17 := b17
                have b18 := h3 18 (fun i hi => by have h8 : i < 30 := hi; show (33 + i) ≠ 18; omega)
                replace b18 : a.tmps.getD 18 undef = u18 := b18
                have b19 := h3 19 (fun i hi => by have h8 : i < 30 := hi; show (33 + i) ≠ 19; omega)
                replace b19 : a.tmps.getD 19 undef = u19 := b19
                have b20 := h3 20 (fun i hi => by have h8 : i < 30 := hi; show (33 + i) ≠ 20; omega)
                replace b20 : a.tmps.getD 20 undef = u20 := b20
                have b21 := h3 21 (fun i hi => by have h8 : i < 30 := hi; show (33 + i) ≠ 21; omega)
                replace b21 : a.tmps.getD 21 undef = u21 := b21
                have b22 := h3 22 (fun i hi => by have h8 : i < 30 := hi; show (33 + i) ≠ 22; omega)
                replace b22 : a.tmps.getD 22 undef = u22 := b22
                have b64 := h3 64 (fun i hi => by have h8 : i < 30 := hi; show (33 + i) ≠ 64; omega)
                replace b64 : a.tmps.getD 64 undef = undef := b64
                have b65 := h3 65 (fun i hi => by have h8 : i < 30 := hi; show (33 + i) ≠ 65; omega)
                replace b65 : a.tmps.getD 65 undef = undef := b65
                have b66 := h3 66 (fun i hi => by have h8 : i < 30 := hi; show (33 + i) ≠ 66; omega)
                replace b66 : a.tmps.getD 66 undef = undef := b66
                have b67 := h3 67 (fun i hi => by have h8 : i < 30 := hi; show (33 + i) ≠ 67; omega)
                replace b67 : a.tmps.getD 67 undef = undef := b67
                have b68 := h3 68 (fun i hi => by have h8 : i < 30 := hi; show (33 + i) ≠ 68; omega)
                replace b68 : a.tmps.getD 68 undef = undef := b68
                have b69 := h3 69 (fun i hi => by have h8 : i < 30 := hi; show (33 + i) ≠ 69; omega)
                replace b69 : a.tmps.getD 69 undef = undef := b69
                have b70 := h3 70 (fun i hi => by have h8 : i < 30 := hi; show (33 + i) ≠ 70; omega)
                replace b70 : a.tmps.getD 70 undef = undef := b70
                have b71 := h3 71 (fun i hi => by have h8 : i < 30 := hi; show (33 + i) ≠ 71; omega)
                replace b71 : a.tmps.getD 71 undef = undef := b71
                have b72 := h3 72 (fun i hi => by have h8 : i < 30 := hi; show (33 + i) ≠ 72; omega)
                replace b72 : a.tmps.getD 72 undef = undef := b72
                have b73 := h3 73 (fun i hi => by have h8 : i < 30 := hi; show (33 + i) ≠ 73; omega)
                replace b73 : a.tmps.getD 73 undef = undef := b73
                have b74 := h3 74 (fun i hi => by have h8 : i < 30 := hi; show (33 + i) ≠ 74; omega)
                replace b74 : a.tmps.getD 74 undef = undef := b74
                have b75 := h3 75 (fun i hi => by have h8 : i < 30 := hi; show (33 + i) ≠ 75; omega)
                replace b75 : a.tmps.getD 75 undef = undef := b75
                have b76 := h3 76 (fun i hi => by have h8 : i < 30 := hi; show (33 + i) ≠ 76; omega)
                replace b76 : a.tmps.getD 76 undef = undef := b76
                have b77 := h3 77 (fun i hi => by have h8 : i < 30 := hi; show (33 + i) ≠ 77; omega)
                replace b77 : a.tmps.getD 77 undef = undef := b77
                have b78 := h3 78 (fun i hi => by have h8 : i < 30 := hi; show (33 + i) ≠ 78; omega)
                replace b78 : a.tmps.getD 78 undef = undef := b78
                have b79 := h3 79 (fun i hi => by have h8 : i < 30 := hi; show (33 + i) ≠ 79; omega)
                replace b79 : a.tmps.getD 79 undef = undef := b79
                have b80 := h3 80 (fun i hi => by have h8 : i < 30 := hi; show (33 + i) ≠ 80; omega)
                replace b80 : a.tmps.getD 80 undef = undef := b80
                have b81 := h3 81 (fun i hi => by have h8 : i < 30 := hi; show (33 + i) ≠ 81; omega)
                replace b81 : a.tmps.getD 81 undef = undef := b81
                have b82 := h3 82 (fun i hi => by have h8 : i < 30 := hi; show (33 + i) ≠ 82; omega)
                replace b82 : a.tmps.getD 82 undef = undef := b82
                have b83 := h3 83 (fun i hi => by have h8 : i < 30 := hi; show (33 + i) ≠ 83; omega)
                replace b83 : a.tmps.getD 83 undef = undef := b83
                have b84 := h3 84 (fun i hi => by have h8 : i < 30 := hi; show (33 + i) ≠ 84; omega)
                replace b84 : a.tmps.getD 84 undef = undef := b84
                have b2 := h3 2 (fun i hi => by have h8 : i < 30 := hi; show (33 + i) ≠ 2; omega)
                replace b2 : a.tmps.getD 2 undef = .pointer (some ⟨g0, 0, none⟩) := b2
                have b3 := h3 3 (fun i hi => by have h8 : i < 30 := hi; show (33 + i) ≠ 3; omega)
                replace b3 : a.tmps.getD 3 undef = .pointer (some ⟨gb, 0, none⟩) := b3
                have b5 := h3 5 (fun i hi => by have h8 : i < 30 := hi; show (33 + i) ≠ 5; omega)
                replace b5 : a.tmps.getD 5 undef = .bool true := b5
                have b6 := h3 6 (fun i hi => by have h8 : i < 30 := hi; show (33 + i) ≠ 6; omega)
                replace b6 : a.tmps.getD 6 undef = .int .i64 (ix : Int) := b6
                rw [act_eq hz hdf]
                simp only [show List.range 85 = [0, 1, 2, 3, 4, 5, 6, 7, 8, 9, 10, 11, 12, 13, 14, 15, 16, 17, 18, 19, 20, 21, 22, 23, 24, 25, 26, 27, 28, 29, 30, 31, 32, 33, 34, 35, 36, 37, 38, 39, 40, 41, 42, 43, 44, 45, 46, 47, 48, 49, 50, 51, 52, 53, 54, 55, 56, 57, 58, 59, 60, 61, 62, 63, 64, 65, 66, 67, 68, 69, 70, 71, 72, 73, 74, 75, 76, 77, 78, 79, 80, 81, 82, 83, 84] from rfl, List.map_cons, List.map_nil, b0, b1, b7, b8, b9, b10, b11, b12, b13, b14, b15, b16, b17, b18, b19, b20, b21, b22, b64, b65, b66, b67, b68, b69, b70, b71, b72, b73, b74, b75, b76, b77, b78, b79, b80, b81, b82, b83, b84, b2, b3, b5, b6, b62]
                clear b0 b1 b7 b8 b9 b10 b11 b12 b13 b14 b15 b16 b17 b18 b19 b20 b21 b22 b64 b65 b66 b67 b68 b69 b70 b71 b72 b73 b74 b75 b76 b77 b78 b79 b80 b81 b82 b83 b84 b2 b3 b5 b6 b62 hz hdf h1 h2 h3 h4
                have er2 := er.trans (h5.mono er.size)
                go_wp2_with fail
                go_roundw
                case rel =>
                  refine ⟨ix + 1, by go_num, by omega, fun j c' s' hj hc' hs' => ?_, er2⟩
                  by_cases hji : j = ix
                  · subst hji
                    rw [hc] at hc'
                    cases hc'
                    rw [Int.toNat_natCast, hs] at hs'
                    cases hs'
                    simp [fitsB, d1]
                  · exact hno j c' s' (by omega) hc' hs'
                case measure =>
                  simp [intOf]
                  omega
        · have z1 : ¬ (ix : Int) < (cs.length : Int) := by omega
          have hno9 : rightAt cs ss K kx ds = none := by
            by_cases ho : 0 ≤ K ∧ K < (ss.length : Int)
            · obtain ⟨s, hs⟩ : ∃ s, ss[K.toNat]? = some s := ⟨_, List.getElem?_eq_getElem (by omega)⟩
              unfold rightAt
              rw [if_neg (by omega), hs]
              show rightOf cs s kx ds = none
              unfold rightOf
              rw [List.find?_eq_none.2 fun c hc => by
                obtain ⟨j, hj⟩ := List.mem_iff_getElem?.1 hc
                rw [hno j c s (by have := (List.getElem?_eq_some_iff.1 hj).1; omega) hj hs]
                simp]
              rfl
            · unfold rightAt
              split
              · rfl
              · rw [List.getElem?_eq_none (by omega)]
                rfl
          have M9 := M.below er
          have R9 := R3.below er
          have B9 := B0.below er
          have kd9 := hkd'.below er
          have k9a := (er.cell (p := ⟨gb, 0, none⟩) R1.1).trans kK
          have k9b : wr.cell? ⟨gb, 1, none⟩ = some (.slice kA kx.length kc0) := (R1.below er).at_ (i := 1) rfl rfl
          have Q1 := right_mem M9 K (by omega) ⟨kA, kc0, kx⟩ kd9 ds n2.out l2
          rw [hno9] at Q1
          go_wp2_with (first
            | ((with_reducible refine wpList_load_mid ?_ 48 (.tmp 2) ?_ g0 0 ?_ G.cells _ B9.rng Tryz.underlying48 ?_ (sz_sg _) ?_); (· rfl); (· rfl); (· rfl); (· rfl))
            | ((with_reducible refine wpList_load_mid ?_ 49 (.tmp 70) ?_ gb 2 ?_ (ints .u8 ds) _ R9.rng Tryz.underlying49 ?_ (sz_arr n2) ?_); (· rfl); (· rfl); (· rfl); (· rfl)))
          refine Q1.mono ?_
          rintro r w5 ⟨rfl, b5⟩
          go_upto_region 10 with (first
            | ((with_reducible refine wpList_alloc_row ?_ 30 ?_ Crt.none.cells zero_cert ?_); (· rfl); (· rfl); intro gx wa hgx Vx zx ex)
            | ((with_reducible refine wpList_store_cut ?_ 30 (.tmp 7) (.tmp 73) ?_ gx 0 Crt.none.cells _ ?_ ?_ Vx ?_ (sz_crt _) (crt_one _) ?_); (· rfl); (· rfl); (· rfl); (· rfl); (· rfl); intro w6 hst))
          have b6 : Below w5.heap.size w5 w6 := below_only ex hst.1 ex.size (by have := hgx.out; omega)
          have Dx : Row w6 gx 0 Crt.none.cells := Row.of_cut hst.2.2.1
          have yx := Dx.rng
          have hF : Below w.heap.size w w6 := (hE.trans (er.mono hE.size)).trans ((b5.trans (b6.mono b5.size)).mono (Nat.le_trans hE.size er.size))
          clear Vx zx ex hst
          go_wp2_with (first
            | ((with_reducible refine wpList_load_if 30 (.tmp 7) ?_ gx 0 Crt.none.cells _ yx Tryz.underlying30 ?_ (sz_crt _) ?_ ?_ ?_); (· rfl); (· rfl); (· rfl); (· rfl))
            | ((with_reducible refine wpList_build_if 30 #[] ?_ Crt.none.cells ?_ ?_ ?_); (· rfl); (· exact built_cert); (· rfl)))
          refine (sameC_any Crt.none Crt.none w6 (Crt.ok_none _) (Crt.ok_none _)).mono ?_
          rintro r w7 ⟨rfl, b7⟩
          simp only [decide_true]
          clear yx
          go_wp2_with fail
          refine (works15_any _).mono ?_
          rintro r w' ⟨rfl, b⟩
          go_wp2_with fail
          go_ret
          have hF := hF.trans (b7.mono hF.size)
          exact ⟨rfl, hF.trans (b.mono hF.size)⟩
end Go.Proofs.YtchaahnhpeoomaaGreat
