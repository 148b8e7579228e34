/-
  SignerAlone: certificates of other names or numbers, and other signers behind, have no say.
-/
import Derived.Test.YtchaahnhpeoomaaGreatSgC
namespace Go.Proofs.YtchaahnhpeoomaaGreat
set_option linter.unusedVariables false
set_option linter.unusedSimpArgs false
set_option maxRecDepth 20000
open Go.RowKit

theorem made_case2 {K : Option Addr × Nat × List Nat} {ds : List Nat} {at_ : Bool} {oth : Nat} {w : World} (q : SqOk w K) (hd : ds.length = 32) (ld : Lim 256 ds) (ho : oth < 256) :
    Calls Tryz.prog 35 #[.agg (caseCells K.1 K.2.2.length K.2.1 ds at_ oth).toArray] w fun e w' =>
      ∃ (G : Sgd) (cs : List Crt) (s : Sgn) (c : Crt) (sum : List Nat) (gA gz : Nat), e = .returned G.val ∧ SMem G cs [s] gA 0 gz 0 w' ∧ G.kind.xs = kindB K.2.2 ∧ (cs.length ≤ G.cc ∧ G.cc ≤ maxLen) ∧ MadeD ds (kindB K.2.2) at_ (oth % 3) cs s c sum ∧ Below w.heap.size w w' := by
  obtain ⟨k1, k2, k3⟩ := kindB_ok K.2.2
  refine (sMade_any K.1 K.2.2.length K.2.1 oth ds (kindB K.2.2) at_ w hd ld ho k1 k2 k3 (fun W hb => kind_any K.1 _ K.2.1 K.2.2 W rfl q.small (q.rd.below hb) q.lim)).mono fun e w' h => ?_
  obtain ⟨G, cs, s, c, sum, gA, gz, h1, h2, h3, h4, h5, h6⟩ := made_mem h k2 hd
  refine ⟨G, cs, s, c, sum, gA, gz, h1, h2, h3, ?_, h5, h6⟩
  obtain ⟨sk, sc, gA', cA, gz', cs', s', sum', e', -, -, -, -, u1, u2, -, -, -, u3, -⟩ := h
  rw [h1] at e'
  have e1 := congrArg (fun e : Ending => match e with | .returned (.agg a) => a[2]? | _ => none) e'
  have e2 : some (Value.slice G.CA G.cn G.cc) = some (Value.slice (some ⟨gA', 0, none⟩) cs'.length cA) := e1
  have e3 := Option.some.inj e2
  injection e3 with _ e4 e5
  have e6 := h2.cn
  exact ⟨by rw [e5, ← e6, e4]; exact u1, by rw [e5]; exact u2⟩
set_option maxRecDepth 100000 in
set_option maxHeartbeats 30000000 in
theorem sgAlone_any (x0 : CaseV) (x1 : Crt × Int × Sgn) (w : World) (q0 : QCase w x0) (q1 : QMore w x1) : Calls Tryz.prog 7 #[.agg (CCase x0).toArray, .agg (CMore x1).toArray] w (Yes w) := by
  obtain ⟨⟨K0, K1, K2⟩, ds, at_, oth⟩ := x0
  obtain ⟨c, m, x⟩ := x1
  obtain ⟨qk, dl, dm, qo⟩ := q0
  obtain ⟨qc, qm, qx⟩ := q1
  simp only at qk dl dm qo qc qm qx
  replace qc := qc.ok
  replace dl := Lib.hid dl
  obtain ⟨L0, hL0⟩ : ∃ L, L = caseCells K0 K2.length K1 ds at_ oth := ⟨_, rfl⟩
  obtain ⟨L1, hL1⟩ : ∃ L, L = CMore (c, m, x) := ⟨_, rfl⟩
  rw [show CCase ⟨(K0, K1, K2), ds, at_, oth⟩ = L0 by rw [hL0]; simp [CaseV.cells, caseCells, Sq], ← hL1]
  replace hL0 := Lib.hid hL0
  replace hL1 := Lib.hid hL1
  obtain ⟨g0, hg0⟩ : ∃ g, g = w.heap.size := ⟨_, rfl⟩
  obtain ⟨u0, hu0⟩ : ∃ u, u = w.alloc (.cells L0.toArray 61) := ⟨_, rfl⟩
  obtain ⟨w0, hw0⟩ : ∃ u, u = u0.alloc (.cells L1.toArray 69) := ⟨_, rfl⟩
  obtain ⟨gb, hgb⟩ : ∃ g, g = w.heap.size + 1 := ⟨_, rfl⟩
  have hu1 : u0.heap.size = gb := by rw [hu0, hgb]; simp
  have eu : Below w.heap.size w u0 := by rw [hu0]; exact (Below.refl _ _).alloc (Nat.le_refl _) _
  have ev : Below u0.heap.size u0 w0 := by rw [hw0]; exact (Below.refl _ _).alloc (Nat.le_refl _) _
  have hE : Below w.heap.size w w0 := eu.trans (ev.mono eu.size)
  have B0 : Cut u0 g0 0 L0 := by rw [hu0, hg0]; exact Cut.of_heap (heap_alloc_new _ _) fun i v hv => by simpa using hv
  replace B0 := B0.below ev
  have B1 : Cut w0 gb 0 L1 := by rw [hw0, ← hu1]; exact Cut.of_heap (heap_alloc_new _ _) fun i v hv => by simpa using hv
  go_enter Tryz.func7, Tryz.ntmps7
  go_upto_region 1 with fail
  refine wp_world (W' := w0) (by rw [hw0, hu0]) ?_
  rw [← hgb, ← hg0]
  clear hw0 hu0 eu ev hu1
  have hbb : gb = g0 + 1 := by rw [hgb, hg0]
  replace hgb := Lib.hid hgb
  replace hbb := Lib.hid hbb
  replace hg0 := Lib.hid hg0
  have lt0 : w.heap.size ≤ g0 := Nat.le_of_eq hg0.out.symm
  have lc : Hid (L0.length = 35) := by rw [hL0.out]; exact case_length _ _ _ _ _ _ dl.out
  replace B0 : Row w0 g0 0 L0 := Row.of_cut B0
  obtain ⟨P0, P2⟩ := case_parts (by rw [← hL0.out]; exact B0) dl.out
  clear P2
  obtain ⟨R1, R2⟩ := (show Row w0 gb 0 (c.cells ++ ([.int .i64 m] ++ x.cells)) by have q := Row.of_cut B1; rw [hL1.out] at q; simpa [CMore] using q).split
  obtain ⟨R2, R3⟩ := R2.split
  rw [Crt.cells_length] at R2 R3
  replace R3 : Row w0 gb 25 x.cells := R3
  have hco := qc.below hE
  have hxo := qx.below hE
  clear B1
  go_upto_region 2 with (first
    | ((with_reducible refine wpList_load_mid ?_ 30 (.tmp 17) ?_ gb 0 ?_ c.cells _ R1.rng Tryz.underlying30 ?_ (sz_crt _) ?_); (· rfl); (· rfl); (· rfl); (· rfl))
    | ((with_reducible refine wpList_alloc_row ?_ 30 ?_ Crt.none.cells zero_cert ?_); (· rfl); (· rfl); intro g1 wa1 hg1 V1 z1 e1)
    | ((with_reducible refine wpList_store_cut ?_ 30 (.tmp 5) (.tmp 18) ?_ g1 0 c.cells _ ?_ ?_ V1 ?_ (sz_crt _) (crt_one _) ?_); (· rfl); (· rfl); (· rfl); (· rfl); (· rfl); intro w1 hst1))
  have b1 : Below w0.heap.size w0 w1 := below_only e1 hst1.1 e1.size (by have := hg1.out; omega)
  have D5 : Row w1 g1 0 c.cells := Row.of_cut hst1.2.2.1
  have lt1 : w.heap.size ≤ g1 := by have := hE.size; have := hg1.out; omega
  have rt1 : w0.heap.size = g1 := hg1.out.symm
  replace rt1 := Lib.hid rt1
  clear V1 z1 e1 hst1
  have l_g0_1 : g0 < g1 := by have := B0.1; have := hg1.out; omega
  have l_gb_1 : gb < g1 := by have := R1.1; have := hg1.out; omega
  replace B0 := B0.below b1
  replace P0 := P0.below b1
  replace R1 := R1.below b1
  replace R2 := R2.below b1
  replace R3 := R3.below b1
  replace hco := hco.below b1
  replace hxo := hxo.below b1
  replace hE := hE.trans (b1.mono hE.size)
  clear b1
  go_upto_region 3 with (first
    | ((with_reducible refine wpList_load_mid ?_ 67 (.tmp 19) ?_ gb 25 ?_ x.cells _ R3.rng Tryz.underlying67 ?_ (sz_sgn _) ?_); (· rfl); (· rfl); (· rfl); (· rfl))
    | ((with_reducible refine wpList_alloc_row ?_ 67 ?_ sgn0 zero_sgn0 ?_); (· rfl); (· rfl); intro g2 wa2 hg2 V2 z2 e2)
    | ((with_reducible refine wpList_store_cut ?_ 67 (.tmp 6) (.tmp 20) ?_ g2 0 x.cells _ ?_ ?_ V2 ?_ (sz_sgn _) (sgn_one _) ?_); (· rfl); (· rfl); (· rfl); (· rfl); (· rfl); intro w2 hst2))
  have b2 : Below w1.heap.size w1 w2 := below_only e2 hst2.1 e2.size (by have := hg2.out; omega)
  have D6 : Row w2 g2 0 x.cells := Row.of_cut hst2.2.2.1
  have lt2 : w.heap.size ≤ g2 := by have := hE.size; have := hg2.out; omega
  have rt2 : w1.heap.size = g2 := hg2.out.symm
  replace rt2 := Lib.hid rt2
  clear V2 z2 e2 hst2
  have l_g0_2 : g0 < g2 := by have := B0.1; have := hg2.out; omega
  have l_gb_2 : gb < g2 := by have := R1.1; have := hg2.out; omega
  have l_g1_2 : g1 < g2 := by have := D5.1; have := hg2.out; omega
  replace B0 := B0.below b2
  replace P0 := P0.below b2
  replace R1 := R1.below b2
  replace R2 := R2.below b2
  replace R3 := R3.below b2
  replace hco := hco.below b2
  replace hxo := hxo.below b2
  replace D5 := D5.below b2
  replace hE := hE.trans (b2.mono hE.size)
  clear b2
  have ka : w2.cell? ⟨gb, 24, none⟩ = some (.int .i64 m) := R2.at_ (i := 0) rfl rfl
  go_wp2_with (refine wpList_load_mid rfl 61 (.tmp 2) rfl g0 0 rfl L0 _ B0.2 Tryz.underlying61 rfl (by rw [lc.out]; exact sz_case) ?_)
  clear ka
  rw [show (Value.agg L0.toArray) = .agg (caseCells K0 K2.length K1 ds at_ oth).toArray by rw [hL0.out]]
  refine (made_case2 (qk.below hE) dl.out dm qo).mono ?_
  rintro r3 w3 ⟨G, cs, s, o, sum, gA, gz, rfl, M, hk, hcap, D, b⟩
  replace B0 := B0.below b
  replace P0 := P0.below b
  replace R1 := R1.below b
  replace R2 := R2.below b
  replace R3 := R3.below b
  replace hco := hco.below b
  replace hxo := hxo.below b
  replace D5 := D5.below b
  replace D6 := D6.below b
  replace hE := hE.trans (b.mono hE.size)
  clear b
  replace hk := Lib.hid hk
  unfold Sgd.val
  clear B0 R1 R2 R3
  go_upto_region 5 with (first
    | ((with_reducible refine wpList_alloc_row ?_ 48 ?_ sgd0 zero_sgd0 ?_); (· rfl); (· rfl); intro g4 wa4 hg4 V4 z4 e4)
    | ((with_reducible refine wpList_store_cut ?_ 48 (.tmp 8) (.tmp 24) ?_ g4 0 G.cells _ ?_ ?_ V4 ?_ (sz_sg _) (sgd_one _) ?_); (· rfl); (· rfl); (· rfl); (· rfl); (· rfl); intro w4 hst4))
  have b4 : Below w3.heap.size w3 w4 := below_only e4 hst4.1 e4.size (by have := hg4.out; omega)
  have D8 : Row w4 g4 0 G.cells := Row.of_cut hst4.2.2.1
  have lt4 : w.heap.size ≤ g4 := by have := hE.size; have := hg4.out; omega
  have rt4 : w3.heap.size = g4 := hg4.out.symm
  replace rt4 := Lib.hid rt4
  clear V4 z4 e4 hst4
  have l_g1_4 : g1 < g4 := by have := D5.1; have := hg4.out; omega
  have l_g2_4 : g2 < g4 := by have := D6.1; have := hg4.out; omega
  replace P0 := P0.below b4
  replace hco := hco.below b4
  replace hxo := hxo.below b4
  replace D5 := D5.below b4
  replace D6 := D6.below b4
  replace M := M.below b4
  replace hE := hE.trans (b4.mono hE.size)
  clear b4
  have hgk := M.kind
  have hoo : o.ok w4 := M.cok o (List.mem_of_getElem? D.spot)
  have so := M.sok s (by simp)
  obtain ⟨kv, hkv⟩ : ∃ kv, kv = G.kind := ⟨_, rfl⟩
  rw [← hkv] at hgk hk
  replace hkv := Lib.hid hkv
  have lcs : Hid (cs.length = oth % 3 + 2) := D.len
  have hCA := M.cA.resolve_left (by rintro rfl; have := lcs.out; simp at this)
  have hcn := M.cn
  replace hCA := Lib.hid hCA
  replace hcn := Lib.hid hcn
  have MR : Row w4 gz 0 s.cells := by have q := M.sR 0 s rfl; simpa using q
  have k3 : w4.cell? ⟨g4, 3, none⟩ = some (.slice (some ⟨gz, 0, none⟩) 1 G.sc) := by
    have q := D8.at_ (i := 3) (o' := 3) (v := .slice G.SA G.sn G.sc) rfl rfl
    rwa [M.sA.resolve_left (by simp), M.sn] at q
  go_upto_region 6 with (first
    | ((with_reducible refine wpList_load_mid ?_ 67 (.tmp 27) ?_ gz 0 ?_ s.cells _ MR.rng Tryz.underlying67 ?_ (sz_sgn _) ?_); (· rfl); (· rfl); (· rfl); (· rfl))
    | ((with_reducible refine wpList_alloc_row ?_ 67 ?_ sgn0 zero_sgn0 ?_); (· rfl); (· rfl); intro g5 wa5 hg5 V5 z5 e5)
    | ((with_reducible refine wpList_store_cut ?_ 67 (.tmp 9) (.tmp 28) ?_ g5 0 s.cells _ ?_ ?_ V5 ?_ (sz_sgn _) (sgn_one s) ?_); (· rfl); (· rfl); (· rfl); (· rfl); (· rfl); intro w5 hst5))
  have b5 : Below w4.heap.size w4 w5 := below_only e5 hst5.1 e5.size (by have := hg5.out; omega)
  have D9 : Row w5 g5 0 s.cells := Row.of_cut hst5.2.2.1
  have lt5 : w.heap.size ≤ g5 := by have := hE.size; have := hg5.out; omega
  have rt5 : w4.heap.size = g5 := hg5.out.symm
  replace rt5 := Lib.hid rt5
  clear V5 z5 e5 hst5
  have l_g1_5 : g1 < g5 := by have := D5.1; have := hg5.out; omega
  have l_g2_5 : g2 < g5 := by have := D6.1; have := hg5.out; omega
  have l_g4_5 : g4 < g5 := by have := D8.1; have := hg5.out; omega
  replace P0 := P0.below b5
  replace hco := hco.below b5
  replace hxo := hxo.below b5
  replace D5 := D5.below b5
  replace D6 := D6.below b5
  replace M := M.below b5
  replace D8 := D8.below b5
  replace hgk := hgk.below b5
  replace hoo := hoo.below b5
  replace so := so.below b5
  replace hE := hE.trans (b5.mono hE.size)
  clear b5
  clear MR k3
  have kA : w5.cell? ⟨g1, 2, none⟩ = some (.slice c.issuer.A c.issuer.xs.length c.issuer.c) := D5.at_ (i := 2) rfl rfl
  have kB : w5.cell? ⟨g5, 0, none⟩ = some (.slice s.issuer.A s.issuer.xs.length s.issuer.c) := D9.at_ (i := 0) rfl rfl
  have kC : w5.cell? ⟨g1, 4, none⟩ = some (.slice c.serial.A c.serial.xs.length c.serial.c) := D5.at_ (i := 4) rfl rfl
  have kD : w5.cell? ⟨g5, 1, none⟩ = some (.slice s.serial.A s.serial.xs.length s.serial.c) := D9.at_ (i := 1) rfl rfl
  have kE : w5.cell? ⟨g4, 2, none⟩ = some (.slice (some ⟨gA, 0, none⟩) cs.length G.cc) := by
    have q := D8.at_ (i := 2) (o' := 2) (v := .slice G.CA G.cn G.cc) rfl rfl
    rwa [hCA.out, hcn.out] at q
  obtain ⟨bb, hbb⟩ : ∃ bb : Bool, bb = (decide (c.issuer.xs = s.issuer.xs) && decide (c.serial.xs = s.serial.xs) || decide (m < 0) || decide ((cs.length : Int) < m)) := ⟨_, rfl⟩
  replace hbb := Lib.hid hbb
  obtain ⟨p1, hp1⟩ : ∃ p, p = decide (c.issuer.xs = s.issuer.xs) := ⟨_, rfl⟩
  obtain ⟨p2, hp2⟩ : ∃ p, p = decide (c.serial.xs = s.serial.xs) := ⟨_, rfl⟩
  have Q1 := eqBytes_any c.issuer.A s.issuer.A c.issuer.xs.length s.issuer.xs.length c.issuer.c s.issuer.c c.issuer.xs s.issuer.xs w5 rfl rfl hco.issuer.rd so.issuer.rd hco.issuer.lim so.issuer.lim
  have Q2 := eqBytes_any c.serial.A s.serial.A c.serial.xs.length s.serial.xs.length c.serial.c s.serial.c c.serial.xs s.serial.xs w5 rfl rfl hco.serial.rd so.serial.rd hco.serial.lim so.serial.lim
  rw [← hp1] at Q1 hbb
  rw [← hp2] at Q2 hbb
  replace hp1 := Lib.hid hp1
  replace hp2 := Lib.hid hp2
  simp only [Act.put, List.setIfInBounds_toArray, List.set_cons_zero, List.set_cons_succ]
  go_cut [51] from 29 to 50 (fun s51 wx => s51 = .bool bb ∧ wx = w5)
  case first =>
    have hat : m < 0 ∨ (¬ m < 0 ∧ (cs.length : Int) < m) ∨ (¬ m < 0 ∧ ¬ (cs.length : Int) < m) := by omega
    cases p1
    case false =>
      rcases hat with z | ⟨z, z2⟩ | ⟨z, z2⟩
      · have z9 : True := trivial
        go_wp2_with fail
        refine Q1.mono ?_
        rintro r w' ⟨rfl, rfl⟩
        go_wp2_with fail
        go_meet
        case rel => exact ⟨by rw [hbb.out]; simp [z], rfl⟩
      · have z9 : True := trivial
        go_wp2_with fail
        refine Q1.mono ?_
        rintro r w' ⟨rfl, rfl⟩
        go_wp2_with fail
        go_meet
        case rel => exact ⟨by rw [hbb.out]; simp [z, z2], rfl⟩
      · have z9 : True := trivial
        go_wp2_with fail
        refine Q1.mono ?_
        rintro r w' ⟨rfl, rfl⟩
        go_wp2_with fail
        go_meet
        case rel => exact ⟨by rw [hbb.out]; simp [z, z2], rfl⟩
    case true =>
      cases p2
      case false =>
        rcases hat with z | ⟨z, z2⟩ | ⟨z, z2⟩
        · have z9 : True := trivial
          go_wp2_with fail
          refine Q1.mono ?_
          rintro r w' ⟨rfl, rfl⟩
          go_wp2_with fail
          refine Q2.mono ?_
          rintro r w' ⟨rfl, rfl⟩
          go_wp2_with fail
          go_meet
          case rel => exact ⟨by rw [hbb.out]; simp [z], rfl⟩
        · have z9 : True := trivial
          go_wp2_with fail
          refine Q1.mono ?_
          rintro r w' ⟨rfl, rfl⟩
          go_wp2_with fail
          refine Q2.mono ?_
          rintro r w' ⟨rfl, rfl⟩
          go_wp2_with fail
          go_meet
          case rel => exact ⟨by rw [hbb.out]; simp [z, z2], rfl⟩
        · have z9 : True := trivial
          go_wp2_with fail
          refine Q1.mono ?_
          rintro r w' ⟨rfl, rfl⟩
          go_wp2_with fail
          refine Q2.mono ?_
          rintro r w' ⟨rfl, rfl⟩
          go_wp2_with fail
          go_meet
          case rel => exact ⟨by rw [hbb.out]; simp [z, z2], rfl⟩
      case true =>
        go_wp2_with fail
        refine Q1.mono ?_
        rintro r w' ⟨rfl, rfl⟩
        go_wp2_with fail
        refine Q2.mono ?_
        rintro r w' ⟨rfl, rfl⟩
        go_wp2_with fail
        go_meet
        case rel => exact ⟨by rw [hbb.out]; simp, rfl⟩
  case rest =>
    obtain ⟨rfl, hw⟩ := hcut
    rw [hw]
    clear hw Q1 Q2 kA kB kC kD
    cases bb
    case true =>
      go_wp2_with fail
      refine (works15_any _).mono ?_
      rintro r w' ⟨rfl, b⟩
      go_wp2_with fail
      go_ret
      exact ⟨rfl, hE.trans (b.mono hE.size)⟩
    case false =>
      have hb := hbb.out
      rw [hp1.out, hp2.out] at hb
      have hb2 : (decide (c.issuer.xs = s.issuer.xs) && decide (c.serial.xs = s.serial.xs)) = false ∧ ¬ m < 0 ∧ ¬ (cs.length : Int) < m := by
        rw [eq_comm, Bool.or_eq_false_iff, Bool.or_eq_false_iff] at hb
        exact ⟨hb.1.1, by simpa using hb.1.2, by simpa using hb.2⟩
      obtain ⟨hfit, hm0, hml⟩ := hb2
      have hfit : fitsB s c = false := hfit
      clear hb hbb hp1 hp2 kE
      obtain ⟨a0, ha0⟩ : ∃ a0 : Nat, m = (a0 : Int) := ⟨m.toNat, by omega⟩
      subst ha0
      have hal : Hid (a0 ≤ cs.length) := by show a0 ≤ cs.length; omega
      clear hm0 hml
      have r1 : rightAt cs [s] 0 kv.xs ds = some o := by rw [hk.out]; simp [rightAt, D.right]
      have Q1 := right_mem M 0 (by omega) kv hgk ds dl.out dm
      rw [r1] at Q1
      have k0 : w5.cell? ⟨g4, 0, none⟩ = some (.slice kv.A kv.xs.length kv.c) := by rw [hkv.out]; exact D8.at_ (i := 0) rfl rfl
      go_wp2_with (first
        | ((with_reducible refine wpList_load_mid ?_ 48 (.tmp 8) ?_ g4 0 ?_ G.cells _ D8.rng Tryz.underlying48 ?_ (sz_sg _) ?_); (· rfl); (· rfl); (· rfl); (· rfl))
        | ((with_reducible refine wpList_load_mid ?_ 49 (.tmp 57) ?_ g0 1 ?_ (ints .u8 ds) _ P0.rng Tryz.underlying49 ?_ (sz_arr dl) ?_); (· rfl); (· rfl); (· rfl); (· rfl)))
      refine (Q1).mono ?_
      rintro r6 w6 ⟨rfl, b⟩
      replace P0 := P0.below b
      replace hco := hco.below b
      replace hxo := hxo.below b
      replace D5 := D5.below b
      replace D6 := D6.below b
      replace M := M.below b
      replace D8 := D8.below b
      replace hgk := hgk.below b
      replace hoo := hoo.below b
      replace so := so.below b
      replace D9 := D9.below b
      replace hE := hE.trans (b.mono hE.size)
      clear b
      clear Q1 k0 r1
      go_upto_region 9 with (first
        | ((with_reducible refine wpList_alloc_row ?_ 30 ?_ Crt.none.cells zero_cert ?_); (· rfl); (· rfl); intro g7 wa7 hg7 V7 z7 e7)
        | ((with_reducible refine wpList_store_cut ?_ 30 (.tmp 10) (.tmp 60) ?_ g7 0 o.cells _ ?_ ?_ V7 ?_ (sz_crt _) (crt_one _) ?_); (· rfl); (· rfl); (· rfl); (· rfl); (· rfl); intro w7 hst7))
      have b7 : Below w6.heap.size w6 w7 := below_only e7 hst7.1 e7.size (by have := hg7.out; omega)
      have D10 : Row w7 g7 0 o.cells := Row.of_cut hst7.2.2.1
      have lt7 : w.heap.size ≤ g7 := by have := hE.size; have := hg7.out; omega
      have rt7 : w6.heap.size = g7 := hg7.out.symm
      replace rt7 := Lib.hid rt7
      clear V7 z7 e7 hst7
      have l_g1_7 : g1 < g7 := by have := D5.1; have := hg7.out; omega
      have l_g2_7 : g2 < g7 := by have := D6.1; have := hg7.out; omega
      have l_g4_7 : g4 < g7 := by have := D8.1; have := hg7.out; omega
      have l_g5_7 : g5 < g7 := by have := D9.1; have := hg7.out; omega
      replace P0 := P0.below b7
      replace hco := hco.below b7
      replace hxo := hxo.below b7
      replace D5 := D5.below b7
      replace D6 := D6.below b7
      replace M := M.below b7
      replace D8 := D8.below b7
      replace hgk := hgk.below b7
      replace hoo := hoo.below b7
      replace so := so.below b7
      replace D9 := D9.below b7
      replace hE := hE.trans (b7.mono hE.size)
      clear b7
      have hEp := hE
      have EC : Below w7.heap.size w7 w7 := Below.refl _ _
      go_upto_region 10 with (first
        | ((with_reducible refine wpList_load_mid ?_ 48 (.tmp 8) ?_ g4 0 ?_ G.cells _ D8.rng Tryz.underlying48 ?_ (sz_sg _) ?_); (· rfl); (· rfl); (· rfl); (· rfl))
        | ((with_reducible refine wpList_alloc_row ?_ 48 ?_ sgd0 zero_sgd0 ?_); (· rfl); (· rfl); intro g8 wa8 hg8 V8 z8 e8)
        | ((with_reducible refine wpList_store_cut ?_ 48 (.tmp 12) (.tmp 62) ?_ g8 0 G.cells _ ?_ ?_ V8 ?_ (sz_sg _) (sgd_one _) ?_); (· rfl); (· rfl); (· rfl); (· rfl); (· rfl); intro w8 hst8))
      have b8 : Below w7.heap.size w7 w8 := below_only e8 hst8.1 e8.size (by have := hg8.out; omega)
      have D12 : Cut w8 g8 0 G.cells := hst8.2.2.1
      have lt8 : w.heap.size ≤ g8 := by have := hE.size; have := EC.size; have := hg8.out; omega
      have rt8 : w7.heap.size = g8 := hg8.out.symm
      replace rt8 := Lib.hid rt8
      clear V8 z8 e8 hst8
      replace hE := hE.trans (b8.mono hE.size)
      replace EC := EC.trans (b8.mono EC.size)
      clear b8
      have kc : w8.cell? ⟨g8, 2, none⟩ = some (.slice G.CA G.cn G.cc) := by have q := D12.cell (i := 2) (v := .slice G.CA G.cn G.cc) (rfl); rwa [Nat.zero_add] at q
      have kf : w8.frozen? ⟨g8, 2, none⟩ = false := by have q := D12.frozen (i := 2) (v := .slice G.CA G.cn G.cc) (rfl); rwa [Nat.zero_add] at q
      go_upto_region 11 with fail
      obtain ⟨w9, hw9⟩ : ∃ W, W = w8.setCell ⟨g8, 2, none⟩ (.slice none 0 0) := ⟨_, rfl⟩
      refine wp_world hw9 ?_
      replace EC := EC.setCell (p := ⟨g8, 2, none⟩) (by show _ ≤ g8; exact Nat.le_of_eq rt8.out) (.slice none 0 0)
      rw [← hw9] at EC
      replace hE := hE.setCell (p := ⟨g8, 2, none⟩) (by show _ ≤ g8; exact lt8) (.slice none 0 0)
      rw [← hw9] at hE
      replace D12 : Cut w9 g8 0 (Sgd.cells { G with CA := none, cn := 0, cc := 0 }) := by rw [hw9]; have q := D12.set (i := 2) (rfl) (.slice none 0 0); rw [Nat.zero_add] at q; exact q
      clear hw9
      clear kc kf
      obtain ⟨BB, hBB⟩ : ∃ BB, BB = w9.heap.size := ⟨_, rfl⟩
      have hB12 : g8 < BB := by rw [hBB]; exact D12.1
      have hBP : w7.heap.size ≤ BB := by rw [hBB]; exact EC.size
      have hBC : BB ≤ w9.heap.size := by rw [hBB]; exact Nat.le_refl _
      replace hBB := Lib.hid hBB
      try simp only [Act.put, List.setIfInBounds_toArray, List.set_cons_zero, List.set_cons_succ]
      go_cut [] from 64 to 71 (fun wx => ∃ (A : Option Addr) (cA : Nat), Cut wx g8 0 (Sgd.cells { G with CA := A, cn := a0, cc := cA }) ∧ wx.ownsRow BB 30 24 (.slice A a0 cA) a0 (crtCells (cs.take a0)) ∧ Below w7.heap.size w7 wx ∧ BB ≤ wx.heap.size)
      case first =>
        have hdr : Below w9.heap.size w9 w9.drew := below_drewN (Below.refl _ _) 1
        have DX := D12.drew
        have kc : w9.drew.cell? ⟨g8, 2, none⟩ = some (.slice none 0 0) := by have q := DX.cell (i := 2) (v := .slice none 0 0) rfl; rwa [Nat.zero_add] at q
        have kf : w9.drew.frozen? ⟨g8, 2, none⟩ = false := by have q := DX.frozen (i := 2) (v := .slice none 0 0) rfl; rwa [Nat.zero_add] at q
        have kE : w9.drew.cell? ⟨g4, 2, none⟩ = some (.slice (some ⟨gA, 0, none⟩) cs.length G.cc) := by
          have q := ((D8.below EC).below hdr).at_ (i := 2) (o' := 2) (v := .slice G.CA G.cn G.cc) rfl rfl
          rwa [hCA.out, hcn.out] at q
        have z1 : (0 : Int) ≤ (a0 : Int) := by omega
        have z2 : (a0 : Int) ≤ (G.cc : Int) := by have := hal.out; have := hcap.1; omega
        have RT : Row w9.drew gA 0 (crtCells (cs.take a0)) := by
          have q := ((M.below EC).cR.below hdr)
          rw [← List.take_append_drop a0 cs, crtCells_append] at q
          exact q.split.1
        have lt0 : (cs.take a0).length = a0 := by rw [List.length_take]; have := hal.out; omega
        have LT := Lib.hid lt0
        clear lt0
        have s0 : w9.drew.heap.size = w9.heap.size := rfl
        go_region_law (first | (refine step_append_crt rfl rfl (.tmp 65) (.tmp 69) rfl BB (.slice none 0 0) [] 0 (by kernel_rfl) rfl (World.ownsRow_nil _ _ _ _) gA 0 G.cc a0 (cs.take a0) (by kernel_rfl) LT.out.symm RT (by have := hal.out; have := lcs.out; omega) hBC ?_; intro v2 w2 o2 h2; have o3 : w2.ownsRow BB 30 24 v2 a0 (crtCells (cs.take a0)) := (by simpa using o2); have e2 := h2 _ (Below.refl _ _); have s2 := e2.size; obtain ⟨gx, A2, cA2, rfl, -, -, -⟩ := row_own o3 (by omega); have D2 := DX.belowB e2 hB12; have kc2 : w2.cell? ⟨g8, 2, none⟩ = some (.slice none 0 0) := (by have q := D2.cell (i := 2) (v := .slice none 0 0) rfl; rwa [Nat.zero_add] at q); have kf2 : w2.frozen? ⟨g8, 2, none⟩ = false := (by have q := D2.frozen (i := 2) (v := .slice none 0 0) rfl; rwa [Nat.zero_add] at q)))
        all_goals go_wp2_with fail
        all_goals go_meet
        all_goals
          case rel =>
            refine ⟨A2, cA2, ?_, ?_, ?_, ?_⟩
            · have q := D2.set (i := 2) (v := .slice none 0 0) rfl (.slice A2 a0 cA2)
              rw [Nat.zero_add] at q
              exact q
            · exact row_keep o3 fun k hk => Below.heap_setCell w2 ⟨g8, 2, none⟩ _ k (by have := (o3.lt k hk).1; show k ≠ g8; omega)
            · exact ((EC.trans (hdr.mono EC.size)).trans (e2.mono hBP)).setCell (p := ⟨g8, 2, none⟩) (by show _ ≤ g8; exact Nat.le_of_eq rt8.out) _
            · have : w9.drew.heap.size = w9.heap.size := rfl
              simp
              omega
      case rest =>
        obtain ⟨A1, c1, D12, own1, EC, hBC⟩ := hcut
        obtain ⟨W1, hW1⟩ : ∃ W1, W1 = wc := ⟨_, rfl⟩
        subst hW1
        have hE := hEp.trans (EC.mono hEp.size)
        have LT : Hid ((cs.take a0).length = a0) := by show (cs.take a0).length = a0; rw [List.length_take]; have := hal.out; omega
        have kc : W1.cell? ⟨g8, 2, none⟩ = some (.slice A1 a0 c1) := by have q := D12.cell (i := 2) (v := .slice A1 a0 c1) rfl; rwa [Nat.zero_add] at q
        have y5 := (D5.below EC)
        go_upto_region 13 with (first
          | ((with_reducible refine wpList_load_mid ?_ 30 (.tmp 5) ?_ g1 0 ?_ c.cells _ y5.rng Tryz.underlying30 ?_ (sz_crt _) ?_); (· rfl); (· rfl); (· rfl); (· rfl))
          | ((with_reducible refine wpList_build_certV ?_ (.tmp 74) ?_ c ?_ ?_); (· rfl); (· rfl); (· rfl); intro gN wN hgN RN eN)
          | ((at_builtin; (refine wpList_append_crt rfl rfl (.tmp 73) (.tmp 75) rfl BB (.slice A1 a0 c1) (cs.take a0) a0 rfl LT.out.symm (row_below own1 eN) gN 0 1 1 [c] rfl rfl (by simpa [crtCells] using RN) (by have := hal.out; have := lcs.out; omega) (by have := eN.size; omega) ?_; intro v2 w2 o2 h2; have e2 := h2 _ (Below.refl _ _); have s2 := e2.size; obtain ⟨gx, cx, rfl, -, -, Rx, hgx⟩ := row_own2 o2 (by omega); have D2 := (D12.below eN).belowB e2 hB12; have kc2 : w2.cell? ⟨g8, 2, none⟩ = some (.slice A1 a0 c1) := (by have q := D2.cell (i := 2) (v := .slice A1 a0 c1) rfl; rwa [Nat.zero_add] at q); have kf2 : w2.frozen? ⟨g8, 2, none⟩ = false := (by have q := D2.frozen (i := 2) (v := .slice A1 a0 c1) rfl; rwa [Nat.zero_add] at q)))))
        obtain ⟨W2, hW2⟩ : ∃ W, W = w2.setCell ⟨g8, 2, none⟩ (.slice (some ⟨gx, 0, none⟩) (a0 + 1) cx) := ⟨_, rfl⟩
        refine wp_world hW2 ?_
        have D13 : Cut W2 g8 0 (Sgd.cells { G with CA := some ⟨gx, 0, none⟩, cn := a0 + 1, cc := cx }) := by
          have q := D2.set (i := 2) (v := .slice A1 a0 c1) rfl (.slice (some ⟨gx, 0, none⟩) (a0 + 1) cx)
          rw [Nat.zero_add] at q
          rw [hW2]
          exact q
        have own2 : W2.ownsRow BB 30 24 (.slice (some ⟨gx, 0, none⟩) (a0 + 1) cx) (a0 + 1) (crtCells (cs.take a0 ++ [c])) := by
          rw [hW2]
          exact row_keep o2 fun k hk => Below.heap_setCell w2 ⟨g8, 2, none⟩ _ k (by have := (o2.lt k hk).1; show k ≠ g8; omega)
        have hBC2 : BB ≤ W2.heap.size := by rw [hW2]; have := eN.size; simp; omega
        have EC2 : Below w7.heap.size w7 W2 := by
          rw [hW2]
          exact ((EC.trans (eN.mono EC.size)).trans (e2.mono hBP)).setCell (p := ⟨g8, 2, none⟩) (by show _ ≤ g8; exact Nat.le_of_eq rt8.out) _
        clear hW2 o2 h2 e2 s2 D2 kc2 kf2 Rx hgx RN eN hgN own1 D12 kc hBC y5
        replace EC := EC2
        have hE := hEp.trans (EC.mono hEp.size)
        clear EC2
        obtain ⟨a1, ha1⟩ : ∃ a, a = a0 + 1 := ⟨_, rfl⟩
        rw [← ha1] at D13 own2
        rw [← ha1]
        replace ha1 := Lib.hid ha1
        go_cut [] from 78 to 85 (fun wx => ∃ (A : Option Addr) (cA nA : Nat), Cut wx g8 0 (Sgd.cells { G with CA := A, cn := nA, cc := cA }) ∧ nA = cs.length + 1 ∧ wx.ownsRow BB 30 24 (.slice A nA cA) nA (crtCells ((cs.take a0 ++ [c]) ++ cs.drop a0)) ∧ Below w7.heap.size w7 wx ∧ BB ≤ wx.heap.size)
        case first =>
          have hdr : Below W2.heap.size W2 W2.drew := below_drewN (Below.refl _ _) 1
          have s0 : W2.drew.heap.size = W2.heap.size := rfl
          have DX := D13.drew
          have kc : W2.drew.cell? ⟨g8, 2, none⟩ = some (.slice (some ⟨gx, 0, none⟩) a1 cx) := by have q := DX.cell (i := 2) (v := .slice (some ⟨gx, 0, none⟩) a1 cx) rfl; rwa [Nat.zero_add] at q
          have kE : W2.drew.cell? ⟨g4, 2, none⟩ = some (.slice (some ⟨gA, 0, none⟩) cs.length G.cc) := by
            have q := ((D8.below EC).below hdr).at_ (i := 2) (o' := 2) (v := .slice G.CA G.cn G.cc) rfl rfl
            rwa [hCA.out, hcn.out] at q
          have z1 : (0 : Int) ≤ (a0 : Int) := by omega
          have z2 : (a0 : Int) ≤ (cs.length : Int) := by have := hal.out; omega
          have z3 : (cs.length : Int) ≤ (G.cc : Int) := by have := hcap.1; omega
          have RT : Row W2.drew gA (a0 * 24) (crtCells (cs.drop a0)) := by
            have q := ((M.below EC).cR.below hdr)
            rw [← List.take_append_drop a0 cs, crtCells_append] at q
            have q2 := q.split.2
            rwa [crtCells_length, List.length_take, Nat.zero_add, Nat.min_eq_left hal.out] at q2
          have LT2 : Hid ((cs.drop a0).length = cs.length - a0) := by show (cs.drop a0).length = _; rw [List.length_drop]
          have LT3 : Hid (a1 = (cs.take a0 ++ [c]).length) := by show a1 = _; rw [List.length_append, LT.out, ha1.out]; rfl
          have hBC3 : BB ≤ W2.drew.heap.size := hBC2
          by_cases hcc : G.cc = a0
          · have q1 : (G.cc = a0) = True := by simp [hcc]
            have q2 : Hid (cs.length - a0 = 0) := by show cs.length - a0 = 0; have := hcap.1; omega
            have qd : cs.drop a0 = [] := List.eq_nil_of_length_eq_zero (by rw [List.length_drop]; exact q2.out)
            have QD := Lib.hid qd
            clear qd
            have R0 : Row W2.drew gA 0 (crtCells (cs.drop a0)) := by rw [QD.out]; exact ⟨RT.1, fun i v hv => by simp [crtCells] at hv⟩
            go_region_law (first
              | (refine step_append_crt rfl rfl (.tmp 79) (.tmp 83) rfl BB (.slice (some ⟨gx, 0, none⟩) a1 cx) (cs.take a0 ++ [c]) a1 (by kernel_rfl) LT3.out (row_below own2 hdr) gA 0 0 (cs.length - a0) (cs.drop a0) (by kernel_rfl) LT2.out.symm R0 (by have := hal.out; have := lcs.out; have := ha1.out; omega) hBC3 ?_; intro v2 w2 o2 h2; have e2 := h2 _ (Below.refl _ _); have s2 := e2.size; obtain ⟨gy, cy, rfl, -, -, -, -⟩ := row_own2 o2 (by have := ha1.out; omega); have D2 := DX.belowB e2 hB12; have kc2 : w2.cell? ⟨g8, 2, none⟩ = some (.slice (some ⟨gx, 0, none⟩) a1 cx) := (by have q := D2.cell (i := 2) (v := .slice (some ⟨gx, 0, none⟩) a1 cx) rfl; rwa [Nat.zero_add] at q); have kf2 : w2.frozen? ⟨g8, 2, none⟩ = false := (by have q := D2.frozen (i := 2) (v := .slice (some ⟨gx, 0, none⟩) a1 cx) rfl; rwa [Nat.zero_add] at q))
              | (refine step_append_crt rfl rfl (.tmp 79) (.tmp 83) rfl BB (.slice (some ⟨gx, 0, none⟩) a1 cx) (cs.take a0 ++ [c]) a1 (by kernel_rfl) LT3.out (row_below own2 hdr) gA 0 (a0 - a0) (cs.length - a0) (cs.drop a0) (by kernel_rfl) LT2.out.symm R0 (by have := hal.out; have := lcs.out; have := ha1.out; omega) hBC3 ?_; intro v2 w2 o2 h2; have e2 := h2 _ (Below.refl _ _); have s2 := e2.size; obtain ⟨gy, cy, rfl, -, -, -, -⟩ := row_own2 o2 (by have := ha1.out; omega); have D2 := DX.belowB e2 hB12; have kc2 : w2.cell? ⟨g8, 2, none⟩ = some (.slice (some ⟨gx, 0, none⟩) a1 cx) := (by have q := D2.cell (i := 2) (v := .slice (some ⟨gx, 0, none⟩) a1 cx) rfl; rwa [Nat.zero_add] at q); have kf2 : w2.frozen? ⟨g8, 2, none⟩ = false := (by have q := D2.frozen (i := 2) (v := .slice (some ⟨gx, 0, none⟩) a1 cx) rfl; rwa [Nat.zero_add] at q)))
            all_goals go_wp2_with fail
            all_goals go_meet
            all_goals
              case rel =>
                refine ⟨some ⟨gy, 0, none⟩, cy, a1 + (cs.length - a0), ?_, by have := ha1.out; have := hal.out; omega, ?_, ?_, ?_⟩
                · have q := D2.set (i := 2) (v := .slice (some ⟨gx, 0, none⟩) a1 cx) rfl (.slice (some ⟨gy, 0, none⟩) (a1 + (cs.length - a0)) cy)
                  rw [Nat.zero_add] at q
                  exact q
                · exact row_keep o2 fun k hk => Below.heap_setCell w2 ⟨g8, 2, none⟩ _ k (by have := (o2.lt k hk).1; show k ≠ g8; omega)
                · exact ((EC.trans (hdr.mono EC.size)).trans (e2.mono hBP)).setCell (p := ⟨g8, 2, none⟩) (by show _ ≤ g8; exact Nat.le_of_eq rt8.out) _
                · simp
                  omega
          · have q1 : (G.cc = a0) = False := by simp [hcc]
            clear hcc
            go_region_law (first | (refine step_append_crt rfl rfl (.tmp 79) (.tmp 83) rfl BB (.slice (some ⟨gx, 0, none⟩) a1 cx) (cs.take a0 ++ [c]) a1 (by kernel_rfl) LT3.out (row_below own2 hdr) gA (a0 * 24) (G.cc - a0) (cs.length - a0) (cs.drop a0) (by kernel_rfl) LT2.out.symm RT (by have := hal.out; have := lcs.out; have := ha1.out; omega) hBC3 ?_; intro v2 w2 o2 h2; have e2 := h2 _ (Below.refl _ _); have s2 := e2.size; obtain ⟨gy, cy, rfl, -, -, -, -⟩ := row_own2 o2 (by have := ha1.out; omega); have D2 := DX.belowB e2 hB12; have kc2 : w2.cell? ⟨g8, 2, none⟩ = some (.slice (some ⟨gx, 0, none⟩) a1 cx) := (by have q := D2.cell (i := 2) (v := .slice (some ⟨gx, 0, none⟩) a1 cx) rfl; rwa [Nat.zero_add] at q); have kf2 : w2.frozen? ⟨g8, 2, none⟩ = false := (by have q := D2.frozen (i := 2) (v := .slice (some ⟨gx, 0, none⟩) a1 cx) rfl; rwa [Nat.zero_add] at q)))
            all_goals go_wp2_with fail
            all_goals go_meet
            all_goals
              case rel =>
                refine ⟨some ⟨gy, 0, none⟩, cy, a1 + (cs.length - a0), ?_, by have := ha1.out; have := hal.out; omega, ?_, ?_, ?_⟩
                · have q := D2.set (i := 2) (v := .slice (some ⟨gx, 0, none⟩) a1 cx) rfl (.slice (some ⟨gy, 0, none⟩) (a1 + (cs.length - a0)) cy)
                  rw [Nat.zero_add] at q
                  exact q
                · exact row_keep o2 fun k hk => Below.heap_setCell w2 ⟨g8, 2, none⟩ _ k (by have := (o2.lt k hk).1; show k ≠ g8; omega)
                · exact ((EC.trans (hdr.mono EC.size)).trans (e2.mono hBP)).setCell (p := ⟨g8, 2, none⟩) (by show _ ≤ g8; exact Nat.le_of_eq rt8.out) _
                · simp
                  omega
        case rest =>
          obtain ⟨A3, c3, nA, D12, hnA, own3, EC, hBC⟩ := hcut
          obtain ⟨W3, hW3⟩ : ∃ W3, W3 = wc := ⟨_, rfl⟩
          subst hW3
          have hE := hEp.trans (EC.mono hEp.size)
          obtain ⟨gy, cy, hsl, -, -, Ry, hgy⟩ := row_own2 own3 (by omega)
          cases hsl
          have nye : gy ≠ g8 := by omega
          replace hnA := Lib.hid hnA
          clear own3 hBC2 D13 own2 LT
          have y9 := (D9.below EC)
          have y6 := (D6.below EC)
          go_upto_region 15 with (first
            | ((with_reducible refine wpList_load_mid ?_ 67 (.tmp 9) ?_ g5 0 ?_ s.cells _ y9.rng Tryz.underlying67 ?_ (sz_sgn _) ?_); (· rfl); (· rfl); (· rfl); (· rfl))
            | ((with_reducible refine wpList_load_mid ?_ 67 (.tmp 6) ?_ g2 0 ?_ x.cells _ y6.rng Tryz.underlying67 ?_ (sz_sgn _) ?_); (· rfl); (· rfl); (· rfl); (· rfl))
            | ((with_reducible refine wpList_build_sgr2V ?_ (.tmp 86) (.tmp 87) ?_ s x ?_ ?_ ?_); (· rfl); (· rfl); (· rfl); (· rfl); intro gN wN hgN RN eN; have kc : wN.cell? ⟨g8, 3, none⟩ = some (.slice G.SA G.sn G.sc) := (by have q := (D12.below eN).cell (i := 3) (v := .slice G.SA G.sn G.sc) (by rfl); rwa [Nat.zero_add] at q); have kf : wN.frozen? ⟨g8, 3, none⟩ = false := (by have q := (D12.below eN).frozen (i := 3) (v := .slice G.SA G.sn G.sc) (by rfl); rwa [Nat.zero_add] at q)))
          have nN : gN ≠ g8 := by have := hgN.out; have := D12.1; omega
          have gG : w.heap.size ≤ gN := by have := hgN.out; have := hE.size; omega
          replace D12 := D12.below eN
          replace Ry := Ry.below eN
          replace hE := hE.trans (eN.mono hE.size)
          replace EC := EC.trans (eN.mono EC.size)
          clear eN
          clear kc kf y9 y6
          obtain ⟨w21, hw21⟩ : ∃ W, W = wN.setCell ⟨g8, 3, none⟩ (.slice (some ⟨gN, 0, none⟩) 2 2) := ⟨_, rfl⟩
          refine wp_world hw21 ?_
          replace EC := EC.setCell (p := ⟨g8, 3, none⟩) (by show _ ≤ g8; exact Nat.le_of_eq rt8.out) (.slice (some ⟨gN, 0, none⟩) 2 2)
          rw [← hw21] at EC
          replace hE := hE.setCell (p := ⟨g8, 3, none⟩) (by show _ ≤ g8; exact lt8) (.slice (some ⟨gN, 0, none⟩) 2 2)
          rw [← hw21] at hE
          replace D12 : Cut w21 g8 0 (Sgd.cells { G with CA := some ⟨gy, 0, none⟩, cn := nA, cc := c3, SA := some ⟨gN, 0, none⟩, sn := 2, sc := 2 }) := by rw [hw21]; have q := D12.set (i := 3) (rfl) (.slice (some ⟨gN, 0, none⟩) 2 2); rw [Nat.zero_add] at q; exact q
          replace RN := RN.far (p := ⟨g8, 3, none⟩) nN (.slice (some ⟨gN, 0, none⟩) 2 2)
          rw [← hw21] at RN
          replace Ry := Ry.far (p := ⟨g8, 3, none⟩) nye (.slice (some ⟨gN, 0, none⟩) 2 2)
          rw [← hw21] at Ry
          clear hw21
          have MB : SMemB { G with CA := some ⟨gy, 0, none⟩, cn := nA, cc := c3, SA := some ⟨gN, 0, none⟩, sn := 2, sc := 2 } ((cs.take a0 ++ [c]) ++ cs.drop a0) [s, x] gy 0 gN 0 w21 := ⟨M.kind.below EC, M.content.below EC, by rw [hnA.out]; simp; have := hal.out; omega, by simp; have := hal.out; have := lcs.out; omega, .inr rfl, Ry, fun d hd => by
              rcases List.mem_append.1 hd with hd | hd
              · rcases List.mem_append.1 hd with hd | hd
                · exact (M.cok d (List.mem_of_mem_take hd)).below EC
                · rw [List.mem_singleton.1 hd]; exact hco.below EC
              · exact (M.cok d (List.mem_of_mem_drop hd)).below EC, rfl, by simp, .inr rfl, fun i d hd => sgn_row RN hd, fun d hd => by
            rcases List.mem_cons.1 hd with rfl | hd
            · exact so.below EC
            · rw [List.mem_singleton.1 hd]; exact hxo.below EC⟩
          have Q1 := right_memB MB 0 (by omega) (fun i d hd hi => by
            have e0 : i = 0 := by omega
            subst e0
            have e1 : s = d := by simpa using hd
            subst e1
            exact ⟨M.sa s (by simp), fun d hd hf => by
              rcases List.mem_append.1 hd with hd | hd
              · rcases List.mem_append.1 hd with hd | hd
                · exact M.ck d (List.mem_of_mem_take hd)
                · rw [List.mem_singleton.1 hd, hfit] at hf; cases hf
              · exact M.ck d (List.mem_of_mem_drop hd)⟩) kv (hgk.below EC) ds dl.out dm
          have r1 : rightAt ((cs.take a0 ++ [c]) ++ cs.drop a0) [s, x] 0 kv.xs ds = some o := by
            have h2 : rightOf cs s kv.xs ds = some o := by rw [hk.out]; simp [D.right]
            unfold rightAt
            simp only [show ¬ ((0 : Int) < 0) by omega, if_false]
            show rightOf _ s kv.xs ds = _
            unfold rightOf at h2 ⊢
            rw [find_without hfit]
            exact h2
          rw [r1] at Q1
          have k0 : w21.cell? ⟨g4, 0, none⟩ = some (.slice kv.A kv.xs.length kv.c) := by rw [hkv.out]; exact (D8.below EC).at_ (i := 0) rfl rfl
          have P9 := P0.below EC
          go_wp2_with (first
            | ((with_reducible refine wpList_load_mid ?_ 48 (.tmp 12) ?_ g8 0 ?_ (Sgd.cells { G with CA := some ⟨gy, 0, none⟩, cn := nA, cc := c3, SA := some ⟨gN, 0, none⟩, sn := 2, sc := 2 }) _ D12.range Tryz.underlying48 ?_ (sz_sg _) ?_); (· rfl); (· rfl); (· rfl); (· rfl))
            | ((with_reducible refine wpList_load_mid ?_ 49 (.tmp 94) ?_ g0 1 ?_ (ints .u8 ds) _ P9.rng Tryz.underlying49 ?_ (sz_arr dl) ?_); (· rfl); (· rfl); (· rfl); (· rfl)))
          refine (Q1).mono ?_
          rintro r22 w22 ⟨rfl, b⟩
          replace D12 := D12.below b
          replace Ry := Ry.below b
          replace RN := RN.below b
          replace hE := hE.trans (b.mono hE.size)
          replace EC := EC.trans (b.mono EC.size)
          clear b
          clear Q1 k0 r1 P9 MB
          go_upto_region 16 with (first
            | ((with_reducible refine wpList_alloc_row ?_ 30 ?_ Crt.none.cells zero_cert ?_); (· rfl); (· rfl); intro g23 wa23 hg23 V23 z23 e23)
            | ((with_reducible refine wpList_store_cut ?_ 30 (.tmp 13) (.tmp 97) ?_ g23 0 o.cells _ ?_ ?_ V23 ?_ (sz_crt _) (crt_one _) ?_); (· rfl); (· rfl); (· rfl); (· rfl); (· rfl); intro w23 hst23))
          have b23 : Below w22.heap.size w22 w23 := below_only e23 hst23.1 e23.size (by have := hg23.out; omega)
          have DX : Row w23 g23 0 o.cells := Row.of_cut hst23.2.2.1
          have lt23 : w.heap.size ≤ g23 := by have := hE.size; have := EC.size; have := hg23.out; omega
          have rt23 : w22.heap.size = g23 := hg23.out.symm
          replace rt23 := Lib.hid rt23
          clear V23 z23 e23 hst23
          have l_g8_23 : g8 < g23 := by have := D12.1; have := hg23.out; omega
          replace D12 := D12.below b23
          replace Ry := Ry.below b23
          replace RN := RN.below b23
          replace hE := hE.trans (b23.mono hE.size)
          replace EC := EC.trans (b23.mono EC.size)
          clear b23
          clear Ry
          have y5 := (D5.below EC)
          go_upto_region 17 with (first
            | ((with_reducible refine wpList_load_mid ?_ 30 (.tmp 5) ?_ g1 0 ?_ c.cells _ y5.rng Tryz.underlying30 ?_ (sz_crt _) ?_); (· rfl); (· rfl); (· rfl); (· rfl))
            | ((with_reducible refine wpList_build_certV ?_ (.tmp 99) ?_ c ?_ ?_); (· rfl); (· rfl); (· rfl); intro gM wM hgM RM eM; have kc : wM.cell? ⟨g8, 2, none⟩ = some (.slice (some ⟨gy, 0, none⟩) nA c3) := (by have q := (D12.below eM).cell (i := 2) (v := .slice (some ⟨gy, 0, none⟩) nA c3) (by rfl); rwa [Nat.zero_add] at q); have kf : wM.frozen? ⟨g8, 2, none⟩ = false := (by have q := (D12.below eM).frozen (i := 2) (v := .slice (some ⟨gy, 0, none⟩) nA c3) (by rfl); rwa [Nat.zero_add] at q)))
          have nM : gM ≠ g8 := by have := hgM.out; have := D12.1; omega
          have nX : g23 ≠ g8 := by omega
          replace D12 := D12.below eM
          replace RN := RN.below eM
          replace DX := DX.below eM
          replace hE := hE.trans (eM.mono hE.size)
          replace EC := EC.trans (eM.mono EC.size)
          clear eM
          clear kc kf y5
          obtain ⟨w24, hw24⟩ : ∃ W, W = wM.setCell ⟨g8, 2, none⟩ (.slice (some ⟨gM, 0, none⟩) 1 1) := ⟨_, rfl⟩
          refine wp_world hw24 ?_
          replace EC := EC.setCell (p := ⟨g8, 2, none⟩) (by show _ ≤ g8; exact Nat.le_of_eq rt8.out) (.slice (some ⟨gM, 0, none⟩) 1 1)
          rw [← hw24] at EC
          replace hE := hE.setCell (p := ⟨g8, 2, none⟩) (by show _ ≤ g8; exact lt8) (.slice (some ⟨gM, 0, none⟩) 1 1)
          rw [← hw24] at hE
          replace D12 : Cut w24 g8 0 (Sgd.cells { G with CA := some ⟨gM, 0, none⟩, cn := 1, cc := 1, SA := some ⟨gN, 0, none⟩, sn := 2, sc := 2 }) := by rw [hw24]; have q := D12.set (i := 2) (rfl) (.slice (some ⟨gM, 0, none⟩) 1 1); rw [Nat.zero_add] at q; exact q
          replace RN := RN.far (p := ⟨g8, 2, none⟩) nN (.slice (some ⟨gM, 0, none⟩) 1 1)
          rw [← hw24] at RN
          replace RM := RM.far (p := ⟨g8, 2, none⟩) nM (.slice (some ⟨gM, 0, none⟩) 1 1)
          rw [← hw24] at RM
          replace DX := DX.far (p := ⟨g8, 2, none⟩) nX (.slice (some ⟨gM, 0, none⟩) 1 1)
          rw [← hw24] at DX
          clear hw24
          replace RM : Row w24 gM 0 (crtCells [c]) := by simpa [crtCells] using RM
          have MB : SMemB { G with CA := some ⟨gM, 0, none⟩, cn := 1, cc := 1, SA := some ⟨gN, 0, none⟩, sn := 2, sc := 2 } [c] [s, x] gM 0 gN 0 w24 := ⟨M.kind.below EC, M.content.below EC, rfl, by simp, .inr rfl, RM, fun d hd => by rw [List.mem_singleton.1 hd]; exact hco.below EC, rfl, by simp, .inr rfl, fun i d hd => sgn_row RN hd, fun d hd => by
            rcases List.mem_cons.1 hd with rfl | hd
            · exact so.below EC
            · rw [List.mem_singleton.1 hd]; exact hxo.below EC⟩
          have Q1 := right_memB MB 0 (by omega) (fun i d hd hi => by
            have e0 : i = 0 := by omega
            subst e0
            have e1 : s = d := by simpa using hd
            subst e1
            exact ⟨M.sa s (by simp), fun d hd hf => by rw [List.mem_singleton.1 hd, hfit] at hf; cases hf⟩) kv (hgk.below EC) ds dl.out dm
          have r1 : rightAt [c] [s, x] 0 kv.xs ds = none := by
            unfold rightAt
            simp only [show ¬ ((0 : Int) < 0) by omega, if_false]
            show rightOf _ s kv.xs ds = _
            unfold rightOf
            simp [hfit]
          rw [r1] at Q1
          have k0 : w24.cell? ⟨g4, 0, none⟩ = some (.slice kv.A kv.xs.length kv.c) := by rw [hkv.out]; exact (D8.below EC).at_ (i := 0) rfl rfl
          have P9 := P0.below EC
          go_wp2_with (first
            | ((with_reducible refine wpList_load_mid ?_ 48 (.tmp 12) ?_ g8 0 ?_ (Sgd.cells { G with CA := some ⟨gM, 0, none⟩, cn := 1, cc := 1, SA := some ⟨gN, 0, none⟩, sn := 2, sc := 2 }) _ D12.range Tryz.underlying48 ?_ (sz_sg _) ?_); (· rfl); (· rfl); (· rfl); (· rfl))
            | ((with_reducible refine wpList_load_mid ?_ 49 (.tmp 106) ?_ g0 1 ?_ (ints .u8 ds) _ P9.rng Tryz.underlying49 ?_ (sz_arr dl) ?_); (· rfl); (· rfl); (· rfl); (· rfl)))
          refine (Q1).mono ?_
          rintro r25 w25 ⟨rfl, b⟩
          replace D12 := D12.below b
          replace RN := RN.below b
          replace DX := DX.below b
          replace RM := RM.below b
          replace hE := hE.trans (b.mono hE.size)
          replace EC := EC.trans (b.mono EC.size)
          clear b
          clear Q1 k0 r1 P9 MB
          go_upto_region 18 with (first
            | ((with_reducible refine wpList_alloc_row ?_ 30 ?_ Crt.none.cells zero_cert ?_); (· rfl); (· rfl); intro g26 wa26 hg26 V26 z26 e26)
            | ((with_reducible refine wpList_store_cut ?_ 30 (.tmp 15) (.tmp 109) ?_ g26 0 Crt.none.cells _ ?_ ?_ V26 ?_ (sz_crt _) (crt_one _) ?_); (· rfl); (· rfl); (· rfl); (· rfl); (· rfl); intro w26 hst26))
          have b26 : Below w25.heap.size w25 w26 := below_only e26 hst26.1 e26.size (by have := hg26.out; omega)
          have DY : Row w26 g26 0 Crt.none.cells := Row.of_cut hst26.2.2.1
          have lt26 : w.heap.size ≤ g26 := by have := hE.size; have := EC.size; have := hg26.out; omega
          have rt26 : w25.heap.size = g26 := hg26.out.symm
          replace rt26 := Lib.hid rt26
          clear V26 z26 e26 hst26
          have l_g8_26 : g8 < g26 := by have := D12.1; have := hg26.out; omega
          have l_g23_26 : g23 < g26 := by have := DX.1; have := hg26.out; omega
          replace D12 := D12.below b26
          replace RN := RN.below b26
          replace DX := DX.below b26
          replace RM := RM.below b26
          replace hE := hE.trans (b26.mono hE.size)
          replace EC := EC.trans (b26.mono EC.size)
          clear b26
          have y1 := (D10.below EC).2
          have y2 := DX.2
          go_wp2_with (first
            | ((with_reducible refine wpList_load_if 30 (.tmp 10) ?_ g7 0 o.cells _ y1 Tryz.underlying30 ?_ (sz_crt _) ?_ ?_ ?_); (· rfl); (· rfl); (· rfl); (· rfl))
            | ((with_reducible refine wpList_load_if 30 (.tmp 13) ?_ g23 0 o.cells _ y2 Tryz.underlying30 ?_ (sz_crt _) ?_ ?_ ?_); (· rfl); (· rfl); (· rfl); (· rfl)))
          refine (sameC_any o o w26 (hoo.below EC) (hoo.below EC)).mono ?_
          rintro r27 w27 ⟨rfl, b⟩
          replace D12 := D12.below b
          replace RN := RN.below b
          replace DX := DX.below b
          replace RM := RM.below b
          replace DY := DY.below b
          replace hE := hE.trans (b.mono hE.size)
          replace EC := EC.trans (b.mono EC.size)
          clear b
          simp only [decide_true]
          clear y1 y2
          go_wp2_with fail
          refine (works15_any _).mono ?_
          rintro r w' ⟨rfl, b⟩
          go_wp2_with fail
          go_ret
          exact ⟨rfl, hE.trans (b.mono hE.size)⟩
end Go.Proofs.YtchaahnhpeoomaaGreat
