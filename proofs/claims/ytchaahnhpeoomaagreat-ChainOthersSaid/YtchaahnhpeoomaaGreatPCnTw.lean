/-
 The statement ChainTwice: a pool that is told twice is as good as told once.
-/
import Derived.Test.YtchaahnhpeoomaaGreatPChY
namespace Go.Proofs.YtchaahnhpeoomaaGreat
set_option linter.unusedVariables false
set_option linter.unusedSimpArgs false
set_option maxRecDepth 20000
open Go.RowKit
set_option maxRecDepth 100000 in
set_option maxHeartbeats 12800000 in
theorem cnTw_any (t : CIn) (w : World) (q : QCasec w t) : Calls Tryz.prog 3 #[.agg (CCasec t).toArray] w (RetW true w) := by
 obtain ⟨lf, ⟨pA, pc, cs⟩, ⟨tA, tc, ts⟩⟩ := t
 obtain ⟨L0, hL0⟩ : ∃ L, L = CCasec (lf, ⟨pA, pc, cs⟩, ⟨tA, tc, ts⟩) := ⟨_, rfl⟩
 rw [← hL0]
 obtain ⟨g0, hg0⟩ : ∃ g, g = w.heap.size := ⟨_, rfl⟩
 obtain ⟨w0, hw0⟩ : ∃ u, u = w.alloc (.cells L0.toArray 36) := ⟨_, rfl⟩
 have hE : Below w.heap.size w w0 := by rw [hw0]; exact (Below.refl _ _).alloc (Nat.le_refl _) _
 have B0 : Row w0 g0 0 L0 := by rw [hw0, hg0]; exact row_new _
 have CW : CaseW w0 g0 (lf, ⟨pA, pc, cs⟩, ⟨tA, tc, ts⟩) := ⟨by rw [← hL0]; exact B0, q.below hE⟩
 clear B0
 replace hL0 := Lib.hid hL0
 go_enter Tryz.func3, Tryz.ntmps3
 go_upto_region 1 with fail
 refine wp_world hw0 ?_
 rw [← hg0]
 clear hw0
 replace hg0 := Lib.hid hg0
 have lc : (Tryz.prog.info? 36).map (·.size) = some L0.length := by rw [hL0.out]; exact sz_case13 _
 have BL : Row w0 g0 0 L0 := by rw [hL0.out]; exact CW.row
 go_wp2_with ((with_reducible refine wpList_load_mid ?_ 36 (.tmp 1) ?_ g0 0 ?_ L0 _ BL.rng Tryz.underlying36 ?_ lc ?_); (· rfl); (· rfl); (· rfl); (· rfl))
 rw [show (Value.agg L0.toArray) = .agg (CCasec (lf, ⟨pA, pc, cs⟩, ⟨tA, tc, ts⟩)).toArray by rw [hL0.out]]
 refine (large13_any _ w0 CW.q).mono ?_
 clear BL lc
 rintro r1 w1 ⟨big, rfl, hsm, b⟩
 replace CW := CW.below b
 replace hE := hE.trans (b.mono hE.size)
 clear b hL0
 have k24 := CW.pool
 simp only at k24
 cases big
 case true =>
  go_wp2_with fail
  refine (works13_any _).mono ?_
  rintro r w' ⟨rfl, b⟩
  go_wp2_with fail
  go_ret
  exact ⟨rfl, hE.trans (b.mono hE.size)⟩
 case false =>
  replace hsm := hsm rfl
  by_cases h4 : cs.length ≤ 4
  case neg =>
   have z4 : (4 : Int) < (cs.length : Int) := by omega
   go_wp2_with fail
   refine (works13_any _).mono ?_
   rintro r w' ⟨rfl, b⟩
   go_wp2_with fail
   go_ret
   exact ⟨rfl, hE.trans (b.mono hE.size)⟩
  have z4 : ¬ (4 : Int) < (cs.length : Int) := by omega
  have o0 : w1.ownsRow w1.heap.size 30 24 (.slice none 0 0) 0 (crtCells []) := World.ownsRow_nil w1 w1.heap.size 30 24
  go_upto_region 5 with (at_builtin; refine wpList_append_crs rfl (.tmp 20) (.tmp 22) rfl w1.heap.size (.slice none 0 0) [] 0 rfl o0 pA cs.length pc cs rfl rfl CW.crs (by omega) (Nat.le_refl _) ?_; intro v2 w2 o2 h2)
  have e2 := h2 w1 (Below.refl _ _)
  rw [Nat.zero_add, List.nil_append] at o2
  have CV := CW.below e2
  have k24 := CV.pool
  simp only at k24
  go_upto_region 6 with (at_builtin; refine wpList_append_crs rfl (.tmp 24) (.tmp 26) rfl w1.heap.size v2 cs cs.length rfl o2 pA cs.length pc cs rfl rfl CV.crs (by omega) e2.size ?_; intro v3 w3 o3 h3)
  have e3 := h3 w1 e2
  replace hE := hE.trans (e3.mono hE.size)
  replace CW := CW.below e3
  clear CV k24 h2 h3 e2 e3 o2 o0
  obtain ⟨A3, c3, rfl, n3, m3, C3⟩ := own_crs (by simp) o3
  clear o3
  obtain ⟨p2, hp2⟩ : ∃ p, p = cs ++ cs := ⟨_, rfl⟩
  rw [← hp2] at C3 n3
  have hl2 : p2.length = cs.length + cs.length := by rw [hp2]; simp
  rw [← hp2]
  replace hp2 := Lib.hid hp2
  have P1 : PoolOk w3 lf cs := CW.may hsm (fun c hc => List.mem_cons_of_mem _ hc) (by omega)
  have P2 : PoolOk w3 lf p2 := CW.may hsm (fun c hc => by rw [hp2.out] at hc; rcases List.mem_append.1 hc with h | h <;> exact List.mem_cons_of_mem _ h) (by omega)
  have hlk : Chn.Like (hse lf p2) (hse lf cs) := ⟨rfl, rfl, rfl⟩
  obtain ⟨r, hr⟩ : ∃ r, r = (hse lf cs).find (trB ts) := ⟨_, rfl⟩
  have hr2 : (hse lf p2).find (trB ts) = r := by rw [hr]; exact Chn.find_twice hlk hp2.out _
  obtain ⟨L1, hL1⟩ : ∃ L, L = r.getD [] := ⟨_, rfl⟩
  obtain ⟨b1, hb1⟩ : ∃ b, b = r.isSome := ⟨_, rfl⟩
  have okL : ∀ c ∈ L1, c ∈ lf :: cs := by rw [hL1, hr]; exact find_subD
  have lenL : L1.length ≤ 8 := by rw [hL1, hr]; exact find_lenD
  have hff := find_go P1 CW.crs (pc := pc) CW.anc
  have hfg := fun W (q : Below w3.heap.size w3 W) => find_go (P2.below q) (C3.below q) (pc := c3) (CW.below q).anc
  unfold FndP at hff hfg
  rw [← hr, ← hL1, ← hb1] at hff
  simp only [hr2, ← hL1, ← hb1] at hfg
  unfold Crt.val at hff hfg
  replace hr := Lib.hid hr
  replace hL1 := Lib.hid hL1
  replace hb1 := Lib.hid hb1
  replace hr2 := Lib.hid hr2
  replace hl2 := Lib.hid hl2
  have k24 := CW.pool
  simp only at k24
  go_wp2_with ((with_reducible refine wpList_load_mid ?_ 30 (.tmp 29) ?_ g0 0 ?_ lf.cells _ CW.leaf.rng Tryz.underlying30 ?_ (sz_crt _) ?_); (· rfl); (· rfl); (· rfl); (· rfl))
  refine hff.mono ?_
  rintro e4 w4 ⟨b4, A4, c4, rfl, n4, m4, C4⟩
  replace hE := hE.trans (b4.mono hE.size)
  replace CW := CW.below b4
  clear hff
  go_wp2_with ((with_reducible refine wpList_load_mid ?_ 30 (.tmp 39) ?_ g0 0 ?_ lf.cells _ CW.leaf.rng Tryz.underlying30 ?_ (sz_crt _) ?_); (· rfl); (· rfl); (· rfl); (· rfl))
  refine (hfg w4 b4).mono ?_
  rintro e5 w5 ⟨b5, A5, c5, rfl, n5, m5, C5⟩
  replace hE := hE.trans (b5.mono hE.size)
  replace CW := CW.below b5
  replace C4 := C4.below b5
  replace C3 := (C3.below b4).below b5
  replace P1 := (P1.below b4).below b5
  replace P2 := (P2.below b4).below b5
  clear hfg b4 b5
  obtain ⟨L3, hL3⟩ : ∃ L, L = (hse lf cs).reach := ⟨_, rfl⟩
  obtain ⟨L4, hL4⟩ : ∃ L, L = (hse lf p2).reach := ⟨_, rfl⟩
  have q34 : ∀ c, c ∈ L4 ↔ c ∈ L3 := fun c => by rw [hL3, hL4]; exact Chn.reach_like hlk (Chn.mem_twice hp2.out) c
  have s3 : L3.length ≤ 5 := by rw [hL3]; have := Chn.reach_len (H := hse lf cs); have e : (hse lf cs).pool.length = cs.length := rfl; omega
  have s4 : L4.length = 2 * L3.length - 1 := by rw [hL3, hL4]; exact Chn.twice_reach hlk hp2.out
  have s0 : 0 < L3.length := by rw [hL3]; exact Nat.succ_pos _
  have okM : ∀ c ∈ L3, c ∈ lf :: cs := by rw [hL3]; exact reach_sub
  have hff := reach_go P1 CW.crs (pc := pc)
  have hfg := fun W (q : Below w5.heap.size w5 W) => reach_go (P2.below q) (C3.below q) (pc := c3)
  unfold RchP at hff hfg
  rw [← hL3] at hff
  simp only [← hL4] at hfg
  unfold Crt.val at hff hfg
  replace hL3 := Lib.hid hL3
  replace hL4 := Lib.hid hL4
  replace s4 := Lib.hid s4
  have k24 := CW.pool
  simp only at k24
  go_wp2_with ((with_reducible refine wpList_load_mid ?_ 30 (.tmp 47) ?_ g0 0 ?_ lf.cells _ CW.leaf.rng Tryz.underlying30 ?_ (sz_crt _) ?_); (· rfl); (· rfl); (· rfl); (· rfl))
  refine hff.mono ?_
  rintro e6 w6 ⟨b6, g6, c6, rfl, n6, m6, C6⟩
  replace hE := hE.trans (b6.mono hE.size)
  replace CW := CW.below b6
  replace C4 := C4.below b6
  replace C5 := C5.below b6
  clear hff
  go_wp2_with ((with_reducible refine wpList_load_mid ?_ 30 (.tmp 52) ?_ g0 0 ?_ lf.cells _ CW.leaf.rng Tryz.underlying30 ?_ (sz_crt _) ?_); (· rfl); (· rfl); (· rfl); (· rfl))
  refine (hfg w6 b6).mono ?_
  rintro e7 w7 ⟨b7, g7, c7, rfl, n7, m7, C7⟩
  replace hE := hE.trans (b7.mono hE.size)
  replace CW := CW.below b7
  replace C4 := C4.below b7
  replace C5 := C5.below b7
  replace C6 := C6.below b7
  clear hfg b6 b7 P1 P2 C3
  have okA := CW.ok
  have z3 : (L3.length : Int) ≤ 5 := by omega
  have z5 : (0 : Int) < (L3.length : Int) := by omega
  have z6 := s4.out
  have z7 : (L4.length : Int) = 2 * (L3.length : Int) - 1 := by omega
  clear z6
  have zb : (b1 != b1) = false := by cases b1 <;> rfl
  go_wp2_with fail
  refine (same13_any C4 C5 (fun c h => okA c (okL c h)) (fun c h => okA c (okL c h)) (by omega)).mono ?_
  rintro e8 w8 ⟨rfl, b8⟩
  rw [decide_eq_true rfl]
  replace hE := hE.trans (b8.mono hE.size)
  replace CW := CW.below b8
  replace C6 := C6.below b8
  replace C7 := C7.below b8
  clear C4 C5 b8 okA
  go_wp2_with fail
  clear z7 zb
  go_loopw [10] (fun t wr => ∃ ix : Nat, t = .int .i64 (ix : Int) ∧ ix ≤ L4.length ∧ Below w8.heap.size w8 wr) (fun t _ => L4.length - (intOf t).toNat)
  case atStart => exact ⟨0, rfl, Nat.zero_le _, Below.refl _ _⟩
  case round =>
   obtain ⟨ix, rfl, hi, er⟩ := hrel
   have z9 : (ix : Int) ≤ 100 := by have := s4.out; omega
   by_cases hlt : ix < L4.length
   ·have z1 : (ix : Int) < (L4.length : Int) := by omega
    obtain ⟨d, hd⟩ : ∃ d, L4[ix]? = some d := ⟨_, List.getElem?_eq_getElem hlt⟩
    have dm := (q34 d).1 (List.mem_of_getElem? hd)
    have Rd' := (crt_row C7 hd).below er
    rw [Nat.zero_add] at Rd'
    have okA := (CW.below er).ok
    have hq := within_any (W := wr) (A := some ⟨g6, 0, none⟩) (c := d) (.inr ⟨g6, 0, rfl, C6.below er⟩) n6 m6 (okA d (okM d dm)) (fun x h => okA x (okM x h)) (by omega)
    rw [wiB_mem dm] at hq
    unfold Crt.val at hq
    go_wp2_with ((with_reducible refine wpList_load_mid ?_ 30 (.tmp 82) ?_ g7 (ix * 24) ?_ d.cells _ Rd'.rng Tryz.underlying30 ?_ (sz_crt _) ?_); (· rfl); (· rfl); (· rfl); (· rfl))
    refine hq.mono ?_
    rintro e9 w9 ⟨rfl, b9⟩
    clear hq okA
    go_wp2_with fail
    go_roundw
    case rel => exact ⟨ix + 1, by go_num, by omega, er.trans (b9.mono er.size)⟩
    case measure =>
     simp [intOf]
     omega
   ·have z1 : ¬ (ix : Int) < (L4.length : Int) := by omega
    replace hE := hE.trans (er.mono hE.size)
    go_wp2_with fail
    refine (works13_any _).mono ?_
    rintro r9 w9 ⟨rfl, b9⟩
    go_wp2_with fail
    go_ret
    exact ⟨rfl, hE.trans (b9.mono hE.size)⟩
end Go.Proofs.YtchaahnhpeoomaaGreat
