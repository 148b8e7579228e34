/-
  RsaEncodes, walked: the encoded message of a digest, and which keys may be, are told as the document says. Holds for every digest, length and key.
-/
import Derived.Test.YtfclpieijbgodaaRsaK
import Derived.Deep.RegionHeld3
namespace Go.Proofs.Ytfclpieijbgodaa
set_option linter.unusedVariables false
set_option linter.unusedSimpArgs false
open Go.RowKit

theorem encOf_len (ds : List Nat) (n : Int) (hd : ds.length = 32) : (encOf ds n).1.length ≤ 70000 := by
  unfold encOf
  split
  · exact Nat.zero_le _
  · rw [encN_length ds n.toNat hd (by omega)]
    omega
theorem key_set2 {w : World} {P : Nat} {A : Option Addr} {n c e : Nat} {u0 u1 : Value} (q0 : w.cell? ⟨P, 0, none⟩ = some u0) (q1 : w.cell? ⟨P, 1, none⟩ = some u1) : KeyAt ((w.setCell ⟨P, 0, none⟩ (.slice A n c)).setCell ⟨P, 1, none⟩ (.int .u64 (e : Int))) P A n c e :=
  ⟨by
    rw [World.cell?_setCell_other _ _ _ _ (by simp)]
    exact World.cell?_setCell_same _ _ _ (by rw [q0]), World.cell?_setCell_same _ _ _ (by rw [World.cell?_setCell_other _ _ _ _ (by simp), q1]), by have := World.block_lt_of_cell? _ _ q0; simpa using this⟩
theorem new_cells {w w' : World} {vs : Array Value} {t : TypeId} (hb : Below (w.alloc (.cells vs t)).drew.heap.size (w.alloc (.cells vs t)).drew w') {i : Nat} {v : Value} (h : vs[i]? = some v) :
    w'.cell? ⟨w.heap.size, i, none⟩ = some v ∧ w'.frozen? ⟨w.heap.size, i, none⟩ = false := by
  have hl : w.heap.size < (w.alloc (.cells vs t)).drew.heap.size := by simp
  refine ⟨(hb.cell (p := ⟨w.heap.size, i, none⟩) hl).trans (by simp [h]), ?_⟩
  rw [World.frozen?_of_block (w := (w.alloc (.cells vs t)).drew) (a := ⟨w.heap.size, i, none⟩) (hb.block _ hl)]
  simp [h]
set_option maxRecDepth 100000 in
set_option maxHeartbeats 3200000 in
theorem rsaEncodes_any (A : Option Addr) (c e : Nat) (n : Int) (ns ds : List Nat) (w : World) (hA : Rd .u8 w A ns) (lA : Lim 256 ns) (he : e < 18446744073709551616) (hnmax : ns.length ≤ c ∧ c ≤ 9223372036854775807)
    (hd : ds.length = 32) (ld : Lim 256 ds) (hn : -9223372036854775808 ≤ n ∧ n ≤ 9223372036854775807) :
    Calls Try.prog 9 #[.agg (ints .u8 ds).toArray, .int .i64 n, keyVal A ns.length c e] w (Yes w) := by
  unfold keyVal
  have D1 : Whl .u8 49 (w.alloc (.cells (ints .u8 ds).toArray 49)) w.heap.size ds := whl_new0 _ _
  have e1 : Below w.heap.size w (w.alloc (.cells (ints .u8 ds).toArray 49)) := (Below.refl _ _).alloc (Nat.le_refl _) _
  have K2 : KeyAt ((w.alloc (.cells (ints .u8 ds).toArray 49)).alloc (.cells #[.slice A ns.length c, .int .u64 (e : Int)] 52)) (w.heap.size + 1) A ns.length c e := by
    have := key_new (w.alloc (.cells (ints .u8 ds).toArray 49)) A ns.length c e 52
    rwa [World.size_alloc] at this
  have e2 := e1.alloc e1.size (.cells #[.slice A ns.length c, .int .u64 (e : Int)] 52)
  have D2 := D1.below ((Below.refl _ _).alloc (Nat.le_refl _) (.cells #[.slice A ns.length c, .int .u64 (e : Int)] 52))
  have hA2 := hA.below e2
  have hl := Lib.hid hd
  have hsz : (Try.prog.info? 49).map (·.size) = some (ints .u8 ds).length := by rw [ints_length, hd]; exact size_32u8
  have hun := Try.underlying49
  clear hd D1 e1 hA
  have k0 := K2.c0
  have k1 := K2.c1
  go_enter Try.func9, Try.ntmps9
  by_cases hbig : 1024 < ns.length
  · have hb : decide ((1024 : Int) < (ns.length : Int)) = true := by simp; omega
    go_wp2_with (refine wpList_load_whl_if rfl 49 (.tmp 3) rfl w.heap.size rfl .u8 _ ds D2 _ Try.underlying49 rfl (by rw [hl.out]; exact size_32u8) ?_)
    refine (alive06_any ds _ hl.out ld).mono ?_
    rintro r w9 ⟨rfl, e9⟩
    have e9 := e2.trans (e9.mono e2.size)
    go_wp2_with fail
    go_ret
    exact ⟨rfl, e9⟩
  · have b1 : decide ((1024 : Int) < (ns.length : Int)) = false := by simp; omega
    obtain ⟨es, er, hes⟩ : ∃ es er, encOf ds n = (es, er) := ⟨_, _, rfl⟩
    have hel : es.length ≤ 70000 := by
      have h := encOf_len ds n hl.out
      rw [hes] at h
      exact h
    go_wp2_with (refine wpList_load_whl_if rfl 49 (.tmp 3) rfl w.heap.size rfl .u8 _ ds D2 _ Try.underlying49 rfl (by rw [hl.out]; exact size_32u8) ?_)
    generalize (w.alloc (.cells (ints .u8 ds).toArray 49)).alloc (.cells #[.slice A ns.length c, .int .u64 (e : Int)] 52) = w1 at *
    have hq := encode_any ds n w1 hl.out ld hn
    rw [hes] at hq
    refine hq.mono ?_
    rintro r w3 ⟨E, cE, rfl, h3a, h3b, oE, e3⟩
    have D3 := D2.below e3
    have K3 := K2.below e3
    have hA3 := hA2.below e3
    have e3 := e2.trans (e3.mono e2.size)
    clear hq D2 K2 hA2 e2 k0 k1
    have k0 := K3.c0
    have k1 := K3.c1
    go_wp2_with (refine wpList_load_whl_if rfl 49 (.tmp 3) rfl w.heap.size rfl .u8 _ ds D3 _ Try.underlying49 rfl (by rw [hl.out]; exact size_32u8) ?_)
    have hq := refEncode_any ds n w3 hl.out ld hn
    rw [hes] at hq
    refine hq.mono ?_
    rintro r w2 ⟨F, cF, rfl, h4a, h4b, oF, e4⟩
    have D2 := D3.below e4
    have K2 := K3.below e4
    have hA2 := hA3.below e4
    have oE := oE.rd.below e4
    have oF := oF.rd
    have e2 := e3.trans (e4.mono e3.size)
    clear hq D3 K3 hA3 e3 k0 k1
    have k0 := K2.c0
    have k1 := K2.c1
    go_upto_region 5 with fail
    go_cut [11] from 30 to 35 (fun s7 wx => ∃ g g7 c5, s7 = .pointer (some ⟨g7, 0, none⟩) ∧ KeyAt wx g7 (some ⟨g, 0, none⟩) ns.length c5 e ∧ Rd .u8 wx (some ⟨g, 0, none⟩) ns ∧ Below w2.heap.size w2 wx)
    case first =>
      have hd0 : Below w2.heap.size w2 w2.drew := below_drewN (Below.refl _ _) 1
      have hSS : ∀ W, Below w2.heap.size w2 W → (Below w2.heap.size w2 W ∧ W.cell? ⟨w.heap.size + 1, 0, none⟩ = some (.slice A ns.length c) ∧ W.cell? ⟨w.heap.size + 1, 1, none⟩ = some (.int .u64 (e : Int))) := fun W h => ⟨h, (K2.below h).c0, (K2.below h).c1⟩
      have hT : Hid (∀ W, Below w2.heap.size w2 W → Calls Try.prog 44 #[.slice A ns.length c] W (fun r w' => ∃ g c', r = .returned (.slice (some ⟨g, 0, none⟩) ns.length c') ∧ W.heap.size ≤ g ∧ Blk .u8 w' g ns ∧ Below W.heap.size W w')) := fun W h => by
        refine (twin06_any A ns.length c ns W rfl (by omega) (hA2.below h)).mono ?_
        rintro r w5 ⟨g, c5, rfl, h1, h2, _, _, h3⟩
        exact ⟨g, c5, rfl, h1, h2, h3⟩
      go_region_held3 (fun W => Below w2.heap.size w2 W ∧ W.cell? ⟨w.heap.size + 1, 0, none⟩ = some (.slice A ns.length c) ∧ W.cell? ⟨w.heap.size + 1, 1, none⟩ = some (.int .u64 (e : Int)))
        (first | with_reducible exact hSS _ hcurA | with_reducible exact hSS _ hd0 | (refine hSS _ ?_; repeat' (first | (with_reducible assumption) | (with_reducible exact Below.refl _ _) | (with_reducible refine below_drew ?_) | (with_reducible refine Below.alloc ?_ ?_ _) | (with_reducible refine Below.setCell ?_ ?_ _) | omega | (simp; done) | (simp; omega))))
        (first
          | (go_at_call 44; (with_reducible refine (hT.out _ ‹Below w2.heap.size w2 _ ∧ _›.1).mono ?_); rintro r wa ⟨g, ca, rfl, hga, ba, ea⟩; have hcurA := ‹Below w2.heap.size w2 _ ∧ _›.1.trans (ea.mono ‹Below w2.heap.size w2 _ ∧ _›.1.size); have hsa := hcurA.size; (first | (obtain ⟨q0, f0⟩ := new_cells ea (i := 0) rfl; obtain ⟨q1, f1⟩ := new_cells ea (i := 1) rfl) | skip)))
      all_goals go_wp2_with fail
      all_goals go_meet
      case rel => exact ⟨g, _, ca, rfl, key_new _ _ _ _ _ _, (Rd.of_all ba).alloc _, hcurA.alloc hsa _⟩
      case rel =>
        have hne : w2.heap.size < g := by
          have h : w2.heap.size < (w2.alloc (.cells #[.slice none 0 0, .int .u64 0] 52)).drew.heap.size := by simp
          exact Nat.lt_of_lt_of_le h hga
        exact ⟨g, _, ca, rfl, key_set2 q0 q1, ((Rd.of_all ba).setCell (Off.of_ne (by show g ≠ w2.heap.size; omega)) _).setCell (Off.of_ne (by show g ≠ w2.heap.size; omega)) _, (hcurA.setCell (Nat.le_refl _) _).setCell (Nat.le_refl _) _⟩
    case rest =>
      obtain ⟨g, g7, c5, rfl, K7, xN, e5⟩ := hcut
      have K5 := K2.below e5
      have D5 := D2.below e5
      have hA5 := hA2.below e5
      have oE := oE.below e5
      have oF := oF.below e5
      have e5 := e2.trans (e5.mono e2.size)
      clear K2 D2 hA2 e2 k0 k1
      obtain ⟨w6, rfl⟩ : ∃ w6, w6 = wc := ⟨wc, rfl⟩
      have hd0 : Below w6.heap.size w6 w6.drew := below_drewN (Below.refl _ _) 1
      obtain ⟨vs, hvs⟩ : ∃ vs, soundE ns e = vs := ⟨_, rfl⟩
      have hSS : ∀ W, Below w6.heap.size w6 W → (Below w6.heap.size w6 W ∧ W.cell? ⟨w.heap.size + 1, 0, none⟩ = some (.slice A ns.length c) ∧ W.cell? ⟨w.heap.size + 1, 1, none⟩ = some (.int .u64 (e : Int)) ∧ W.cell? ⟨g7, 0, none⟩ = some (.slice (some ⟨g, 0, none⟩) ns.length c5) ∧ W.cell? ⟨g7, 1, none⟩ = some (.int .u64 (e : Int)) ∧ W.rangeAt w.heap.size 0 (ints .u8 ds)) := fun W h =>
        ⟨h, (K5.below h).c0, (K5.below h).c1, (K7.below h).c0, (K7.below h).c1, (Cut.of_blk (D5.below h).blk).range⟩
      have hV1 : Hid (∀ W, Below w6.heap.size w6 W → Calls Try.prog 45 #[.slice E es.length cE, .slice F es.length cF] W (Quiet (.bool true) W)) := fun W h => by
        have hq := same06_any E F es.length es.length cE cF es es W rfl rfl hel hel (oE.below h) (oF.below h)
        rwa [decide_eq_true rfl] at hq
      have hV2 : Hid (∀ W, Below w6.heap.size w6 W → Calls Try.prog 46 #[.agg #[.slice (some ⟨g, 0, none⟩) ns.length c5, .int .u64 (e : Int)]] W (fun r w' => r = .returned (.int .i64 vs) ∧ Below W.heap.size W w')) := fun W h => by
        have hq := sound_any (some ⟨g, 0, none⟩) ns.length c5 e ns W rfl (by omega) (xN.below h) lA he
        rwa [hvs] at hq
      have hV3 : Hid (∀ W, Below w6.heap.size w6 W → Calls Try.prog 47 #[.agg #[.slice A ns.length c, .int .u64 (e : Int)]] W (fun r w' => r = .returned (.int .i64 vs) ∧ Below W.heap.size W w')) := fun W h => by
        have hq := refSound_any A ns.length c e ns W rfl (by omega) (hA5.below h) lA he
        rwa [hvs] at hq
      have hV4 : Hid (∀ W, Below w6.heap.size w6 W → Calls Try.prog 45 #[.slice (some ⟨g, 0, none⟩) ns.length c5, .slice A ns.length c] W (Quiet (.bool true) W)) := fun W h => by
        have hq := same06_any (some ⟨g, 0, none⟩) A ns.length ns.length c5 c ns ns W rfl rfl (by omega) (by omega) (xN.below h) (hA5.below h)
        rwa [decide_eq_true rfl] at hq
      have hV5 : Hid (∀ W, Calls Try.prog 41 #[.agg (ints .u8 ds).toArray] W (Yes W)) := fun W => alive06_any ds W hl.out ld
      clear xN hA5 oE oF hvs
      go_wp2_with fail
      refine wp_region_held_drew (S := fun W => Below w6.heap.size w6 W ∧ W.cell? ⟨w.heap.size + 1, 0, none⟩ = some (.slice A ns.length c) ∧ W.cell? ⟨w.heap.size + 1, 1, none⟩ = some (.int .u64 (e : Int)) ∧ W.cell? ⟨g7, 0, none⟩ = some (.slice (some ⟨g, 0, none⟩) ns.length c5) ∧ W.cell? ⟨g7, 1, none⟩ = some (.int .u64 (e : Int)) ∧ W.rangeAt w.heap.size 0 (ints .u8 ds)) (by kernel_rfl) (hSS _ hd0) (fun hHeld => ?_)
      refine wpAnyH_take (i := 0) (v := ?hv1) rfl (by kernel_rfl) (by kernel_rfl) (by kernel_rfl) (fun _ _ _ h => h) (Or.inl ⟨by rfl, ?hy1⟩) (by assumption) ?hr1
      case hy1 => ((intro _ hSw; (try dsimp only at hSw); go_simp) <;> with_reducible rfl)
      try simp only [List.getElem_toArray, List.getElem_cons_zero, List.getElem_cons_succ, Act.put, List.setIfInBounds_toArray, List.set_cons_zero, List.set_cons_succ]
      refine wpAnyH_take (i := 1) (v := ?hv2) rfl (by kernel_rfl) (by kernel_rfl) (by kernel_rfl) (fun _ _ _ h => h) (Or.inl ⟨by rfl, ?hy2⟩) (by assumption) ?hr2
      case hy2 => ((intro _ hSw; (try dsimp only at hSw); go_simp) <;> with_reducible rfl)
      try simp only [List.getElem_toArray, List.getElem_cons_zero, List.getElem_cons_succ, Act.put, List.setIfInBounds_toArray, List.set_cons_zero, List.set_cons_succ]
      refine wpAnyH_take (i := 2) (v := ?hv3) rfl (by kernel_rfl) (by kernel_rfl) (by kernel_rfl) (fun _ _ _ h => h) (Or.inl ⟨by rfl, ?hy3⟩) (by assumption) ?hr3
      case hy3 => ((intro _ hSw; (try dsimp only at hSw); go_simp) <;> with_reducible rfl)
      try simp only [List.getElem_toArray, List.getElem_cons_zero, List.getElem_cons_succ, Act.put, List.setIfInBounds_toArray, List.set_cons_zero, List.set_cons_succ]
      refine wpAnyH_take (i := 3) (v := ?hv4) rfl (by kernel_rfl) (by kernel_rfl) (by kernel_rfl) (fun _ _ _ h => h) (Or.inl ⟨by rfl, ?hy4⟩) (by assumption) ?hr4
      case hy4 => ((intro _ hSw; (try dsimp only at hSw); go_simp) <;> with_reducible rfl)
      try simp only [List.getElem_toArray, List.getElem_cons_zero, List.getElem_cons_succ, Act.put, List.setIfInBounds_toArray, List.set_cons_zero, List.set_cons_succ]
      refine wpAnyH_take (i := 4) (v := ?hv5) rfl (by kernel_rfl) (by kernel_rfl) (by kernel_rfl) (fun _ _ _ h => h) (Or.inl ⟨by rfl, ?hy5⟩) (by assumption) ?hr5
      case hy5 => ((intro _ hSw; (try dsimp only at hSw); go_simp) <;> with_reducible rfl)
      try simp only [List.getElem_toArray, List.getElem_cons_zero, List.getElem_cons_succ, Act.put, List.setIfInBounds_toArray, List.set_cons_zero, List.set_cons_succ]
      refine wpAnyH_take (i := 5) (v := ?hv6) rfl (by kernel_rfl) (by kernel_rfl) (by kernel_rfl) (fun _ _ _ h => h) (Or.inl ⟨by rfl, ?hy6⟩) (by assumption) ?hr6
      case hy6 => ((intro _ hSw; (try dsimp only at hSw); go_simp) <;> with_reducible rfl)
      try simp only [List.getElem_toArray, List.getElem_cons_zero, List.getElem_cons_succ, Act.put, List.setIfInBounds_toArray, List.set_cons_zero, List.set_cons_succ]
      refine wpAnyH_ready (rs := [6]) (by kernel_rfl) (by simp) (AllReadyH.cons rfl (fun K hK => ?_) AllReadyH.nil)
      go_simp
      refine (hV1.out _ hHeld.1).mono ?_; rintro r _ ⟨rfl, qa, rfl⟩; have hcur := below_drewN hHeld.1 qa
      go_wp2_with fail
      clear hHeld
      refine hK.out _ _ ?hS7 (fun hHeld => ?_)
      case hS7 => exact hSS _ (by first | exact hcur | exact below_drewN (Below.refl _ _) _)
      clear hK K
      try simp only [List.getElem_toArray, List.getElem_cons_zero, List.getElem_cons_succ, Act.put, List.setIfInBounds_toArray, List.set_cons_zero, List.set_cons_succ]
      refine wpAnyH_take (i := 7) (v := ?hv8) rfl (by kernel_rfl) (by kernel_rfl) (by kernel_rfl) (fun _ _ _ h => h) (Or.inl ⟨by rfl, ?hy8⟩) (by assumption) ?hr8
      case hy8 => ((intro _ hSw; (try dsimp only at hSw); go_simp) <;> with_reducible rfl)
      try simp only [List.getElem_toArray, List.getElem_cons_zero, List.getElem_cons_succ, Act.put, List.setIfInBounds_toArray, List.set_cons_zero, List.set_cons_succ]
      refine wpAnyH_take (i := 8) (v := ?hv9) rfl (by kernel_rfl) (by kernel_rfl) (by kernel_rfl) (fun _ _ _ h => h) (Or.inl ⟨by rfl, ?hy9⟩) (by assumption) ?hr9
      case hy9 => ((intro _ hSw; (try dsimp only at hSw); go_simp) <;> with_reducible rfl)
      try simp only [List.getElem_toArray, List.getElem_cons_zero, List.getElem_cons_succ, Act.put, List.setIfInBounds_toArray, List.set_cons_zero, List.set_cons_succ]
      refine wpAnyH_take (i := 9) (v := ?hv10) rfl (by kernel_rfl) (by kernel_rfl) (by kernel_rfl) (fun _ _ _ h => h) (Or.inl ⟨by rfl, ?hy10⟩) (by assumption) ?hr10
      case hy10 => ((intro _ hSw; (try dsimp only at hSw); go_simp) <;> with_reducible rfl)
      try simp only [List.getElem_toArray, List.getElem_cons_zero, List.getElem_cons_succ, Act.put, List.setIfInBounds_toArray, List.set_cons_zero, List.set_cons_succ]
      refine wpAnyH_take (i := 11) (v := ?hv11) rfl (by kernel_rfl) (by kernel_rfl) (by kernel_rfl) (fun _ _ _ h => h) (Or.inl ⟨by rfl, ?hy11⟩) (by assumption) ?hr11
      case hy11 => ((intro _ hSw; (try dsimp only at hSw); go_simp) <;> with_reducible rfl)
      try simp only [List.getElem_toArray, List.getElem_cons_zero, List.getElem_cons_succ, Act.put, List.setIfInBounds_toArray, List.set_cons_zero, List.set_cons_succ]
      refine wpAnyH_ready (rs := [10]) (by kernel_rfl) (by simp) (AllReadyH.cons rfl (fun K hK => ?_) AllReadyH.nil)
      go_simp
      refine (hV2.out _ hHeld.1).mono ?_; rintro r wa ⟨rfl, ea⟩; have hcur := hHeld.1.trans (ea.mono hHeld.1.size)
      go_wp2_with fail
      clear hHeld
      refine hK.out _ _ ?hS12 (fun hHeld => ?_)
      case hS12 => exact hSS _ hcur
      clear hK K
      try simp only [List.getElem_toArray, List.getElem_cons_zero, List.getElem_cons_succ, Act.put, List.setIfInBounds_toArray, List.set_cons_zero, List.set_cons_succ]
      refine wpAnyH_ready (rs := [12]) (by kernel_rfl) (by simp) (AllReadyH.cons rfl (fun K hK => ?_) AllReadyH.nil)
      go_simp
      refine (hV3.out _ hHeld.1).mono ?_; rintro r wb ⟨rfl, ea⟩; have hcur := hHeld.1.trans (ea.mono hHeld.1.size)
      go_wp2_with fail
      clear hHeld
      refine hK.out _ _ ?hS13 (fun hHeld => ?_)
      case hS13 => exact hSS _ hcur
      clear hK K
      try simp only [List.getElem_toArray, List.getElem_cons_zero, List.getElem_cons_succ, Act.put, List.setIfInBounds_toArray, List.set_cons_zero, List.set_cons_succ]
      refine wpAnyH_take (i := 13) (v := ?hv14) rfl (by kernel_rfl) (by kernel_rfl) (by kernel_rfl) (fun _ _ _ h => h) (Or.inl ⟨by rfl, ?hy14⟩) (by assumption) ?hr14
      case hy14 => ((intro _ hSw; (try dsimp only at hSw); go_simp) <;> with_reducible rfl)
      try simp only [List.getElem_toArray, List.getElem_cons_zero, List.getElem_cons_succ, Act.put, List.setIfInBounds_toArray, List.set_cons_zero, List.set_cons_succ]
      refine wpAnyH_take (i := 14) (v := ?hv15) rfl (by kernel_rfl) (by kernel_rfl) (by kernel_rfl) (fun _ _ _ h => h) (Or.inl ⟨by rfl, ?hy15⟩) (by assumption) ?hr15
      case hy15 => ((intro _ hSw; (try dsimp only at hSw); go_simp) <;> with_reducible rfl)
      try simp only [List.getElem_toArray, List.getElem_cons_zero, List.getElem_cons_succ, Act.put, List.setIfInBounds_toArray, List.set_cons_zero, List.set_cons_succ]
      refine wpAnyH_take (i := 15) (v := ?hv16) rfl (by kernel_rfl) (by kernel_rfl) (by kernel_rfl) (fun _ _ _ h => h) (Or.inl ⟨by rfl, ?hy16⟩) (by assumption) ?hr16
      case hy16 => ((intro _ hSw; (try dsimp only at hSw); go_simp) <;> with_reducible rfl)
      try simp only [List.getElem_toArray, List.getElem_cons_zero, List.getElem_cons_succ, Act.put, List.setIfInBounds_toArray, List.set_cons_zero, List.set_cons_succ]
      refine wpAnyH_take (i := 16) (v := ?hv17) rfl (by kernel_rfl) (by kernel_rfl) (by kernel_rfl) (fun _ _ _ h => h) (Or.inl ⟨by rfl, ?hy17⟩) (by assumption) ?hr17
      case hy17 => ((intro _ hSw; (try dsimp only at hSw); go_simp) <;> with_reducible rfl)
      try simp only [List.getElem_toArray, List.getElem_cons_zero, List.getElem_cons_succ, Act.put, List.setIfInBounds_toArray, List.set_cons_zero, List.set_cons_succ]
      refine wpAnyH_take (i := 17) (v := ?hv18) rfl (by kernel_rfl) (by kernel_rfl) (by kernel_rfl) (fun _ _ _ h => h) (Or.inl ⟨by rfl, ?hy18⟩) (by assumption) ?hr18
      case hy18 => ((intro _ hSw; (try dsimp only at hSw); go_simp) <;> with_reducible rfl)
      try simp only [List.getElem_toArray, List.getElem_cons_zero, List.getElem_cons_succ, Act.put, List.setIfInBounds_toArray, List.set_cons_zero, List.set_cons_succ]
      refine wpAnyH_take (i := 18) (v := ?hv19) rfl (by kernel_rfl) (by kernel_rfl) (by kernel_rfl) (fun _ _ _ h => h) (Or.inl ⟨by rfl, ?hy19⟩) (by assumption) ?hr19
      case hy19 => ((intro _ hSw; (try dsimp only at hSw); go_simp) <;> with_reducible rfl)
      try simp only [List.getElem_toArray, List.getElem_cons_zero, List.getElem_cons_succ, Act.put, List.setIfInBounds_toArray, List.set_cons_zero, List.set_cons_succ]
      refine wpAnyH_take (i := 19) (v := ?hv20) rfl (by kernel_rfl) (by kernel_rfl) (by kernel_rfl) (fun _ _ _ h => h) (Or.inl ⟨by rfl, ?hy20⟩) (by assumption) ?hr20
      case hy20 => ((intro _ hSw; (try dsimp only at hSw); go_simp) <;> with_reducible rfl)
      try simp only [List.getElem_toArray, List.getElem_cons_zero, List.getElem_cons_succ, Act.put, List.setIfInBounds_toArray, List.set_cons_zero, List.set_cons_succ]
      refine wpAnyH_ready (rs := [20]) (by kernel_rfl) (by simp) (AllReadyH.cons rfl (fun K hK => ?_) AllReadyH.nil)
      go_simp
      refine (hV4.out _ hHeld.1).mono ?_; rintro r _ ⟨rfl, qb, rfl⟩; have hcur := below_drewN hHeld.1 qb
      go_wp2_with fail
      clear hHeld
      refine hK.out _ _ ?hS21 (fun hHeld => ?_)
      case hS21 => exact hSS _ hcur
      clear hK K
      try simp only [List.getElem_toArray, List.getElem_cons_zero, List.getElem_cons_succ, Act.put, List.setIfInBounds_toArray, List.set_cons_zero, List.set_cons_succ]
      refine wpAnyH_take (i := 21) (v := ?hv22) rfl (by kernel_rfl) (by kernel_rfl) (by kernel_rfl) (fun _ _ _ h => h) (Or.inl ⟨by rfl, ?hy22⟩) (by assumption) ?hr22
      case hy22 => ((intro _ hSw; (try dsimp only at hSw); go_simp) <;> with_reducible rfl)
      try simp only [List.getElem_toArray, List.getElem_cons_zero, List.getElem_cons_succ, Act.put, List.setIfInBounds_toArray, List.set_cons_zero, List.set_cons_succ]
      refine wpAnyH_take (i := 22) (v := ?hv23) rfl (by kernel_rfl) (by kernel_rfl) (by kernel_rfl) (fun _ _ _ h => h) (Or.inl ⟨by rfl, ?hy23⟩) (by assumption) ?hr23
      case hy23 => ((intro _ hSw; (try dsimp only at hSw); go_simp) <;> with_reducible rfl)
      try simp only [List.getElem_toArray, List.getElem_cons_zero, List.getElem_cons_succ, Act.put, List.setIfInBounds_toArray, List.set_cons_zero, List.set_cons_succ]
      refine' wpAnyH_take (i := 23) (v := _) rfl (by kernel_rfl) (by kernel_rfl) (by kernel_rfl) (fun _ _ _ h => h) (yieldsIf_load_mid (by rfl) _ _ rfl _ _ rfl _ _ ?hS24 ?hu24 ?hd24 ?hi24) (by assumption) ?hr24
      case hS24 => (intro _ hSw; (try dsimp only at hSw); go_split_ands; assumption)
      case hu24 => assumption
      case hd24 => rfl
      case hi24 => (first | assumption | (simp only [*]; done))
      try simp only [List.getElem_toArray, List.getElem_cons_zero, List.getElem_cons_succ, Act.put, List.setIfInBounds_toArray, List.set_cons_zero, List.set_cons_succ]
      refine wpAnyH_ready (rs := [24]) (by kernel_rfl) (by simp) (AllReadyH.cons rfl (fun K hK => ?_) AllReadyH.nil)
      go_simp
      refine (hV5.out _).mono ?_; rintro r wd ⟨rfl, ea⟩; have hcur := hHeld.1.trans (ea.mono hHeld.1.size)
      go_wp2_with fail
      clear hHeld
      refine hK.out _ _ ?hS25 (fun hHeld => ?_)
      case hS25 => exact hSS _ hcur
      clear hK K
      try simp only [List.getElem_toArray, List.getElem_cons_zero, List.getElem_cons_succ, Act.put, List.setIfInBounds_toArray, List.set_cons_zero, List.set_cons_succ]
      refine wpAnyH_take (i := 25) (v := ?hv26) rfl (by kernel_rfl) (by kernel_rfl) (by kernel_rfl) (fun _ _ _ h => h) (Or.inl ⟨by rfl, ?hy26⟩) (by assumption) ?hr26
      case hy26 => ((intro _ hSw; (try dsimp only at hSw); go_simp) <;> with_reducible rfl)
      try simp only [List.getElem_toArray, List.getElem_cons_zero, List.getElem_cons_succ, Act.put, List.setIfInBounds_toArray, List.set_cons_zero, List.set_cons_succ]
      refine wpAnyH_take (i := 26) (v := ?hv27) rfl (by kernel_rfl) (by kernel_rfl) (by kernel_rfl) (fun _ _ _ h => h) (Or.inl ⟨by rfl, ?hy27⟩) (by assumption) ?hr27
      case hy27 => ((intro _ hSw; (try dsimp only at hSw); go_simp) <;> with_reducible rfl)
      try simp only [List.getElem_toArray, List.getElem_cons_zero, List.getElem_cons_succ, Act.put, List.setIfInBounds_toArray, List.set_cons_zero, List.set_cons_succ]
      refine wpAnyH_done (by kernel_rfl) ?_ _
      go_wp2_with fail
      go_ret
      exact ⟨rfl, e5.trans (hcur.mono e5.size)⟩
end Go.Proofs.Ytfclpieijbgodaa
