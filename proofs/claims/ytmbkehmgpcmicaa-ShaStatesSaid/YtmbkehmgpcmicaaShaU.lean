/-
  The reference's first primes, and their roots: primes, roots.
-/
import Derived.Test.YtmbkehmgpcmicaaShaT
import Derived.Test.YtmbkehmgpcmicaaShaO
namespace Go.Proofs.Ytmbkehmgpcmicaa
set_option linter.unusedVariables false
set_option linter.unusedSimpArgs false
open Go.RowKit

set_option maxHeartbeats 1600000 in
theorem refPrimes_any (N K : Nat) (w : World) (hN : N ≤ 64) (hK : K ≤ 310) (h1 : (primeRun K).length = N) (h2 : ∀ j, j < K → (primeRun j).length < N) :
    Calls Try.prog 29 #[.int .i64 (N : Int)] w (Gives .u32 (primeRun K) w) := by
  have H1 := Lib.hid h1
  have H2 := Lib.hid h2
  clear h1 h2
  go_enter Try.func29, Try.ntmps29
  go_wp2_with fail
  go_loopw [3, 4] (fun s u wr => ∃ (k n p : Nat) (A : Option Addr) (c : Nat), s = .slice A n c ∧ u = .int .u32 (p : Int) ∧ Hid (p = k + 2) ∧ p ≤ 320 ∧ k ≤ K ∧ Hid (n = (primeRun k).length) ∧ n ≤ N ∧ wr.ownsRow w.heap.size 32 1 (.slice A n c) n (ints .u32 (primeRun k)) ∧ Below w.heap.size w wr) (fun s u _ => 400 - (intOf u).toNat)
  case atStart => exact ⟨0, 0, 2, none, 0, rfl, rfl, rfl, by omega, Nat.zero_le _, rfl, Nat.zero_le _, World.ownsRow_nil _ _ _ _, Below.refl _ _⟩
  case round =>
    obtain ⟨k, n, p, A, c, rfl, rfl, hp, hpl, hk, hn, hnN, hown, hbel⟩ := hrel
    by_cases hlt : n < N
    · have hk2 : k < K := by
        rcases Nat.lt_or_ge k K with h | h
        · exact h
        · obtain rfl : k = K := by omega
          have := H1.out
          have := hn.out
          omega
      obtain ⟨A', c', he, -, -, -, hO⟩ := Own.of_row hown
      injection he with he1 _ he2
      subst he1
      subst he2
      have hx := hO.rd
      have hbd := Lib.hid (primeRun_bd k)
      obtain ⟨b, hb⟩ : ∃ b, (primeRun k).any (fun q => (k + 2) % q == 0) = b := ⟨_, rfl⟩
      have hpr := primeRun_yes hb
      rw [← hp.out] at hb hpr
      have HB := Lib.hid hb
      have HP := Lib.hid hpr
      have HN := Lib.hid (H2.out (k + 1))
      clear hb hpr
      generalize primeRun k = l at *
      go_wp2_with fail
      go_loop [5, 6] (fun s t => ∃ (i : Nat) (z : Bool), s = .bool z ∧ t = .int .i64 (i : Int) ∧ i ≤ l.length ∧ Hid (z = !((l.take i).any (fun q => p % q == 0)))) (fun _ t => l.length - (intOf t).toNat)
      case atStart => exact ⟨0, true, rfl, rfl, Nat.zero_le _, rfl⟩
      case round =>
        obtain ⟨i, z, rfl, rfl, hi, hz⟩ := hrel
        by_cases hil : i < l.length
        · obtain ⟨x, hgx⟩ := get_of_lt hil
          have HT := Lib.hid (show l.take (i + 1) = l.take i ++ [x] by rw [List.take_add_one, hgx]; rfl)
          cases z with
          | false =>
            have hin : i < n := by have := hn.out; omega
            clear hgx
            go_wp2_with fail
            go_round
            case rel => exact ⟨i + 1, false, rfl, by go_num, hil, by
              show false = _
              have h3 := hz.out
              rw [HT.out, List.any_append]
              cases hh : (l.take i).any (fun q => p % q == 0) with
              | true => rfl
              | false => rw [hh] at h3; cases h3⟩
            case measure => simp [intOf]; omega
          | true =>
            obtain ⟨bb, o, rfl, hbw, hcl⟩ := hx.pos hgx
            have hcell := hcl _ x hgx
            obtain ⟨hq1, hq2⟩ := hbd.out x (List.mem_of_getElem? hgx)
            have hz0 : ((x : Int) == 0) = false := by simp; omega
            have hmm : ((p : Int) % (x : Int)) = ((p % x : Nat) : Int) := by simp
            have hml : p % x < x := Nat.mod_lt _ (by omega)
            have hz3 := Lib.hid (show ((l.take (i + 1)).any fun q => p % q == 0) = (p % x == 0) by
              have h3 := hz.out
              simp only [Bool.true_eq, Bool.not_eq_true'] at h3
              rw [HT.out, List.any_append, h3]
              simp)
            generalize p % x = r at *
            have hin : i < n := by have := hn.out; omega
            clear hcl hgx
            go_wp2_with fail
            go_round
            case rel => exact ⟨i + 1, _, rfl, by go_num, hil, by show _ = _; rw [hz3.out, Bool.eq_iff_iff]; simp⟩
            case measure => simp [intOf]; omega
        · obtain rfl : i = l.length := by omega
          have hin : ¬ l.length < n := by have := hn.out; omega
          have hzb : z = !b := by have := hz.out; rw [List.take_length, HB.out] at this; exact this
          subst hzb
          cases b with
          | true =>
            go_wp2_with fail
            go_roundw
            case rel => exact ⟨k + 1, n, p + 1, A, c, rfl, by go_num, by show p + 1 = k + 1 + 2; have := hp.out; omega, by have := hp.out; omega, hk2, by show n = _; rw [HP.out]; exact hn.out, hnN, by rw [HP.out]; exact hown, hbel⟩
            case measure => simp [intOf]; have := hp.out; omega
          | false =>
            have hv := Lib.hid (show #[Value.int .u32 (p : Int)] = (ints .u32 [p]).toArray by simp [ints])
            go_wp2_with (at_builtin; refine wpList_append_ints _ rfl (.tmp 30) (.tmp 32) _ rfl w.heap.size 32 .u32 4 Try.underlying51 info_u32 (.slice A n c) n l rfl (hown.alloc _) _ 1 1 [p] rfl rfl (Rd.of_all (blk_lit wr [p] _ hv.out)) (by simp only [maxLen]; omega) (by omega) (by have := hbel.size; simp; omega) ?_; intro v5 w5 hown5 hgrow5 _)
            obtain ⟨A5, c5, rfl, _⟩ := row_form hown5
            have hbr5 : Below w.heap.size w w5 := (hbel.alloc hbel.size _).grown hgrow5 (by have := hbel.size; simp; omega) (fun k hk => (hown.lt k hk).1)
            have hPl := Lib.hid (show n + 1 = (primeRun (k + 1)).length by rw [HP.out]; simp [hn.out])
            have hPN := Lib.hid (show n + 1 ≤ N by omega)
            have hPo : w5.ownsRow w.heap.size 32 1 (.slice A5 (n + 1) c5) (n + 1) (ints .u32 (primeRun (k + 1))) := by rw [HP.out]; exact hown5
            go_wp2_with fail
            go_roundw
            case rel => exact ⟨k + 1, n + 1, p + 1, A5, c5, rfl, by go_num, by show p + 1 = k + 1 + 2; have := hp.out; omega, by have := hp.out; omega, hk2, hPl, hPN.out, hPo, hbr5⟩
            case measure => simp [intOf]; have := hp.out; omega
    · have hkK : k = K := by
        rcases Nat.lt_or_ge k K with h | h
        · have h3 := H2.out k h
          have := hn.out
          omega
        · omega
      subst hkK
      obtain ⟨A', c', he, -, hle, hcm, hO⟩ := Own.of_row hown
      injection he with he1 _ he2
      subst he1
      subst he2
      go_wp2_with fail
      go_ret
      exact ⟨A, c, by rw [← hn.out]; rfl, by rw [← hn.out]; exact hle, hcm, hO, hbel⟩

/-- What a list of N places holds behind i of them. -/
def fillL (f : Nat → Nat) (l : List Nat) (N i : Nat) : List Nat := (l.take i).map f ++ List.replicate (N - i) 0
theorem fill_get {f : Nat → Nat} {l : List Nat} {N i : Nat} (hl : l.length = N) (hi : i < N) : (fillL f l N i)[i]? = some 0 := by
  have h : ((l.take i).map f).length = i := by simp; omega
  rw [fillL, List.getElem?_append_right (by omega), h, Nat.sub_self, List.getElem?_replicate, if_pos (by omega)]
theorem fill_set {f : Nat → Nat} {l : List Nat} {N i x : Nat} (hi : i < N) (hx : l[i]? = some x) : (fillL f l N i).set i (f x) = fillL f l N (i + 1) := by
  have hil : i < l.length := (List.getElem?_eq_some_iff.1 hx).1
  have h : ((l.take i).map f).length = i := by simp; omega
  obtain ⟨m, hm⟩ : ∃ m, N - i = m + 1 := ⟨N - i - 1, by omega⟩
  have h2 : N - (i + 1) = m := by omega
  rw [fillL, fillL, List.set_append_right _ _ (by omega), h, Nat.sub_self, hm, h2, List.replicate_succ, List.set_cons_zero, List.take_add_one, hx]
  simp

set_option maxHeartbeats 800000 in
theorem roots_any (F : Nat → Nat → Bool) (N K m : Nat) (w : World) (hN : N ≤ 64) (hK : K ≤ 310) (h1 : (primeRun K).length = N) (h2 : ∀ j, j < K → (primeRun j).length < N)
    (hr : ∀ (p : Nat) (w : World), p < 65536 → Calls Try.prog 30 #[.int .u32 (p : Int), .int .i64 (m : Int)] w (RetN .u32 (rootN (F p) 38 0 137438953472 % 4294967296) w)) :
    Calls Try.prog 23 #[.int .i64 (N : Int), .int .i64 (m : Int)] w (Gives .u32 ((primeRun K).map fun p => rootN (F p) 38 0 137438953472 % 4294967296) w) := by
  have HP := refPrimes_any N K w hN hK h1 h2
  have HL := Lib.hid h1
  have HB := Lib.hid (primeRun_bd K)
  clear h1 h2
  generalize primeRun K = l at *
  go_enter Try.func23, Try.ntmps23
  go_wp2_with fail
  refine HP.mono ?_
  rintro e w1 ⟨A, c, rfl, hc1, hc2, hO, hb1⟩
  have hx := hO.rd
  clear hO hc1 hc2
  go_wp2_with (at_make; refine wpList_make_ints _ rfl _ _ _ rfl .u32 32 4 Try.underlying51 info_u32 _ _ N _ _ rfl rfl (by omega) (by omega) (by omega) (by omega) ?_; intro g w2 hg hw2 hs2 hb2)
  have hgl : w1.heap.size ≤ g := by rw [hg.out]; exact Nat.le_refl _
  have hgl' : w.heap.size ≤ g := Nat.le_trans hb1.size hgl
  have hbel := hb1.trans (hb2.mono hb1.size)
  have hx2 := hx.below hb2
  have hof : Off A l g := Off.new hx hgl
  go_loopw [7] (fun t wr => ∃ i : Nat, t = .int .i64 (i : Int) ∧ i ≤ N ∧ Blk .u32 wr g (fillL (fun p => rootN (F p) 38 0 137438953472 % 4294967296) l N i) ∧ Rd .u32 wr A l ∧ Below w.heap.size w wr) (fun t _ => N - (intOf t).toNat)
  case atStart => exact ⟨0, rfl, Nat.zero_le _, by simpa [fillL] using hw2.blk, hx2, hbel⟩
  case round =>
    clear hbel hw2 hx2 hb2
    obtain ⟨i, rfl, hi, hbr, hxr, hbel⟩ := hrel
    by_cases hlt : i < N
    · obtain ⟨x, hgx⟩ := get_of_lt (xs := l) (i := i) (by rw [HL.out]; exact hlt)
      have hgxx := Lib.hid hgx
      have hll := Lib.hid HL.out
      obtain ⟨b, o, rfl, hbw, hcl⟩ := hxr.pos hgx
      have hcell := hcl _ x hgx
      have hxb := (HB.out x (List.mem_of_getElem? hgx)).2
      clear hcl hgx
      have hil : i < l.length := by have := hll.out; omega
      have HG := Lib.hid (fill_get (f := fun p => rootN (F p) 38 0 137438953472 % 4294967296) hll.out hlt)
      have HS := Lib.hid (fill_set (f := fun p => rootN (F p) 38 0 137438953472 % 4294967296) hlt hgxx.out)
      generalize fillL (fun p => rootN (F p) 38 0 137438953472 % 4294967296) l N i = cs at *
      obtain ⟨ds, hds⟩ : ∃ ds, fillL (fun p => rootN (F p) 38 0 137438953472 % 4294967296) l N (i + 1) = ds := ⟨_, rfl⟩
      rw [hds] at HS
      have HDS := Lib.hid hds
      clear hds
      have hR := hr x wr (by omega)
      generalize rootN (F x) 38 0 137438953472 % 4294967296 = r at *
      go_wp2_with fail
      refine hR.mono ?_
      rintro e w3 ⟨rfl, hb3⟩
      have hbr3 := hbr.below hb3
      have hxr3 := hxr.below hb3
      have hbel3 := hbel.trans (hb3.mono hbel.size)
      have hc0 := hbr3.cell HG.out
      have hf0 := hbr3.frozen HG.out
      have hs3 := hbr3.set HG.out r
      rw [HS.out] at hs3
      go_wp2_with fail
      go_roundw
      case rel => exact ⟨i + 1, by go_num, hlt, by rw [HDS.out]; exact hs3, hxr3.setCell hof _, hbel3.setCell hgl' _⟩
      case measure => simp [intOf]; omega
    · obtain rfl : i = N := by omega
      have he : fillL (fun p => rootN (F p) 38 0 137438953472 % 4294967296) l i i = l.map fun p => rootN (F p) 38 0 137438953472 % 4294967296 := by rw [fillL, List.take_of_length_le (by rw [HL.out]; omega)]; simp
      rw [he] at hbr
      have hml := Lib.hid (show (l.map fun p => rootN (F p) 38 0 137438953472 % 4294967296).length = i by simp [HL.out])
      clear he
      go_wp2_with fail
      go_ret
      exact ⟨_, _, by rw [hml.out]; rfl, by rw [hml.out]; exact Nat.le_refl _, by simp only [maxLen]; omega, Own.of_blk hbr hgl', hbel⟩

theorem primeRun_below {n j m : Nat} (h : (primeRun n).length = m) (hj : j < n + 1) : (primeRun j).length < m + 1 := by
  have h1 := primeRun_mono j (n - j)
  rw [show j + (n - j) = n by omega, h] at h1
  omega
theorem roots_H (w : World) : Calls Try.prog 23 #[.int .i64 8, .int .i64 2] w (Gives .u32 H8 w) := by
  have h := roots_any sqF 8 18 2 w (by omega) (by omega) (by rw [primeRun_18]; rfl) (fun j hj => primeRun_below primeRun_17 hj) (fun p w hp => root_sq p w hp)
  rw [primeRun_18, H8_ref] at h
  exact h
theorem roots_K (w : World) : Calls Try.prog 23 #[.int .i64 64, .int .i64 3] w (Gives .u32 K64 w) := by
  have h := roots_any cuF 64 310 3 w (by omega) (by omega) (by rw [primeRun_310]; rfl) (fun j hj => primeRun_below primeRun_309 hj) (fun p w hp => root_cu p w hp)
  rw [primeRun_310, K64_ref] at h
  exact h
end Go.Proofs.Ytmbkehmgpcmicaa
