/-
  The reference's padding: padded.
-/
import Derived.Test.YtmbkehmgpcmicaaShaU
import Derived.Test.YtmbkehmgpcmicaaShaQ
namespace Go.Proofs.Ytmbkehmgpcmicaa
set_option linter.unusedVariables false
set_option linter.unusedSimpArgs false
open Go.RowKit

theorem be64_length (B : Nat) : (be64 B).length = 8 := by simp [be64]
theorem be64_take (B j : Nat) (h : j < 8) : (be64 B).take j ++ [B / 2 ^ (56 - 8 * j) % 256] = (be64 B).take (j + 1) := by
  rw [List.take_add_one, List.getElem?_eq_getElem (by rw [be64_length]; exact h)]
  simp [be64]
theorem byte_cast (B P : Nat) : IntKind.u8.wrap ((B : Int) / (P : Int)) = ((B / P % 256 : Nat) : Int) := by
  rw [IntKind.wrap_u8', Int.natCast_emod, Int.natCast_ediv]
  rfl

set_option maxHeartbeats 1600000 in
theorem padded_any (A : Option Addr) (n c : Nat) (xs : List Nat) (w : World) (hn : n = xs.length) (hl : n ≤ 1099511627776) (hx : Rd .u8 w A xs) :
    Calls Try.prog 24 #[.slice A n c] w (Gives .u8 (xs ++ padding xs.length) w) := by
  obtain ⟨z, hz⟩ : ∃ z, z = (119 - n % 64) % 64 := ⟨_, rfl⟩
  obtain ⟨B, hB⟩ : ∃ B, B = 8 * n := ⟨_, rfl⟩
  have hBi : (8 : Int) * (n : Int) = (B : Int) := by omega
  have HP := Lib.hid (show xs ++ padding xs.length = xs ++ 128 :: List.replicate z 0 ++ be64 B by
    rw [← hn, padding, ← hz, hB, Nat.mod_eq_of_lt (show 8 * n < 18446744073709551616 by omega)]
    simp)
  have HLn := Lib.hid hn
  have HB := Lib.hid hB
  have HZ := Lib.hid hz
  have hzl : z < 64 := by omega
  rw [HP.out]
  clear hB hz hn
  go_enter Try.func24, Try.ntmps24
  go_wp2_with fail
  refine (copyBytes_any A n c xs _ HLn.out hl hx).mono ?_
  rintro e w1 ⟨A1, c1, rfl, hown, hb1⟩
  rw [← HLn.out] at hown ⊢
  have hv := Lib.hid (show #[Value.int .u8 128] = (ints .u8 [128]).toArray by simp [ints])
  go_wp2_with (at_builtin; refine wpList_append_ints _ rfl (.tmp 8) (.tmp 9) _ rfl w.heap.size 5 .u8 1 Try.underlying22 info_u8 (.slice A1 n c1) n xs rfl (hown.alloc _) _ 1 1 [128] rfl rfl (Rd.of_all (blk_lit w1 [128] _ hv.out)) (by simp only [maxLen]; omega) (by omega) (by have := hb1.size; simp; omega) ?_; intro v2 w2 hown2 hgrow2 _)
  obtain ⟨A2, c2, rfl, -⟩ := row_form hown2
  have hb2 : Below w.heap.size w w2 := (hb1.alloc hb1.size _).grown hgrow2 (by have := hb1.size; simp; omega) (fun k hk => (hown.lt k hk).1)
  go_wp2_with fail
  go_loopw [3] (fun s wr => ∃ (i p : Nat) (A : Option Addr) (c : Nat), s = .slice A p c ∧ i ≤ z ∧ Hid (p = n + 1 + i) ∧ p ≤ 1099511627900 ∧ wr.ownsRow w.heap.size 5 1 (.slice A p c) p (ints .u8 (xs ++ 128 :: List.replicate i 0)) ∧ Below w.heap.size w wr) (fun s wr => 100 + n - sliceLen s)
  case atStart => exact ⟨0, n + 1, A2, c2, rfl, Nat.zero_le _, rfl, by omega, hown2, hb2⟩
  case round =>
    clear hown hown2 hb1 hb2
    obtain ⟨i, p, A3, c3, rfl, hi, hp, hpl, hown, hbr⟩ := hrel
    by_cases hlt : i < z
    · have hne : ((p : Int) % 64 != 56) = true := by have := hp.out; have := HZ.out; simp; omega
      have hv := Lib.hid (show #[Value.int .u8 0] = (ints .u8 [0]).toArray by simp [ints])
      go_wp2_with (at_builtin; refine wpList_append_ints _ rfl (.tmp 15) (.tmp 16) _ rfl w.heap.size 5 .u8 1 Try.underlying22 info_u8 (.slice A3 p c3) p (xs ++ 128 :: List.replicate i 0) rfl (hown.alloc _) _ 1 1 [0] rfl rfl (Rd.of_all (blk_lit wr [0] _ hv.out)) (by simp only [maxLen]; omega) (by omega) (by have := hbr.size; simp; omega) ?_; intro v5 w5 hown5 hgrow5 _)
      obtain ⟨A5, c5, rfl, -⟩ := row_form hown5
      have hbr5 : Below w.heap.size w w5 := (hbr.alloc hbr.size _).grown hgrow5 (by have := hbr.size; simp; omega) (fun k hk => (hown.lt k hk).1)
      have he : (xs ++ 128 :: List.replicate i 0) ++ [0] = xs ++ 128 :: List.replicate (i + 1) 0 := by rw [List.replicate_succ']; simp
      rw [he] at hown5
      go_wp2_with fail
      go_roundw
      case rel => exact ⟨i + 1, p + 1, A5, c5, rfl, hlt, by show p + 1 = n + 1 + (i + 1); have := hp.out; omega, by have := hp.out; omega, hown5, hbr5⟩
      case measure => have := hp.out; simp [sliceLen]; omega
    · obtain rfl : i = z := by omega
      have hne : ((p : Int) % 64 != 56) = false := by have := hp.out; have := HZ.out; simp; omega
      go_wp2_with fail
      have hp2 := Lib.hid (show p + 8 = (xs ++ 128 :: List.replicate i 0 ++ be64 B).length by have := hp.out; have := HLn.out; simp [be64_length]; omega)
      have hpm : p ≤ 1099511627900 := hpl
      have HR := Lib.hid (show xs ++ 128 :: List.replicate i 0 = xs ++ 128 :: List.replicate i 0 from rfl)
      clear HR hne hp hlt hi hzl HZ HB HP hl hBi
      generalize xs ++ 128 :: List.replicate i 0 = ms at *
      go_loopw [3, 5] (fun s t wr => ∃ (j q : Nat) (v : Int) (A : Option Addr) (c : Nat), s = .slice A q c ∧ t = .int .i64 v ∧ Hid (v = 7 - (j : Int)) ∧ j ≤ 8 ∧ Hid (q = p + j) ∧ q ≤ 1099511627920 ∧ wr.ownsRow w.heap.size 5 1 (.slice A q c) q (ints .u8 (ms ++ (be64 B).take j)) ∧ Below w.heap.size w wr) (fun s t _ => (intOf t + 1).toNat)
      case atStart => exact ⟨0, p, 7, A3, c3, rfl, rfl, rfl, by omega, rfl, by omega, by simpa using hown, hbr⟩
      case round =>
        clear hown hbr
        obtain ⟨j, q, v, A4, c4, rfl, rfl, hv, hj, hq, hql, hown, hbr⟩ := hrel
        rcases Nat.lt_or_ge j 8 with hj8 | hj8
        · have ht := Lib.hid (be64_take B j hj8)
          have hq1 := Lib.hid (show q + 1 = p + (j + 1) by have := hq.out; omega)
          have hcs : j = 0 ∨ j = 1 ∨ j = 2 ∨ j = 3 ∨ j = 4 ∨ j = 5 ∨ j = 6 ∨ j = 7 := by omega
          clear hj hj8
          rcases hcs with rfl | rfl | rfl | rfl | rfl | rfl | rfl | rfl
          · obtain rfl : v = 7 := by have := hv.out; omega
            have hbt : IntKind.u8.wrap ((B : Int) / 72057594037927936) = ((B / 72057594037927936 % 256 : Nat) : Int) := byte_cast B 72057594037927936
            have hb7 : (B : Int) % 256 = ((B / 1 % 256 : Nat) : Int) := by rw [Nat.div_one]; omega
            replace ht : Hid ((be64 B).take 0 ++ [B / 72057594037927936 % 256] = (be64 B).take (0 + 1)) := ht
            generalize B / 72057594037927936 % 256 = bt at *
            have hv := Lib.hid (show #[Value.int .u8 (bt : Int)] = (ints .u8 [bt]).toArray by simp [ints])
            go_wp2_with (at_builtin; refine wpList_append_ints _ rfl (.tmp 26) (.tmp 33) _ rfl w.heap.size 5 .u8 1 Try.underlying22 info_u8 (.slice A4 q c4) q (ms ++ (be64 B).take 0) rfl (hown.alloc _) _ 1 1 [bt] rfl rfl (Rd.of_all (blk_lit wr [bt] _ hv.out)) (by simp only [maxLen]; omega) (by omega) (by have := hbr.size; simp; omega) ?_; intro v5 w5 hown5 hgrow5 _)
            obtain ⟨A5, c5, rfl, -⟩ := row_form hown5
            have hbr5 : Below w.heap.size w w5 := (hbr.alloc hbr.size _).grown hgrow5 (by have := hbr.size; simp; omega) (fun k hk => (hown.lt k hk).1)
            rw [List.append_assoc, ht.out] at hown5
            go_wp2_with fail
            go_roundw
            case rel => exact ⟨0 + 1, q + 1, 7 - 1, A5, c5, rfl, rfl, by show _ = _; rfl, by omega, hq1, by have := hq1.out; omega, hown5, hbr5⟩
            case measure => simp [intOf]
          · obtain rfl : v = 6 := by have := hv.out; omega
            have hbt : IntKind.u8.wrap ((B : Int) / 281474976710656) = ((B / 281474976710656 % 256 : Nat) : Int) := byte_cast B 281474976710656
            have hb7 : (B : Int) % 256 = ((B / 1 % 256 : Nat) : Int) := by rw [Nat.div_one]; omega
            replace ht : Hid ((be64 B).take 1 ++ [B / 281474976710656 % 256] = (be64 B).take (1 + 1)) := ht
            generalize B / 281474976710656 % 256 = bt at *
            have hv := Lib.hid (show #[Value.int .u8 (bt : Int)] = (ints .u8 [bt]).toArray by simp [ints])
            go_wp2_with (at_builtin; refine wpList_append_ints _ rfl (.tmp 26) (.tmp 33) _ rfl w.heap.size 5 .u8 1 Try.underlying22 info_u8 (.slice A4 q c4) q (ms ++ (be64 B).take 1) rfl (hown.alloc _) _ 1 1 [bt] rfl rfl (Rd.of_all (blk_lit wr [bt] _ hv.out)) (by simp only [maxLen]; omega) (by omega) (by have := hbr.size; simp; omega) ?_; intro v5 w5 hown5 hgrow5 _)
            obtain ⟨A5, c5, rfl, -⟩ := row_form hown5
            have hbr5 : Below w.heap.size w w5 := (hbr.alloc hbr.size _).grown hgrow5 (by have := hbr.size; simp; omega) (fun k hk => (hown.lt k hk).1)
            rw [List.append_assoc, ht.out] at hown5
            go_wp2_with fail
            go_roundw
            case rel => exact ⟨1 + 1, q + 1, 6 - 1, A5, c5, rfl, rfl, by show _ = _; rfl, by omega, hq1, by have := hq1.out; omega, hown5, hbr5⟩
            case measure => simp [intOf]
          · obtain rfl : v = 5 := by have := hv.out; omega
            have hbt : IntKind.u8.wrap ((B : Int) / 1099511627776) = ((B / 1099511627776 % 256 : Nat) : Int) := byte_cast B 1099511627776
            have hb7 : (B : Int) % 256 = ((B / 1 % 256 : Nat) : Int) := by rw [Nat.div_one]; omega
            replace ht : Hid ((be64 B).take 2 ++ [B / 1099511627776 % 256] = (be64 B).take (2 + 1)) := ht
            generalize B / 1099511627776 % 256 = bt at *
            have hv := Lib.hid (show #[Value.int .u8 (bt : Int)] = (ints .u8 [bt]).toArray by simp [ints])
            go_wp2_with (at_builtin; refine wpList_append_ints _ rfl (.tmp 26) (.tmp 33) _ rfl w.heap.size 5 .u8 1 Try.underlying22 info_u8 (.slice A4 q c4) q (ms ++ (be64 B).take 2) rfl (hown.alloc _) _ 1 1 [bt] rfl rfl (Rd.of_all (blk_lit wr [bt] _ hv.out)) (by simp only [maxLen]; omega) (by omega) (by have := hbr.size; simp; omega) ?_; intro v5 w5 hown5 hgrow5 _)
            obtain ⟨A5, c5, rfl, -⟩ := row_form hown5
            have hbr5 : Below w.heap.size w w5 := (hbr.alloc hbr.size _).grown hgrow5 (by have := hbr.size; simp; omega) (fun k hk => (hown.lt k hk).1)
            rw [List.append_assoc, ht.out] at hown5
            go_wp2_with fail
            go_roundw
            case rel => exact ⟨2 + 1, q + 1, 5 - 1, A5, c5, rfl, rfl, by show _ = _; rfl, by omega, hq1, by have := hq1.out; omega, hown5, hbr5⟩
            case measure => simp [intOf]
          · obtain rfl : v = 4 := by have := hv.out; omega
            have hbt : IntKind.u8.wrap ((B : Int) / 4294967296) = ((B / 4294967296 % 256 : Nat) : Int) := byte_cast B 4294967296
            have hb7 : (B : Int) % 256 = ((B / 1 % 256 : Nat) : Int) := by rw [Nat.div_one]; omega
            replace ht : Hid ((be64 B).take 3 ++ [B / 4294967296 % 256] = (be64 B).take (3 + 1)) := ht
            generalize B / 4294967296 % 256 = bt at *
            have hv := Lib.hid (show #[Value.int .u8 (bt : Int)] = (ints .u8 [bt]).toArray by simp [ints])
            go_wp2_with (at_builtin; refine wpList_append_ints _ rfl (.tmp 26) (.tmp 33) _ rfl w.heap.size 5 .u8 1 Try.underlying22 info_u8 (.slice A4 q c4) q (ms ++ (be64 B).take 3) rfl (hown.alloc _) _ 1 1 [bt] rfl rfl (Rd.of_all (blk_lit wr [bt] _ hv.out)) (by simp only [maxLen]; omega) (by omega) (by have := hbr.size; simp; omega) ?_; intro v5 w5 hown5 hgrow5 _)
            obtain ⟨A5, c5, rfl, -⟩ := row_form hown5
            have hbr5 : Below w.heap.size w w5 := (hbr.alloc hbr.size _).grown hgrow5 (by have := hbr.size; simp; omega) (fun k hk => (hown.lt k hk).1)
            rw [List.append_assoc, ht.out] at hown5
            go_wp2_with fail
            go_roundw
            case rel => exact ⟨3 + 1, q + 1, 4 - 1, A5, c5, rfl, rfl, by show _ = _; rfl, by omega, hq1, by have := hq1.out; omega, hown5, hbr5⟩
            case measure => simp [intOf]
          · obtain rfl : v = 3 := by have := hv.out; omega
            have hbt : IntKind.u8.wrap ((B : Int) / 16777216) = ((B / 16777216 % 256 : Nat) : Int) := byte_cast B 16777216
            have hb7 : (B : Int) % 256 = ((B / 1 % 256 : Nat) : Int) := by rw [Nat.div_one]; omega
            replace ht : Hid ((be64 B).take 4 ++ [B / 16777216 % 256] = (be64 B).take (4 + 1)) := ht
            generalize B / 16777216 % 256 = bt at *
            have hv := Lib.hid (show #[Value.int .u8 (bt : Int)] = (ints .u8 [bt]).toArray by simp [ints])
            go_wp2_with (at_builtin; refine wpList_append_ints _ rfl (.tmp 26) (.tmp 33) _ rfl w.heap.size 5 .u8 1 Try.underlying22 info_u8 (.slice A4 q c4) q (ms ++ (be64 B).take 4) rfl (hown.alloc _) _ 1 1 [bt] rfl rfl (Rd.of_all (blk_lit wr [bt] _ hv.out)) (by simp only [maxLen]; omega) (by omega) (by have := hbr.size; simp; omega) ?_; intro v5 w5 hown5 hgrow5 _)
            obtain ⟨A5, c5, rfl, -⟩ := row_form hown5
            have hbr5 : Below w.heap.size w w5 := (hbr.alloc hbr.size _).grown hgrow5 (by have := hbr.size; simp; omega) (fun k hk => (hown.lt k hk).1)
            rw [List.append_assoc, ht.out] at hown5
            go_wp2_with fail
            go_roundw
            case rel => exact ⟨4 + 1, q + 1, 3 - 1, A5, c5, rfl, rfl, by show _ = _; rfl, by omega, hq1, by have := hq1.out; omega, hown5, hbr5⟩
            case measure => simp [intOf]
          · obtain rfl : v = 2 := by have := hv.out; omega
            have hbt : IntKind.u8.wrap ((B : Int) / 65536) = ((B / 65536 % 256 : Nat) : Int) := byte_cast B 65536
            have hb7 : (B : Int) % 256 = ((B / 1 % 256 : Nat) : Int) := by rw [Nat.div_one]; omega
            replace ht : Hid ((be64 B).take 5 ++ [B / 65536 % 256] = (be64 B).take (5 + 1)) := ht
            generalize B / 65536 % 256 = bt at *
            have hv := Lib.hid (show #[Value.int .u8 (bt : Int)] = (ints .u8 [bt]).toArray by simp [ints])
            go_wp2_with (at_builtin; refine wpList_append_ints _ rfl (.tmp 26) (.tmp 33) _ rfl w.heap.size 5 .u8 1 Try.underlying22 info_u8 (.slice A4 q c4) q (ms ++ (be64 B).take 5) rfl (hown.alloc _) _ 1 1 [bt] rfl rfl (Rd.of_all (blk_lit wr [bt] _ hv.out)) (by simp only [maxLen]; omega) (by omega) (by have := hbr.size; simp; omega) ?_; intro v5 w5 hown5 hgrow5 _)
            obtain ⟨A5, c5, rfl, -⟩ := row_form hown5
            have hbr5 : Below w.heap.size w w5 := (hbr.alloc hbr.size _).grown hgrow5 (by have := hbr.size; simp; omega) (fun k hk => (hown.lt k hk).1)
            rw [List.append_assoc, ht.out] at hown5
            go_wp2_with fail
            go_roundw
            case rel => exact ⟨5 + 1, q + 1, 2 - 1, A5, c5, rfl, rfl, by show _ = _; rfl, by omega, hq1, by have := hq1.out; omega, hown5, hbr5⟩
            case measure => simp [intOf]
          · obtain rfl : v = 1 := by have := hv.out; omega
            have hbt : IntKind.u8.wrap ((B : Int) / 256) = ((B / 256 % 256 : Nat) : Int) := byte_cast B 256
            have hb7 : (B : Int) % 256 = ((B / 1 % 256 : Nat) : Int) := by rw [Nat.div_one]; omega
            replace ht : Hid ((be64 B).take 6 ++ [B / 256 % 256] = (be64 B).take (6 + 1)) := ht
            generalize B / 256 % 256 = bt at *
            have hv := Lib.hid (show #[Value.int .u8 (bt : Int)] = (ints .u8 [bt]).toArray by simp [ints])
            go_wp2_with (at_builtin; refine wpList_append_ints _ rfl (.tmp 26) (.tmp 33) _ rfl w.heap.size 5 .u8 1 Try.underlying22 info_u8 (.slice A4 q c4) q (ms ++ (be64 B).take 6) rfl (hown.alloc _) _ 1 1 [bt] rfl rfl (Rd.of_all (blk_lit wr [bt] _ hv.out)) (by simp only [maxLen]; omega) (by omega) (by have := hbr.size; simp; omega) ?_; intro v5 w5 hown5 hgrow5 _)
            obtain ⟨A5, c5, rfl, -⟩ := row_form hown5
            have hbr5 : Below w.heap.size w w5 := (hbr.alloc hbr.size _).grown hgrow5 (by have := hbr.size; simp; omega) (fun k hk => (hown.lt k hk).1)
            rw [List.append_assoc, ht.out] at hown5
            go_wp2_with fail
            go_roundw
            case rel => exact ⟨6 + 1, q + 1, 1 - 1, A5, c5, rfl, rfl, by show _ = _; rfl, by omega, hq1, by have := hq1.out; omega, hown5, hbr5⟩
            case measure => simp [intOf]
          · obtain rfl : v = 0 := by have := hv.out; omega
            have hbt : IntKind.u8.wrap ((B : Int) / 1) = ((B / 1 % 256 : Nat) : Int) := byte_cast B 1
            have hb7 : (B : Int) % 256 = ((B / 1 % 256 : Nat) : Int) := by rw [Nat.div_one]; omega
            replace ht : Hid ((be64 B).take 7 ++ [B / 1 % 256] = (be64 B).take (7 + 1)) := ht
            generalize B / 1 % 256 = bt at *
            have hv := Lib.hid (show #[Value.int .u8 (bt : Int)] = (ints .u8 [bt]).toArray by simp [ints])
            go_wp2_with (at_builtin; refine wpList_append_ints _ rfl (.tmp 26) (.tmp 33) _ rfl w.heap.size 5 .u8 1 Try.underlying22 info_u8 (.slice A4 q c4) q (ms ++ (be64 B).take 7) rfl (hown.alloc _) _ 1 1 [bt] rfl rfl (Rd.of_all (blk_lit wr [bt] _ hv.out)) (by simp only [maxLen]; omega) (by omega) (by have := hbr.size; simp; omega) ?_; intro v5 w5 hown5 hgrow5 _)
            obtain ⟨A5, c5, rfl, -⟩ := row_form hown5
            have hbr5 : Below w.heap.size w w5 := (hbr.alloc hbr.size _).grown hgrow5 (by have := hbr.size; simp; omega) (fun k hk => (hown.lt k hk).1)
            rw [List.append_assoc, ht.out] at hown5
            go_wp2_with fail
            go_roundw
            case rel => exact ⟨7 + 1, q + 1, 0 - 1, A5, c5, rfl, rfl, by show _ = _; rfl, by omega, hq1, by have := hq1.out; omega, hown5, hbr5⟩
            case measure => simp [intOf]
        · obtain rfl : j = 8 := by omega
          obtain rfl : v = -1 := by have := hv.out; omega
          rw [List.take_of_length_le (by rw [be64_length]; omega)] at hown
          obtain ⟨A', c', he, -, hle, hcm, hO⟩ := Own.of_row hown
          injection he with he1 _ he2
          subst he1
          subst he2
          have hqq := Lib.hid (show q = (ms ++ be64 B).length by have := hq.out; have := hp2.out; omega)
          go_wp2_with fail
          go_ret
          exact ⟨A4, c4, by rw [← hqq.out]; rfl, by rw [← hqq.out]; exact hle, hcm, hO, hbr⟩
end Go.Proofs.Ytmbkehmgpcmicaa
