/-
  Bytes and numbers: what bytes tell (Of), in the program's words and in the reference's; a twin that was kept; bits; comparing numbers that may not be right.
-/
import Derived.Test.YtfclpieijbgodaaNatC
import Derived.Test.YtfclpieijbgodaaNum2
import Derived.Test.YtfclpieijbgodaaShelf
namespace Go.Proofs.Ytfclpieijbgodaa
set_option linter.unusedVariables false
set_option linter.unusedSimpArgs false
open Go.RowKit

set_option maxHeartbeats 400000 in
theorem kept_any (g : Nat) (B : Option Addr) (n d : Nat) (xs : List Nat) (w : World) (hn : n = xs.length) (hl : n ≤ 70000) (hg : Blk .u32 w g (xs ++ [7, 9])) (hx : Rd .u32 w B xs) :
    Calls Try.prog 29 #[.slice (some ⟨g, 0, none⟩) n (n + 2), .slice B n d] w (Quiet (.bool true) w) := by
  subst hn
  have h7 : w.cell? ⟨g, xs.length, none⟩ = some (.int .u32 7) := hg.cell (by simp)
  have h9 : w.cell? ⟨g, xs.length + 1, none⟩ = some (.int .u32 9) := hg.cell (by simp [List.getElem?_append])
  have hr : Rd .u32 w (some ⟨g, 0, none⟩) xs := by
    have := Rd.of_blk hg 0 xs.length
    simpa using this
  go_enter Try.func29, Try.ntmps29
  go_wp2_with fail
  refine (same_any _ _ _ _ _ _ xs xs _ rfl rfl hl hl hr hx).mono ?_
  rintro e w' ⟨rfl, q, rfl⟩
  go_wp2_with fail
  go_ret
  exact Quiet.mk rfl q

theorem of_step (x y k : Nat) (hx : x < 4294967296) : bits .or .u32 (x : Int) ((y : Int) * 2 ^ (8 * (k % 4)) % 4294967296) = ((x ||| (y * 2 ^ (8 * (k % 4)) % 4294967296) : Nat) : Int) := by
  have e : ((y : Int) * 2 ^ (8 * (k % 4)) % 4294967296) = ((y * 2 ^ (8 * (k % 4)) % 4294967296 : Nat) : Int) := by simp
  rw [e]
  exact u32_or_nat _ _ hx (Nat.mod_lt _ (by omega))

set_option maxHeartbeats 400000 in
theorem of_any (A : Option Addr) (n c : Nat) (bs : List Nat) (w : World) (hn : n = bs.length) (hl : n ≤ 512) (hx : Rd .u8 w A bs) (lb : Lim 256 bs) :
    Calls Try.prog 52 #[.slice A n c] w (Gives2 .u32 (limbs (valB bs)) 0 w) := by
  subst hn
  have HV := Lib.hid (ofTo_val lb)
  have HL := Lib.hid (ofTo_lim (n := (bs.length + 3) / 4) lb (Nat.le_refl _) (by omega))
  go_enter Try.func52, Try.ntmps52
  go_wp2_with (at_make; refine wpList_make_ints _ rfl _ _ _ rfl .u32 33 4 Try.underlying22 info_u32 _ _ ((bs.length + 3) / 4) _ _ rfl rfl (by omega) (by omega) (by omega) (by omega) ?_; intro g w1 hg hw1 hs1 hb1)
  have hgl : w.heap.size ≤ g := by rw [hg.out]; exact Nat.le_refl _
  go_loopw [16] (fun t wr => ∃ k : Nat, t = .int .i64 k ∧ k ≤ bs.length ∧ Blk .u32 wr g (ofTo bs ((bs.length + 3) / 4) k) ∧ Below w.heap.size w wr) (fun t _ => bs.length - (intOf t).toNat)
  case atStart => exact ⟨0, rfl, Nat.zero_le _, hw1.blk, hb1⟩
  case round =>
    obtain ⟨k, rfl, hk, hbr, hbel⟩ := hrel
    by_cases hlt : k < bs.length
    · obtain ⟨y, hgy⟩ := get_of_lt (xs := bs) (i := bs.length - 1 - k) (by omega)
      obtain ⟨b, o, rfl, hbw, hcl⟩ := ((hx.below hbel).pos hgy)
      have hcell := hcl _ y hgy
      have hdl : k / 4 < (ofTo bs ((bs.length + 3) / 4) k).length := by rw [ofTo_length]; omega
      obtain ⟨x, hgx⟩ := get_of_lt hdl
      have hcx := hbr.cell hgx
      have hfx := hbr.frozen hgx
      have hyb := lb.get hgy
      have hxb := (ofTo_lim (n := (bs.length + 3) / 4) lb (Nat.le_of_lt hlt) (by omega)).get hgx
      have HS := Lib.hid (ofTo_succ hgx hgy)
      have HX := Lib.hid hgx
      clear hcl hgx hgy
      go_wp2
      go_region
      go_wp2
      go_roundw
      case rel =>
        refine ⟨k + 1, by go_num, by omega, ?_, ?_⟩
        · rw [of_step x y k hxb, HS.out]
          exact (hbr.set HX.out _).drew
        · exact (hbel.setCell hgl _).drew
      case measure => simp [intOf] <;> omega
    · obtain rfl : k = bs.length := by omega
      go_wp2_with fail
      refine (trim_any _ _ _ _ _ (by rw [ofTo_length]) (Nat.le_refl _) (by omega) (Rd.of_all hbr) HL.out).mono ?_
      rintro e w' ⟨m, rfl, hm, ht, rfl⟩
      go_wp2_with fail
      go_ret2
      rw [HV.out] at ht
      have hO := (Own.of_blk hbr hgl).take m
      rw [ht.out] at hO
      have hlen : (limbs (valB bs)).length = m := by rw [← ht.out, List.length_take, ofTo_length]; omega
      exact ⟨_, m, by rw [hlen]; rfl, by rw [hlen]; exact Nat.le_refl _, by simp only [maxLen]; omega, hO, hbel⟩

set_option maxHeartbeats 400000 in
theorem of_big (A : Option Addr) (n c : Nat) (w : World) (hl : 512 < n) (hn : n ≤ 70000) :
    Calls Try.prog 52 #[.slice A n c] w (Gives2 .u32 [] 10 w) := by
  go_enter Try.func52, Try.ntmps52
  go_wp2_with fail
  go_ret2
  exact ⟨none, 0, rfl, Nat.le_refl _, Nat.zero_le _, Own.nil _ _ _ _, Below.refl _ _⟩
set_option maxHeartbeats 400000 in
theorem refOf_big (A : Option Addr) (n c : Nat) (w : World) (hl : 512 < n) (hn : n ≤ 70000) :
    Calls Try.prog 88 #[.slice A n c] w (Gives2 .u32 [] 10 w) := by
  go_enter Try.func88, Try.ntmps88
  go_wp2_with fail
  go_ret2
  exact ⟨none, 0, rfl, Nat.le_refl _, Nat.zero_le _, Own.nil _ _ _ _, Below.refl _ _⟩

set_option maxHeartbeats 400000 in
theorem refOf_any (A : Option Addr) (n c : Nat) (bs : List Nat) (w : World) (hn : n = bs.length) (hl : n ≤ 512) (hx : Rd .u8 w A bs) (lb : Lim 256 bs) :
    Calls Try.prog 88 #[.slice A n c] w (Gives2 .u32 (limbs (valB bs)) 0 w) := by
  subst hn
  have HV := Lib.hid (ofTo_val lb)
  have HL := Lib.hid (ofTo_lim (n := (bs.length + 3) / 4) lb (Nat.le_refl _) (by omega))
  go_enter Try.func88, Try.ntmps88
  go_wp2_with (at_make; refine wpList_make_ints _ rfl _ _ _ rfl .u32 33 4 Try.underlying22 info_u32 _ _ ((bs.length + 3) / 4) _ _ rfl rfl (by omega) (by omega) (by omega) (by omega) ?_; intro g w1 hg hw1 hs1 hb1)
  have hgl : w.heap.size ≤ g := by rw [hg.out]; exact Nat.le_refl _
  go_loopw [5] (fun t wr => ∃ k : Nat, t = .int .i64 k ∧ k ≤ bs.length ∧ Blk .u32 wr g (ofTo bs ((bs.length + 3) / 4) k) ∧ Below w.heap.size w wr) (fun t _ => bs.length - (intOf t).toNat)
  case atStart => exact ⟨0, rfl, Nat.zero_le _, hw1.blk, hb1⟩
  case round =>
    obtain ⟨k, rfl, hk, hbr, hbel⟩ := hrel
    by_cases hlt : k < bs.length
    · obtain ⟨y, hgy⟩ := get_of_lt (xs := bs) (i := bs.length - 1 - k) (by omega)
      obtain ⟨b, o, rfl, hbw, hcl⟩ := ((hx.below hbel).pos hgy)
      have hcell := hcl _ y hgy
      have hdl : k / 4 < (ofTo bs ((bs.length + 3) / 4) k).length := by rw [ofTo_length]; omega
      obtain ⟨x, hgx⟩ := get_of_lt hdl
      have hcx := hbr.cell hgx
      have hfx := hbr.frozen hgx
      have hyb := lb.get hgy
      have hxb := (ofTo_lim (n := (bs.length + 3) / 4) lb (Nat.le_of_lt hlt) (by omega)).get hgx
      have HS := Lib.hid (ofTo_succ hgx hgy)
      have HX := Lib.hid hgx
      clear hcl hgx hgy
      go_wp2
      go_region
      go_wp2
      go_roundw
      case rel =>
        refine ⟨k + 1, by go_num, by omega, ?_, ?_⟩
        · rw [of_step x y k hxb, HS.out]
          exact (hbr.set HX.out _).drew
        · exact (hbel.setCell hgl _).drew
      case measure => simp [intOf] <;> omega
    · obtain rfl : k = bs.length := by omega
      go_wp2_with fail
      refine (refTrim_any _ _ _ _ _ (by rw [ofTo_length]) (Nat.le_refl _) (by omega) (Rd.of_all hbr) HL.out).mono ?_
      rintro e w' ⟨A', c', rfl, h1, h2, hown, hb2⟩
      go_wp2_with fail
      go_ret2
      rw [HV.out] at h1 hown
      exact ⟨A', c', by rw [HV.out]; rfl, h1, h2, hown.mono hbel.size, hbel.trans (hb2.mono hbel.size)⟩
end Go.Proofs.Ytfclpieijbgodaa
