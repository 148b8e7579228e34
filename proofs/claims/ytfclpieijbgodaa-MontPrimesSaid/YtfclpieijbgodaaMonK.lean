/-
  The statements' helpers of layer 5: a number of up to 64 bits as limbs (number), and a number as one below a modulus (below).
-/
import Derived.Test.YtfclpieijbgodaaMonJ
namespace Go.Proofs.Ytfclpieijbgodaa
set_option linter.unusedVariables false
set_option linter.unusedSimpArgs false
open Go.RowKit

theorem limbs64_len {v : Nat} (h : v < 18446744073709551616) : (limbs v).length ≤ 2 := limbs_length_le (k := 2) (by omega)
set_option maxRecDepth 100000 in
set_option maxHeartbeats 800000 in
theorem number5_any (v : Nat) (w : World) (hv : v < 18446744073709551616) :
    Calls Try.prog 40 #[.int .u64 (v : Int)] w (Gives .u32 (limbs v) w) := by
  have hl2 := limbs64_len hv
  go_enter Try.func40, Try.ntmps40
  go_wp2_with fail
  go_loopw [0, 3] (fun sx so wr => ∃ (z i : Nat) (A2 : Option Addr) (c2 : Nat) (o : List Nat), sx = .int .u64 (z : Int) ∧ so = .slice A2 i c2 ∧ z < 18446744073709551616 ∧ Hid (limbs v = o ++ limbs z) ∧ Hid (o.length = i) ∧ wr.ownsRow w.heap.size 33 1 (.slice A2 i c2) i (ints .u32 o) ∧ Below w.heap.size w wr) (fun sx _ _ => (intOf sx).toNat)
  case atStart => exact ⟨v, 0, none, 0, [], rfl, rfl, hv, rfl, rfl, World.ownsRow_nil _ _ _ _, Below.refl _ _⟩
  case round =>
    obtain ⟨z, i, A2, c2, o, rfl, rfl, hz, hst, hol, hown, hbel⟩ := hrel
    by_cases h0 : z = 0
    · subst h0
      have ho := hst.out
      rw [limbs_zero, List.append_nil] at ho
      subst ho
      obtain rfl := hol.out
      obtain ⟨A5, c5, he, -, hc1, hc2, hO⟩ := Own.of_row hown
      injection he with he _ he2
      subst he
      subst he2
      clear hst hol
      go_wp2_with fail
      go_ret
      exact ⟨A2, c2, rfl, hc1, hc2, hO, hbel⟩
    · have hlz := Lib.hid (limbs_pos h0)
      have hil : i ≤ 1 := by
        have h1 := congrArg List.length hst.out
        rw [hlz.out] at h1
        simp only [List.length_append, List.length_cons, hol.out] at h1
        omega
      have hst2 := Lib.hid (show limbs v = (o ++ [z % 4294967296]) ++ limbs (z / 4294967296) by rw [hst.out, hlz.out]; simp)
      have hol2 := Lib.hid (show (o ++ [z % 4294967296]).length = i + 1 by simp [hol.out])
      have hm := mask32 z hz
      have hv := Lib.hid (show (#[Value.int .u32 (((z % 4294967296 : Nat) : Int))] : Array Value) = (ints .u32 [z % 4294967296]).toArray from rfl)
      clear hst hol hlz hl2
      go_wp2_with (at_builtin; refine wpList_append_ints _ rfl (.tmp 6) (.tmp 10) _ rfl w.heap.size 33 .u32 4 Try.underlying22 info_u32 (.slice A2 i c2) i o rfl (hown.alloc _) _ 1 1 [z % 4294967296] rfl rfl (Rd.of_all (blk_lit wr [z % 4294967296] _ (by first | exact hv.out | simp [ints]))) (by simp only [maxLen]; omega) (by omega) (by have := hbel.size; simp; omega) ?_; intro v5 w5 hown5 hgrow5 _)
      obtain ⟨A5, c5, rfl, _⟩ := Own.of_row hown5
      have hbr5 := below_row4 hbel hown hgrow5
      clear hown hbel hm hv
      go_roundw
      case rel => exact ⟨z / 4294967296, i + 1, A5, c5, _, by simp, rfl, by omega, hst2, hol2, hown5, hbr5⟩
      case measure => simp [intOf]; omega
def belowOf (xs ms : List Nat) : List Nat := limbs (val (xs.take 128) % val ms)
def Gives1 (xs : List Nat) (ok : Bool) (w : World) (e : Ending) (w' : World) : Prop :=
  ∃ A c, e = .returned (.tuple #[.slice A xs.length c, .bool ok]) ∧ xs.length ≤ c ∧ c ≤ maxLen ∧ Own .u32 w' w.heap.size A xs ∧ Below w.heap.size w w'
set_option maxRecDepth 100000 in
set_option maxHeartbeats 800000 in
theorem below5_any (A B : Option Addr) (n m c d : Nat) (xs ms : List Nat) (w : World) (hn : n = xs.length) (hm : m = ms.length) (hl : n ≤ 70000) (hc : n ≤ c) (hx : Rd .u32 w A xs) (hy : Rd .u32 w B ms) (lx : Lim 4294967296 xs) (hM : MayM ms) :
    Calls Try.prog 39 #[.slice A n c, .slice B m d] w (Gives1 (belowOf xs ms) true w) := by
  subst hn
  subst hm
  have hml : ms.length ≤ 256 := isRight_len hM.right
  have hmin : ∃ p : Nat, p ≤ xs.length ∧ p ≤ 128 ∧ min (xs.length : Int) 128 = (p : Int) ∧ xs.take 128 = xs.take p := by
    rcases Nat.le_total xs.length 128 with h | h
    · exact ⟨xs.length, Nat.le_refl _, h, by omega, by rw [List.take_of_length_le h, List.take_length]⟩
    · exact ⟨128, h, Nat.le_refl _, by omega, rfl⟩
  obtain ⟨p, hp1, hp2, hp3, hp4⟩ := hmin
  have HP := Lib.hid hp4
  clear hp4
  go_enter Try.func39, Try.ntmps39
  go_wp2_with fail
  clear hp3
  have HL := Lib.hid (isRight_limbs (n := val (xs.take 128)) (Nat.le_trans (limbs_length_le (val_lt (lx.take 128) |> fun h => Nat.lt_of_lt_of_le h (Nat.pow_le_pow_right (by omega) (show (xs.take 128).length ≤ 256 by rw [List.length_take]; omega)))) (Nat.le_refl _)))
  go_loop [6] (fun t => ∃ k : Nat, t = .int .i64 (k : Int) ∧ k ≤ p ∧ Hid (∀ i x, k ≤ i → (xs.take p)[i]? = some x → x = 0)) (fun t => (intOf t).toNat)
  case atStart => exact ⟨p, rfl, Nat.le_refl _, fun i x hi hg => by have := (List.getElem?_eq_some_iff.1 hg).1; rw [List.length_take] at this; omega⟩
  case round =>
    obtain ⟨k, rfl, hk, h0⟩ := hrel
    have hend : (k = 0 ∨ (xs.take p)[k - 1]? ≠ some 0) → xs.take k = limbs (val (xs.take 128)) := fun h => by
      rw [HP.out, ← take_limbs (lx.take p) (by rw [List.length_take]; omega) h0.out h, List.take_take, Nat.min_eq_left hk]
    by_cases hgo : k ≠ 0 ∧ (xs.take p)[k - 1]? = some 0
    · obtain ⟨hk0, hgx⟩ := hgo
      have hgx2 : xs[k - 1]? = some 0 := by rw [List.getElem?_take, if_pos (by omega)] at hgx; exact hgx
      obtain ⟨b, o, rfl, hbw, hcl⟩ := hx.pos hgx2
      have hcell := hcl _ 0 hgx2
      have HG := Lib.hid hgx
      clear hcl hgx hgx2 hend
      go_wp2
      go_round
      case rel => exact ⟨k - 1, by go_num, by omega, fun i x hi hg => by
        rcases Nat.lt_or_ge i k with h | h
        · obtain rfl : i = k - 1 := by omega
          have := HG.out
          rw [this] at hg
          injection hg with hg
          exact hg.symm
        · exact h0.out i x h hg⟩
      case measure => simp [intOf]; omega
    · have hL := Lib.hid (hend (by by_cases hk0 : k = 0; exact .inl hk0; exact .inr (fun h => hgo ⟨hk0, h⟩)))
      have htw := Lib.hid (twin5_any A (limbs (val (xs.take 128))).length c (limbs (val (xs.take 128))) w rfl (by rw [← hL.out, List.length_take]; omega) (by rw [← hL.out]; exact hx.take k))
      have hkl : (limbs (val (xs.take 128))).length = k := by rw [← hL.out, List.length_take]; omega
      rw [hkl] at htw
      have hdv := Lib.hid (divOf_ok (xs := limbs (val (xs.take 128))) HL.out hM.right (by have := hM.pos; intro h; rw [h] at this; simp at this))
      have hz : k = 0 ∨ ∃ x b off, k ≠ 0 ∧ A = some ⟨b, off, none⟩ ∧ x ≠ 0 ∧ w.cell? ⟨b, off + (k - 1), none⟩ = some (.int .u32 ((x : Nat) : Int)) := by
        by_cases hk0 : k = 0
        · exact .inl hk0
        · obtain ⟨x, hgx⟩ := get_of_lt (xs := xs) (i := k - 1) (by omega)
          obtain ⟨b, o, rfl, hbw, hcl⟩ := hx.pos hgx
          refine .inr ⟨x, b, o, hk0, rfl, ?_, hcl _ x hgx⟩
          rintro rfl
          exact hgo ⟨hk0, by rw [List.getElem?_take, if_pos (by omega)]; exact hgx⟩
      clear h0 hend hgo
      have hdl : ∀ g c' w1, Blk .u32 w1 g (limbs (val (xs.take 128))) → Below w.heap.size w w1 → Calls Try.prog 24 #[.slice (some ⟨g, 0, none⟩) k c', .slice B ms.length d] w1 (Gives3 (limbs (val (xs.take 128) / val ms)) (belowOf xs ms) 0 w1) := fun g c' w1 hbk hb => by
        have h1 := div_any (some ⟨g, 0, none⟩) B k ms.length c' d (limbs (val (xs.take 128))) ms w1 hkl.symm rfl (by omega) (by omega) (Rd.of_all hbk) (hy.below hb) (limbs_lim _) hM.lm
        rw [hdv.out, val_limbs] at h1
        exact h1
      have HD := Lib.hid hdl
      clear hdl hdv
      rcases hz with rfl | ⟨x, b, off, hk0, rfl, hx0, hcell⟩
      rotate_left
      have hx1 : ((x : Int) == 0) = false := by simpa using hx0
      all_goals
        go_wp2_with fail
        refine htw.out.mono ?_
        rintro e w1 ⟨g, c', rfl, hgn, hbk, hc1, hc2, hb1⟩
        try rw [hkl]
        go_wp2_with fail
        refine (HD.out g c' w1 hbk hb1).mono ?_
        rintro e w2 ⟨A2, c2, A3, c3, rfl, -, ⟨hc3, hc4⟩, -, hO, hb2⟩
        go_wp2_with fail
        go_ret2
        exact ⟨A3, c3, rfl, hc3, hc4, hO.mono hb1.size, hb1.trans (hb2.mono hb1.size)⟩
end Go.Proofs.Ytfclpieijbgodaa
