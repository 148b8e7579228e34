/-
  The walk of the statement NatBytes: which lists are numbers, what bytes tell, and what bytes tell a number, is told as the document says.
-/
import Derived.Test.YtglmplkjljgbbaaNatK
namespace Go.Proofs.Ytglmplkjljgbbaa
set_option linter.unusedVariables false
set_option linter.unusedSimpArgs false
open Go.RowKit

theorem yes_of {w w1 : World} {e : Ending} {w' : World} (hb : Below w.heap.size w w1) (h : Yes w1 e w') : Yes w e w' := ⟨h.1, hb.trans (h.2.mono hb.size)⟩

/-- What Of answers. -/
def ofOf (bs : List Nat) : List Nat × Int := if bs.length ≤ 512 then (limbs (valB bs), 0) else ([], 10)
theorem ofOf_ok {bs : List Nat} (h : bs.length ≤ 512) : ofOf bs = (limbs (valB bs), 0) := by simp [ofOf, h]
theorem ofOf_big {bs : List Nat} (h : 512 < bs.length) : ofOf bs = ([], 10) := by simp [ofOf, show ¬ bs.length ≤ 512 by omega]
theorem ofOf_len (bs : List Nat) (lb : Lim 256 bs) : (ofOf bs).1.length ≤ 128 := by
  by_cases h : bs.length ≤ 512
  · rw [ofOf_ok h]
    refine limbs_length_le ?_
    have h1 := valB_lt lb
    have h2 : ∀ k, bs.length ≤ 4 * k → valB bs < 4294967296 ^ k := fun k hk => by
      rw [pow_limb_256]
      exact Nat.lt_of_lt_of_le h1 (Nat.pow_le_pow_right (by omega) hk)
    exact h2 128 (by omega)
  · rw [ofOf_big (by omega)]
    simp
theorem ofAll_any (A : Option Addr) (n c : Nat) (bs : List Nat) (w : World) (hn : n = bs.length) (hl : n ≤ 70000) (hx : Rd .u8 w A bs) (lb : Lim 256 bs) :
    Calls Try.prog 13 #[.slice A n c] w (Gives2 .u32 (ofOf bs).1 (ofOf bs).2 w) := by
  by_cases h : bs.length ≤ 512
  · rw [ofOf_ok h]
    exact of_any A n c bs w hn (by omega) hx lb
  · rw [ofOf_big (by omega)]
    exact of_big A n c w (by omega) hl
theorem refOfAll_any (A : Option Addr) (n c : Nat) (bs : List Nat) (w : World) (hn : n = bs.length) (hl : n ≤ 70000) (hx : Rd .u8 w A bs) (lb : Lim 256 bs) :
    Calls Try.prog 14 #[.slice A n c] w (Gives2 .u32 (ofOf bs).1 (ofOf bs).2 w) := by
  by_cases h : bs.length ≤ 512
  · rw [ofOf_ok h]
    exact refOf_any A n c bs w hn (by omega) hx lb
  · rw [ofOf_big (by omega)]
    exact refOf_big A n c w (by omega) hl

/-- What Octets answers. -/
theorem octsOf_ok {xs : List Nat} {n : Nat} (h1 : isRight xs = true) (h2 : n ≤ 1024) (h3 : nbits (val xs) ≤ 8 * n) : octsOf xs (n : Int) = (octs n (val xs), 0) := by
  unfold octsOf
  rw [if_pos ⟨h1, by omega, by omega⟩, if_pos (by omega), Int.toNat_natCast]
theorem octsOf_big {xs : List Nat} {n : Nat} (h1 : isRight xs = true) (h2 : n ≤ 1024) (h3 : 8 * n < nbits (val xs)) : octsOf xs (n : Int) = ([], 10) := by
  unfold octsOf
  rw [if_pos ⟨h1, by omega, by omega⟩, if_neg (by omega)]
theorem octsOf_arg {xs : List Nat} {n : Int} (h : isRight xs = false ∨ n < 0 ∨ 1024 < n) : octsOf xs n = ([], 1) := by
  unfold octsOf
  rw [if_neg]
  rintro ⟨h1, h2, h3⟩
  rcases h with h | h | h
  · rw [h1] at h; cases h
  · omega
  · omega
theorem octsOf_len (xs : List Nat) (n : Int) : (octsOf xs n).1.length ≤ 1024 := by
  unfold octsOf
  split
  · split
    · rw [octs_length]; omega
    · simp
  · simp
theorem nbits_right {xs : List Nat} (lx : Lim 4294967296 xs) (h : isRight xs = true) : nbits (val xs) ≤ 8192 := by
  have h1 := val_lt lx
  have h2 := isRight_len h
  have h3 : ∀ k, xs.length ≤ k → nbits (val xs) ≤ 32 * k := fun k hk => by
    rw [nbits_le_iff, ← pow_limb]
    exact Nat.lt_of_lt_of_le h1 (Nat.pow_le_pow_right (by omega) hk)
  exact h3 256 h2
theorem octsAll_any (A : Option Addr) (m c : Nat) (xs : List Nat) (n : Int) (w : World) (hm : m = xs.length) (hl : m ≤ 70000) (hx : Rd .u32 w A xs) (lx : Lim 4294967296 xs) :
    Calls Try.prog 20 #[.slice A m c, .int .i64 n] w (Gives2 .u8 (octsOf xs n).1 (octsOf xs n).2 w) := by
  cases h1 : isRight xs with
  | false =>
    rw [octsOf_arg (.inl h1)]
    exact octets_any_arg A m c xs n w hm hl hx (.inl h1)
  | true =>
    by_cases h2 : 0 ≤ n ∧ n ≤ 1024
    · obtain ⟨k, rfl⟩ := Int.eq_ofNat_of_zero_le h2.1
      by_cases h3 : nbits (val xs) ≤ 8 * k
      · rw [octsOf_ok h1 (by omega) h3]
        exact octets_any_ok A m c xs k w hm hl hx lx h1 (by omega) h3
      · rw [octsOf_big h1 (by omega) (by omega)]
        have := nbits_right lx h1
        exact octets_any_big A m c xs k w hm hl hx lx h1 (by omega) (by omega) (by omega)
    · rw [octsOf_arg (by omega)]
      exact octets_any_arg A m c xs n w hm hl hx (by omega)
theorem refOctsAll_any (A : Option Addr) (m c : Nat) (xs : List Nat) (n : Int) (w : World) (hm : m = xs.length) (hl : m ≤ 70000) (hx : Rd .u32 w A xs) (lx : Lim 4294967296 xs) :
    Calls Try.prog 21 #[.slice A m c, .int .i64 n] w (Gives2 .u8 (octsOf xs n).1 (octsOf xs n).2 w) := by
  cases h1 : isRight xs with
  | false =>
    rw [octsOf_arg (.inl h1)]
    exact refOctets_any_arg A m c xs n w hm hl hx (.inl h1)
  | true =>
    by_cases h2 : 0 ≤ n ∧ n ≤ 1024
    · obtain ⟨k, rfl⟩ := Int.eq_ofNat_of_zero_le h2.1
      by_cases h3 : nbits (val xs) ≤ 8 * k
      · rw [octsOf_ok h1 (by omega) h3]
        exact refOctets_any_ok A m c xs k w hm hl hx lx h1 (by omega) h3
      · rw [octsOf_big h1 (by omega) (by omega)]
        have := nbits_right lx h1
        exact refOctets_any_big A m c xs k w hm hl hx lx h1 (by omega) (by omega) (by omega)
    · rw [octsOf_arg (by omega)]
      exact refOctets_any_arg A m c xs n w hm hl hx (by omega)

set_option maxHeartbeats 3200000 in
theorem natBytes_any (A B : Option Addr) (n m c d : Nat) (xs bs : List Nat) (k : Int) (w : World) (hn : n = xs.length) (hm : m = bs.length) (hnl : n ≤ 9223372036854775807) (hml : m ≤ 9223372036854775807)
    (hx : Rd .u32 w A xs) (hy : Rd .u8 w B bs) (lx : Lim 4294967296 xs) (lb : Lim 256 bs) :
    Calls Try.prog 3 #[.slice A n c, .slice B m d, .int .i64 k] w (Yes w) := by
  subst hn
  subst hm
  by_cases hbig : 300 < xs.length ∨ 2048 < bs.length
  · rcases (show 300 < xs.length ∨ (xs.length ≤ 300 ∧ 2048 < bs.length) by omega) with h1 | ⟨h1, h2⟩
    · have hv : (decide (300 < xs.length) || decide (300 < 0)) = true := by simp [h1]
      clear hbig
      go_enter Try.func3, Try.ntmps3
      go_wp2_with fail
      refine (vast_any A none xs.length 0 c 0 _ (by omega) (by omega)).mono ?_
      rintro e w' ⟨rfl, rfl⟩
      rw [hv]
      go_wp2_with fail
      refine (works_any _).mono ?_
      rintro e w1 ⟨rfl, hb⟩
      go_wp2_with fail
      go_ret
      exact ⟨rfl, hb⟩
    · have hv : (decide (300 < xs.length) || decide (300 < 0)) = false := by simp; omega
      clear hbig
      go_enter Try.func3, Try.ntmps3
      go_wp2_with fail
      refine (vast_any A none xs.length 0 c 0 _ (by omega) (by omega)).mono ?_
      rintro e w' ⟨rfl, rfl⟩
      rw [hv]
      go_wp2_with fail
      refine (works_any _).mono ?_
      rintro e w1 ⟨rfl, hb⟩
      go_wp2_with fail
      go_ret
      exact ⟨rfl, hb⟩
  · have hx3 : xs.length ≤ 300 := by omega
    have hb2 : bs.length ≤ 2048 := by omega
    clear hbig
    have hv : (decide (300 < xs.length) || decide (300 < 0)) = false := by simp; omega
    have hO := ofOf_len bs lb
    have hQ := octsOf_len xs k
    obtain ⟨P, hP⟩ : ∃ P, P = (ofOf bs).1 := ⟨_, rfl⟩
    obtain ⟨pe, hpe⟩ : ∃ pe, pe = (ofOf bs).2 := ⟨_, rfl⟩
    obtain ⟨Q, hQe⟩ : ∃ Q, Q = (octsOf xs k).1 := ⟨_, rfl⟩
    obtain ⟨qe, hqe⟩ : ∃ qe, qe = (octsOf xs k).2 := ⟨_, rfl⟩
    rw [← hP] at hO
    rw [← hQe] at hQ
    have HP := Lib.hid hP
    have HPE := Lib.hid hpe
    have HQ := Lib.hid hQe
    have HQE := Lib.hid hqe
    have hpp : (pe != pe) = false := by simp
    have hqq : (qe != qe) = false := by simp
    clear hP hpe hQe hqe
    go_enter Try.func3, Try.ntmps3
    go_wp2_with fail
    refine (vast_any A none xs.length 0 c 0 _ (by omega) (by omega)).mono ?_
    rintro e w' ⟨rfl, rfl⟩
    rw [hv]
    go_wp2_with fail
    refine (twin_any A _ c xs _ rfl (by omega) hx).mono ?_
    rintro e w1 ⟨g, rfl, hg, hbk, hb1⟩
    have hy1 := hy.below hb1
    go_wp2_with (at_builtin; refine wpList_append_lit _ rfl (.tmp 27) (.tmp 28) _ rfl w1 5 .u8 1 Try.underlying23 info_u8 _ _ rfl (World.ownsRow_made w1 #[] 0 (Nat.le_refl _) (Nat.zero_le _) rfl) B bs.length d bs rfl rfl (hy1.alloc _) ((Below.refl _ _).alloc (Nat.le_refl _) _) (by omega) (by decide) ?_; intro g2 c2 w2 hg2 hbk2 hc2 hm2 hbc)
    have hb2' : Below w.heap.size w w2 := hb1.trans (hbc.mono hb1.size)
    have h3 := ofAll_any (some ⟨g2, 0, none⟩) bs.length c2 bs w2 rfl (by omega) (Rd.of_all hbk2) lb
    rw [← HP.out, ← HPE.out] at h3
    refine h3.mono ?_
    rintro e w3 ⟨A3, c3, rfl, _, _, ho3, hb3⟩
    have hbel3 := hb2'.trans (hb3.mono hb2'.size)
    clear h3
    go_wp2_with fail
    have h4 := refOfAll_any B bs.length d bs w3 rfl (by omega) (hy.below hbel3) lb
    rw [← HP.out, ← HPE.out] at h4
    refine h4.mono ?_
    rintro e w4 ⟨A4, c4, rfl, _, _, ho4, hb4⟩
    have hbel4 := hbel3.trans (hb4.mono hbel3.size)
    have hr3 := ho3.rd.below hb4
    clear h4
    go_wp2_with fail
    refine (same_any A3 A4 _ _ c3 c4 P P w4 rfl rfl (by omega) (by omega) hr3 ho4.rd).mono ?_
    rintro e w5 ⟨rfl, q, rfl⟩
    have hbel5 : Below w.heap.size w (w4.drewN q) := below_drewN hbel4 q
    have hbk1 : Blk .u32 (w4.drewN q) g (xs ++ [7, 9]) := ((((hbk.below hbc).below hb3).below hb4).drewN q)
    have hrt : Rd .u32 (w4.drewN q) (some ⟨g, 0, none⟩) xs := by
      have := Rd.of_blk hbk1 0 xs.length
      simpa using this
    have hxr := hx.below hbel5
    have hyr := hy.below hbel5
    have hnr : (isRight xs != isRight xs) = false := by simp
    have hnb : (bitsOf xs != bitsOf xs) = false := by simp
    go_wp2_with fail
    refine (right_any _ _ _ xs _ rfl (by omega) hrt).mono ?_
    rintro e w6 ⟨rfl, rfl⟩
    go_wp2_with fail
    refine (refRight_any A _ c xs _ rfl (by omega) hxr).mono ?_
    rintro e w6 ⟨rfl, rfl⟩
    go_wp2_with fail
    refine (bits_any _ _ _ xs _ rfl (by omega) hrt lx).mono ?_
    rintro e w6 ⟨rfl, rfl⟩
    go_wp2_with fail
    refine (refBits_any A _ c xs _ rfl (by omega) hxr lx).mono ?_
    rintro e w6 ⟨rfl, rfl⟩
    have hri : Rd .u8 w4 (some ⟨g2, 0, none⟩) bs := ((Rd.of_all hbk2).below hb3).below hb4
    have hy4 := hy.below hbel4
    go_wp2_with fail
    go_loopw [13] (fun t wr => ∃ i q2 : Nat, t = .int .i64 i ∧ i ≤ bs.length ∧ wr = (w4.drewN q).drewN q2) (fun t _ => bs.length - (intOf t).toNat)
    case atStart => exact ⟨0, 0, rfl, Nat.zero_le _, rfl⟩
    case round =>
      obtain ⟨i, q2, rfl, hi, rfl⟩ := hrel
      by_cases hlt : i < bs.length
      · obtain ⟨y, hgy⟩ := get_of_lt hlt
        obtain ⟨b1, o1, hB1, _, hcb1⟩ := hy4.pos hgy
        have hca1 : w4.cell? ⟨g2, 0 + i, none⟩ = some (.int .u8 (y : Int)) := by
          rcases hri with h | ⟨b', o', he, _, hc'⟩
          · rw [h] at hlt; simp at hlt
          · injection he with he
            injection he with e1 e2
            subst e1
            subst e2
            exact hc' i y hgy
        rw [Nat.zero_add] at hca1
        subst hB1
        have hcy := hcb1 i y hgy
        clear hcb1 hgy
        go_wp2_with fail
        go_quiet (fail)
        go_wp2_with fail
        go_roundw
        case rel => exact ⟨i + 1, q2 + nq, by go_num, by omega, by simp [Nat.add_assoc]⟩
        case measure => simp [intOf] <;> omega
      · go_wp2_with fail
        have hbel6 : Below w.heap.size w (w4.drewN (q + q2)) := below_drewN hbel4 _
        have hbk6 : Blk .u32 (w4.drewN (q + q2)) g (xs ++ [7, 9]) := (((hbk.below hbc).below hb3).below hb4).drewN _
        have hrt6 : Rd .u32 (w4.drewN (q + q2)) (some ⟨g, 0, none⟩) xs := by
          have := Rd.of_blk hbk6 0 xs.length
          simpa using this
        have h6 := octsAll_any (some ⟨g, 0, none⟩) xs.length (xs.length + 2) xs k _ rfl (by omega) hrt6 lx
        rw [← HQ.out, ← HQE.out] at h6
        refine h6.mono ?_
        rintro e w7 ⟨A7, c7, rfl, _, _, ho7, hb7⟩
        have hbel7 := hbel6.trans (hb7.mono hbel6.size)
        clear h6
        go_wp2_with fail
        have h7 := refOctsAll_any A xs.length c xs k w7 rfl (by omega) (hx.below hbel7) lx
        rw [← HQ.out, ← HQE.out] at h7
        refine h7.mono ?_
        rintro e w8 ⟨A8, c8, rfl, _, _, ho8, hb8⟩
        have hbel8 := hbel7.trans (hb8.mono hbel7.size)
        have hr7 := ho7.rd.below hb8
        have hr8 := ho8.rd
        have hbk8 := (hbk6.below hb7).below hb8
        have hx8 := hx.below hbel8
        have hll : ((Q.length : Int) != (Q.length : Int)) = false := by simp
        clear h7
        go_wp2_with fail
        go_loopw [16] (fun t wr => ∃ i q3 : Nat, t = .int .i64 i ∧ i ≤ Q.length ∧ wr = w8.drewN q3) (fun t _ => Q.length - (intOf t).toNat)
        case atStart => exact ⟨0, 0, rfl, Nat.zero_le _, rfl⟩
        case round =>
          obtain ⟨i, q3, rfl, hi, rfl⟩ := hrel
          by_cases hlt : i < Q.length
          · obtain ⟨y, hgy⟩ := get_of_lt hlt
            obtain ⟨b1, o1, hB1, _, hcb1⟩ := hr7.pos hgy
            obtain ⟨b2, o2, hB2, _, hcb2⟩ := hr8.pos hgy
            subst hB1
            subst hB2
            have hcy := hcb1 i y hgy
            have hcz := hcb2 i y hgy
            clear hcb1 hcb2 hgy
            go_wp2_with fail
            go_quiet (fail)
            go_wp2_with fail
            go_roundw
            case rel => exact ⟨i + 1, _, by go_num, by omega, rfl⟩
            case measure => simp [intOf] <;> omega
          · go_wp2_with fail
            refine (kept_any g A xs.length c xs _ rfl (by omega) (hbk8.drewN q3) (hx8.drewN q3)).mono ?_
            rintro e w9 ⟨rfl, q4, rfl⟩
            go_wp2_with fail
            refine (works_any _).mono ?_
            rintro e w9 ⟨rfl, hb9⟩
            go_wp2_with fail
            go_ret
            first
              | exact ⟨rfl, hbel8.trans ((below_drewN (Below.refl _ _) _).trans (hb9.mono (Nat.le_refl _)))⟩
              | exact ⟨rfl, (below_drewN (below_drewN hbel8 q3) q4).trans (hb9.mono (below_drewN (below_drewN hbel8 q3) q4).size)⟩
              | exact ⟨rfl, (below_drewN hbel8 (q3 + q4)).trans (hb9.mono (below_drewN hbel8 (q3 + q4)).size)⟩
end Go.Proofs.Ytglmplkjljgbbaa
