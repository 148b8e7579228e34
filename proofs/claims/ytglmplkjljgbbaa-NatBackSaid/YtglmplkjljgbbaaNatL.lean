/-
  The walk of the statement NatBack: what bytes tell is told by bytes again, and a number by its bytes.
-/
import Derived.Test.YtglmplkjljgbbaaNatK
namespace Go.Proofs.Ytglmplkjljgbbaa
set_option linter.unusedVariables false
set_option linter.unusedSimpArgs false
open Go.RowKit

theorem yes_mono {w w1 w' : World} {e : Ending} (hb : Below w.heap.size w w1) (h : Yes w1 e w') : Yes w e w' := ⟨h.1, hb.trans (h.2.mono hb.size)⟩

theorem brief_lt (xs : List Nat) (most : Nat) (lx : Lim 4294967296 xs) : briefOf xs most < 4294967296 ^ most := by
  have h := val_lt (lx.take most)
  have h2 : (4294967296 : Nat) ^ (xs.take most).length ≤ 4294967296 ^ most := Nat.pow_le_pow_right (by omega) (by rw [List.length_take]; omega)
  exact Nat.lt_of_lt_of_le h h2

theorem limbs_bytes_len {v n k : Nat} (h : v < 256 ^ n) (hn : n ≤ 4 * k) : (limbs v).length ≤ k := by
  refine limbs_length_le ?_
  rw [pow_limb_256]
  exact Nat.lt_of_lt_of_le h (Nat.pow_le_pow_right (by omega) hn)
theorem limbs_bits {v k : Nat} (h : v < 4294967296 ^ k) : nbits v ≤ 32 * k := by
  rw [nbits_le_iff, ← pow_limb]
  exact h

set_option maxHeartbeats 3200000 in
theorem natBack_any (A B : Option Addr) (n m c d : Nat) (bs xs : List Nat) (more : Nat) (w : World) (hn : n = bs.length) (hm : m = xs.length) (hnl : n ≤ 9223372036854775807) (hmd : m ≤ d) (hml : m ≤ 9223372036854775807)
    (hx : Rd .u8 w A bs) (hy : Rd .u32 w B xs) (lb : Lim 256 bs) (lx : Lim 4294967296 xs) (hmore : more < 256) :
    Calls Try.prog 4 #[.slice A n c, .slice B m d, .int .u8 (more : Int)] w (Yes w) := by
  subst hn
  subst hm
  by_cases hbig : 512 < bs.length
  · go_enter Try.func4, Try.ntmps4
    go_wp2_with fail
    refine (works_any _).mono ?_
    rintro e w1 ⟨rfl, hb⟩
    go_wp2_with fail
    go_ret
    exact ⟨rfl, hb⟩
  · obtain ⟨far, hfar, hfl⟩ : ∃ far : Nat, (more : Int) % 100 = (far : Int) ∧ far ≤ 99 := ⟨more % 100, by omega, by omega⟩
    obtain ⟨C, hC⟩ : ∃ C, C = List.replicate far 0 ++ bs := ⟨_, rfl⟩
    have hv1 := valB_lt lb
    have hv2 : (limbs (valB bs)).length ≤ 128 := limbs_bytes_len hv1 (by omega)
    have hr1 := Lib.hid (isRight_limbs (n := valB bs) (by omega))
    have hnb := Lib.hid (show nbits (val (limbs (valB bs))) ≤ 8 * (bs.length + far) by
      rw [val_limbs, nbits_bytes]
      exact Nat.lt_of_lt_of_le hv1 (Nat.pow_le_pow_right (by omega) (by omega)))
    have hoct := Lib.hid (show octs (bs.length + far) (val (limbs (valB bs))) = C by rw [val_limbs, octs_valB lb, hC])
    have hCl := Lib.hid (show C.length = bs.length + far by rw [hC]; simp; omega)
    have HC := Lib.hid hC
    obtain ⟨v, hv⟩ : ∃ v, v = briefOf xs 128 := ⟨_, rfl⟩
    have hv3 : v < 4294967296 ^ 128 := by rw [hv]; exact brief_lt xs 128 lx
    have hv4 : (limbs v).length ≤ 128 := limbs_length_le hv3
    have hr2 := Lib.hid (isRight_limbs (n := v) (by omega))
    have hB := Lib.hid (show bitsOf (limbs v) = (nbits v : Int) by rw [bitsOf_right hr2.out, val_limbs])
    have hv5 : nbits v ≤ 32 * 128 := limbs_bits hv3
    have hvb := Lib.hid (show limbs (valB (octs ((nbits v + 7) / 8) v)) = limbs v by
      rw [valB_octs, Nat.mod_eq_of_lt]
      rw [← nbits_bytes]
      omega)
    have HV := Lib.hid hv
    have HV3 := Lib.hid hv3
    clear hC hv hv1 hv3
    go_enter Try.func4, Try.ntmps4
    go_wp2_with (at_builtin; refine wpList_append_lit _ rfl (.tmp 25) (.tmp 26) _ rfl w 5 .u8 1 Try.underlying23 info_u8 _ _ rfl (World.ownsRow_made w #[] 0 (Nat.le_refl _) (Nat.zero_le _) rfl) A bs.length c bs rfl rfl (hx.alloc _) ((Below.refl _ _).alloc (Nat.le_refl _) _) (by omega) (by decide) ?_; intro g c1 w1 hg hbk hc1 hc2 hb1)
    refine (of_any (some ⟨g, 0, none⟩) bs.length c1 bs _ rfl (by omega) (Rd.of_all hbk) lb).mono ?_
    rintro e w2 ⟨A2, c2, rfl, hc3, hc4, ho2, hb2⟩
    have hbel2 := hb1.trans (hb2.mono hb1.size)
    go_wp2_with fail
    have hct : (((bs.length : Nat) : Int) + (far : Int)) = ((bs.length + far : Nat) : Int) := by omega
    rw [hct]
    have h3 := octets_any_ok A2 _ c2 (limbs (valB bs)) (bs.length + far) w2 rfl (by omega) ho2.rd (limbs_lim _) hr1.out (by omega) hnb.out
    rw [hoct.out] at h3
    refine h3.mono ?_
    rintro e w3 ⟨A3, c3, rfl, hc5, hc6, ho3, hb3⟩
    have hbel3 := hbel2.trans (hb3.mono hbel2.size)
    rw [hCl.out]
    clear h3 hct
    have hne : (((bs.length + far : Nat) : Int) != (bs.length : Int) + (far : Int)) = false := by simp
    have hne2 : (((bs.length + far : Nat) : Int) != ((bs.length + far : Nat) : Int)) = false := by simp
    have hxr := hx.below hbel3
    have hcr := ho3.rd
    have hyr := hy.below hbel3
    go_wp2_with fail
    go_loop [12] (fun t => ∃ i : Nat, t = .int .i64 i ∧ i ≤ bs.length + far) (fun t => bs.length + far - (intOf t).toNat)
    case atStart => exact ⟨0, rfl, Nat.zero_le _⟩
    case round =>
      obtain ⟨i, rfl, hi⟩ := hrel
      by_cases hlt : i < bs.length + far
      · obtain ⟨z, hz⟩ := get_of_lt (xs := C) (i := i) (by rw [hCl.out]; exact hlt)
        obtain ⟨b3, o3, rfl, _, hc3'⟩ := hcr.pos hz
        have hcz := hc3' i z hz
        by_cases hif : i < far
        · have hz0 : z = 0 := by
            rw [HC.out, List.getElem?_append_left (by simpa using hif), List.getElem?_replicate, if_pos hif] at hz
            injection hz with hz
            exact hz.symm
          subst hz0
          have hcz0 : w3.cell? ⟨b3, o3 + i, none⟩ = some (.int .u8 0) := hcz
          clear hz hc3' hcz
          go_wp2_with fail
          go_round
          case rel => exact ⟨i + 1, by go_num, by omega⟩
          case measure => simp [intOf] <;> omega
        · have hyz : bs[i - far]? = some z := by
            rw [HC.out, List.getElem?_append_right (by simp; omega), List.length_replicate] at hz
            exact hz
          obtain ⟨b4, o4, rfl, _, hc4'⟩ := hxr.pos hyz
          have hcy := hc4' _ z hyz
          have hif2 : far ≤ i := by omega
          have hnz : ((z : Int) != (z : Int)) = false := by simp
          clear hz hc3' hyz hc4' hif
          go_wp2_with fail
          go_round
          case rel => exact ⟨i + 1, by go_num, by omega⟩
          case measure => simp [intOf] <;> omega
      · go_wp2_with fail
        have h5 := brief_any B xs.length d xs 128 w3 rfl hmd hml (by omega) hyr lx
        rw [← HV.out] at h5
        refine h5.mono ?_
        rintro e w4 ⟨A5, c5, rfl, hc7, hc8, ho5, hb5⟩
        have hbel4 := hbel3.trans (hb5.mono hbel3.size)
        go_wp2_with fail
        refine (bits_any A5 _ c5 (limbs v) w4 rfl (by omega) ho5.rd (limbs_lim v)).mono ?_
        rintro e w5 ⟨rfl, rfl⟩
        rw [hB.out]
        go_wp2_with fail
        have hq1 : (((nbits v : Nat) : Int) + 7) / 8 = (((nbits v + 7) / 8 : Nat) : Int) := by omega
        rw [hq1]
        clear hq1
        have h6 := octets_any_ok A5 _ c5 (limbs v) ((nbits v + 7) / 8) w4 rfl (by omega) ho5.rd (limbs_lim v) hr2.out (by omega) (by rw [val_limbs]; omega)
        rw [val_limbs] at h6
        refine h6.mono ?_
        rintro e w5 ⟨A6, c6, rfl, hc9, hc10, ho6, hb6⟩
        have hbel5 := hbel4.trans (hb6.mono hbel4.size)
        clear h6
        go_wp2_with fail
        have h7 := of_any A6 _ c6 (octs ((nbits v + 7) / 8) v) w5 rfl (by rw [octs_length]; omega) ho6.rd (octs_lim _ _)
        rw [hvb.out] at h7
        refine h7.mono ?_
        rintro e w6 ⟨A7, c7, rfl, hc11, hc12, ho7, hb7⟩
        have hbel6 := hbel5.trans (hb7.mono hbel5.size)
        have hor5 := (ho5.rd.below hb6).below hb7
        clear h7
        go_wp2_with fail
        refine (same_any A7 A5 _ _ c7 c5 (limbs v) (limbs v) w6 rfl rfl (by omega) (by omega) ho7.rd hor5).mono ?_
        rintro e w7 ⟨rfl, q, rfl⟩
        have hor6 := hor5.drewN q
        have hbel7 : Below w.heap.size w (w6.drewN q) := below_drewN hbel6 q
        by_cases hb0 : 0 < nbits v
        · have hm8 : (((nbits v : Nat) : Int) % 8 == 1) = true ∨ (((nbits v : Nat) : Int) % 8 == 1) = false := by
            cases (((nbits v : Nat) : Int) % 8 == 1) <;> simp
          rcases hm8 with hm8 | hm8
          all_goals
            go_wp2_with fail
            have hq2 : (((nbits v : Nat) : Int) - 1) / 8 = (((nbits v - 1) / 8 : Nat) : Int) := by omega
            rw [hq2]
            clear hq2
            refine (octets_any_big A5 _ c5 (limbs v) ((nbits v - 1) / 8) _ rfl (by omega) hor6 (limbs_lim v) hr2.out (by omega) (by rw [val_limbs]; omega) (by rw [val_limbs]; omega)).mono ?_
            rintro e w8 ⟨A8, c8, rfl, _, _, ho8, hb8⟩
            have hbel8 := hbel7.trans (hb8.mono hbel7.size)
            go_wp2_with fail
            refine (works_any _).mono ?_
            rintro e w9 ⟨rfl, hb9⟩
            go_wp2_with fail
            go_ret
            exact ⟨rfl, hbel8.trans (hb9.mono hbel8.size)⟩
        · have hb00 : nbits v ≤ 0 := by omega
          go_wp2_with fail
          refine (works_any _).mono ?_
          rintro e w9 ⟨rfl, hb9⟩
          go_wp2_with fail
          go_ret
          exact ⟨rfl, hbel7.trans (hb9.mono hbel7.size)⟩
end Go.Proofs.Ytglmplkjljgbbaa
