/-
  Whether a signature is right, by the document: Verify. Holds for every key, digest and signature of up to 70000 bytes.
-/
import Derived.Test.YtfclpieijbgodaaRsaG
namespace Go.Proofs.Ytfclpieijbgodaa
set_option linter.unusedVariables false
set_option linter.unusedSimpArgs false
open Go.RowKit

set_option maxRecDepth 100000 in
set_option maxHeartbeats 1600000 in
theorem refVerify_any (A B : Option Addr) (n c e m d : Nat) (ns ds sig : List Nat) (w : World) (hn : n = ns.length) (hm : m = sig.length) (hl : n ≤ 70000) (hl' : m ≤ 70000) (hx : Rd .u8 w A ns) (hy : Rd .u8 w B sig) (lx : Lim 256 ns) (ly : Lim 256 sig)
    (hd : ds.length = 32) (ld : Lim 256 ds) (he : e < 18446744073709551616) :
    Calls Try.prog 49 #[keyVal A n c e, .agg (ints .u8 ds).toArray, .slice B m d] w (RetW (verB ns e ds sig) w) := by
  subst hn
  subst hm
  obtain ⟨V, hV⟩ : ∃ V, V = verB ns e ds sig := ⟨_, rfl⟩
  rw [← hV]
  have HV := Lib.hid hV
  clear hV
  obtain ⟨w1, hw1⟩ : ∃ w1, w1 = w.alloc (.cells #[.slice A ns.length c, .int .u64 (e : Int)] 52) := ⟨_, rfl⟩
  obtain ⟨w2, hw2⟩ : ∃ w2, w2 = w1.alloc (.cells (ints .u8 ds).toArray 49) := ⟨_, rfl⟩
  have K : KeyAt w1 w.heap.size A ns.length c e := by rw [hw1]; exact key_new w A ns.length c e _
  have e1 : Below w.heap.size w w1 := by rw [hw1]; exact (Below.refl _ _).alloc (Nat.le_refl _) _
  have s1 : w1.heap.size = w.heap.size + 1 := by rw [hw1]; simp
  have D : Whl .u8 49 w2 (w.heap.size + 1) ds := by rw [hw2, ← s1]; exact whl_new0 _ _
  have e2 : Below w1.heap.size w1 w2 := by rw [hw2]; exact (Below.refl _ _).alloc (Nat.le_refl _) _
  have K := K.below e2
  have e2 := e1.trans (e2.mono e1.size)
  have hS := refSound_any A _ c e ns w2 rfl (by omega) (hx.below e2) lx he
  unfold keyVal at hS ⊢
  by_cases hso : Sounds ns e
  · rw [soundE_yes hso] at hS
    have hSo := Lib.hid hso
    clear hso
    by_cases hls : sig.length = ns.length
    · have hLs := Lib.hid hls
      have z1 : ((sig.length : Int) != (ns.length : Int)) = false := by simp [hls]
      clear hls
      go_enter Try.func49, Try.ntmps49
      have k0 := K.c0
      have k1 := K.c1
      go_wp2_with fail
      rw [← hw1, ← hw2]
      clear hw1 hw2
      refine hS.mono ?_
      rintro r w3 ⟨rfl, e3⟩
      have K := K.below e3
      have D := D.below e3
      have e3 := e2.trans (e3.mono e2.size)
      clear hS e2 k0 k1
      have k0 := K.c0
      have k1 := K.c1
      go_wp2_with fail
      have hlen : 62 ≤ ns.length ∧ ns.length ≤ 512 := by have := hSo.out.len; omega
      have HL := Lib.hid hlen
      clear hlen
      refine (refOf_any A _ c ns w3 rfl HL.out.2 (hx.below e3) lx).mono ?_
      rintro r w4 ⟨A4, c4, rfl, h4a, h4b, o4, e4⟩
      have K := K.below e4
      have D := D.below e4
      have o4 := o4.mono e3.size
      have e4 := e3.trans (e4.mono e3.size)
      clear e3 k0 k1
      go_wp2_with fail
      refine (refOf_any B _ d sig w4 rfl (by have := HL.out.2; have := hLs.out; omega) (hy.below e4) ly).mono ?_
      rintro r w5 ⟨A5, c5, rfl, h5a, h5b, o5, e5⟩
      have K := K.below e5
      have D := D.below e5
      have o4 := o4.below e5
      have o5 := o5.mono e4.size
      have e5 := e4.trans (e5.mono e4.size)
      clear e4
      have k0 := K.c0
      have k1 := K.c1
      go_wp2_with fail
      refine (refLimbs_any e w5 he).mono ?_
      rintro r w6 ⟨A6, c6, rfl, h6a, h6b, o6, e6⟩
      have K := K.below e6
      have D := D.below e6
      have o4 := o4.below e6
      have o5 := o5.below e6
      have o6 := o6.mono e5.size
      have e6 := e5.trans (e6.mono e5.size)
      clear e5 k0 k1
      have hM := mayB_out (limbs_lim _) (sounds_may lx hSo.out)
      have hSl := limbs_bytes_len (k := 128) (valB_lt ly) (by have := HL.out.2; have := hLs.out; omega)
      have hE := limbs64_len he
      have hX := refExp5_any A4 A5 A6 _ _ _ c5 c6 c4 (limbs (valB sig)) (limbs e) (limbs (valB ns)) w6 hM rfl rfl rfl (by omega) (by omega) o5.rd o6.rd o4.rd (limbs_lim _) (limbs_lim _)
      have hNb := (nbits_bytes (valB ns) ns.length).2 (valB_lt lx)
      have hB := verB_big (ns := ns) (e := e) (ds := ds) (sig := sig)
      have hG := verB_sound (ds := ds) hSo.out hLs.out
      have hxp : expMOf (limbs (valB sig)) (limbs e) (limbs (valB ns)) = if valB sig < valB ns then (limbs (valB sig ^ e % valB ns), 0) else ([], 1) := by
        unfold expMOf
        by_cases hlt : valB sig < valB ns
        · have h1 := may_in hM (x := valB sig) (by rw [val_limbs]; exact hlt)
          rw [if_pos ⟨h1, isRight_limbs (num_len he)⟩, if_pos hlt, val_limbs, val_limbs, val_limbs]
        · rw [if_neg hlt, if_neg]
          rintro ⟨h, -⟩
          unfold mayOf at h
          rw [val_limbs, val_limbs] at h
          simp [hlt] at h
      rw [hxp] at hX
      have hin : ∀ r, r < valB ns → (limbs r).length ≤ 128 := fun r hr => limbs_in hM (by rw [val_limbs]; exact hr)
      clear hxp hM
      go_wp2_with fail
      generalize valB ns = M at *
      generalize valB sig = S at *
      by_cases hlt : S < M
      · obtain ⟨r, hr⟩ : ∃ r, r = S ^ e % M := ⟨_, rfl⟩
        rw [if_pos hlt, ← hr] at hX
        have hG := hG hlt
        rw [← hr] at hG
        have HV2 := Lib.hid (HV.out.trans hG)
        have hrM : r < M := by rw [hr]; exact Nat.mod_lt _ (by omega)
        have hrb : nbits r ≤ 8 * ns.length := Nat.le_trans (nbits_mono (Nat.le_of_lt hrM)) hNb
        have hrl := hin r hrM
        clear hr hG hB hlt hin HV hNb
        refine hX.mono ?_
        rintro q w7 ⟨A7, c7, rfl, h7a, h7b, o7, e7⟩
        have D := D.below e7
        have o7 := o7.mono e6.size
        have e7 := e6.trans (e7.mono e6.size)
        clear hX e6
        go_wp2_with fail
        have hO := refOctets_any_ok A7 _ c7 (limbs r) sig.length w7 rfl (by omega) o7.rd (limbs_lim _) (isRight_limbs (by omega)) (by have := HL.out.2; have := hLs.out; omega) (by rw [val_limbs]; have := hLs.out; omega)
        rw [val_limbs] at hO
        refine hO.mono ?_
        rintro q w8 ⟨A8, c8, rfl, h8a, h8b, o8, e8⟩
        have D := D.below e8
        have o8 := o8.mono e7.size
        have e8 := e7.trans (e8.mono e7.size)
        clear hO e7
        have E := refEncode_any ds (sig.length : Int)
        have HS := Lib.hid (show 62 ≤ sig.length ∧ sig.length ≤ 512 by have := HL.out; have := hLs.out; omega)
        rw [encOf_ok HS.out.1 HS.out.2] at E
        go_wp2_with (refine wpList_load_whl rfl 49 (.tmp 4) rfl (w.heap.size + 1) rfl .u8 _ ds D _ Try.underlying49 rfl (by rw [hd]; exact size_32u8) ?_)
        refine (E w8 hd ld (by have := HS.out; omega)).mono ?_
        rintro q w9 ⟨A9, c9, rfl, h9a, h9b, o9, e9⟩
        have o8 := o8.below e9
        have o9 := o9.mono e8.size
        have e9 := e8.trans (e9.mono e8.size)
        clear e8 E
        go_wp2_with fail
        refine (refSame06_any A8 A9 _ _ c8 c9 (octs sig.length r) (encN ds sig.length) w9 rfl rfl o8.rd o9.rd (octs_lim _ _) (encN_lim _ _ ld)).mono ?_
        rintro q w10 ⟨rfl, rfl⟩
        go_wp2_with fail
        go_ret
        exact ⟨ret_bool (by rw [HV2.out, hLs.out]), e9⟩
      · rw [if_neg hlt] at hX
        have HV2 := Lib.hid (HV.out.trans (hB hlt))
        clear hG hB hlt hin HV hNb
        refine hX.mono ?_
        rintro q w7 ⟨A7, c7, rfl, h7a, h7b, o7, e7⟩
        have e7 := e6.trans (e7.mono e6.size)
        clear hX e6
        go_wp2_with fail
        go_ret
        exact ⟨ret_bool HV2.out.symm, e7⟩
    · have HV2 := Lib.hid (HV.out.trans (verB_len hls))
      have z1 : ((sig.length : Int) != (ns.length : Int)) = true := by simp; omega
      clear hls HV
      go_enter Try.func49, Try.ntmps49
      have k0 := K.c0
      have k1 := K.c1
      go_wp2_with fail
      rw [← hw1, ← hw2]
      clear hw1 hw2
      refine hS.mono ?_
      rintro r w3 ⟨rfl, e3⟩
      have K := K.below e3
      have e3 := e2.trans (e3.mono e2.size)
      clear hS e2 k0 k1
      have k0 := K.c0
      have k1 := K.c1
      go_wp2_with fail
      go_ret
      exact ⟨ret_bool HV2.out.symm, e3⟩
  · rw [soundE_no hso] at hS
    have HV2 := Lib.hid (HV.out.trans (verB_unsound hso))
    clear hso HV
    go_enter Try.func49, Try.ntmps49
    have k0 := K.c0
    have k1 := K.c1
    go_wp2_with fail
    rw [← hw1, ← hw2]
    clear hw1 hw2
    refine hS.mono ?_
    rintro r w3 ⟨rfl, e3⟩
    have e3 := e2.trans (e3.mono e2.size)
    clear hS e2 k0 k1
    go_wp2_with fail
    go_ret
    exact ⟨ret_bool HV2.out.symm, e3⟩
end Go.Proofs.Ytfclpieijbgodaa
