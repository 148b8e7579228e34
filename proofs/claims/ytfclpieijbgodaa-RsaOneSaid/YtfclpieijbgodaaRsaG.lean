/-
  Whether a signature is right, by the program: Verify. Holds for every key, digest and signature of up to 70000 bytes.
-/
import Derived.Test.YtfclpieijbgodaaRsaF
namespace Go.Proofs.Ytfclpieijbgodaa
set_option linter.unusedVariables false
set_option linter.unusedSimpArgs false
open Go.RowKit

set_option maxRecDepth 100000 in
set_option maxHeartbeats 1600000 in
theorem verify_any (A B : Option Addr) (n c e m d : Nat) (ns ds sig : List Nat) (w : World) (hn : n = ns.length) (hm : m = sig.length) (hl : n ≤ 70000) (hl' : m ≤ 70000) (hx : Rd .u8 w A ns) (hy : Rd .u8 w B sig) (lx : Lim 256 ns) (ly : Lim 256 sig)
    (hd : ds.length = 32) (ld : Lim 256 ds) (he : e < 18446744073709551616) :
    Calls Try.prog 48 #[keyVal A n c e, .agg (ints .u8 ds).toArray, .slice B m d] w (RetW (verB ns e ds sig) w) := by
  subst hn
  subst hm
  obtain ⟨V, hV⟩ : ∃ V, V = verB ns e ds sig := ⟨_, rfl⟩
  rw [← hV]
  have HV := Lib.hid hV
  clear hV
  obtain ⟨w1, hw1⟩ : ∃ w1, w1 = w.alloc (.cells #[.slice A ns.length c, .int .u64 (e : Int)] 52) := ⟨_, rfl⟩
  obtain ⟨w2, hw2⟩ : ∃ w2, w2 = w1.alloc (.cells (ints .u8 ds).toArray 49) := ⟨_, rfl⟩
  have K : KeyAt w1 w.heap.size A ns.length c e := by rw [hw1]; exact key_new w A ns.length c e _
  have e1 : Below w.heap.size w w1 := by rw [hw1]; exact (Below.refl _ _).alloc (Nat.le_refl _) _
  have s1 : w1.heap.size = w.heap.size + 1 := by rw [hw1]; simp
  have D : Whl .u8 49 w2 (w.heap.size + 1) ds := by rw [hw2, ← s1]; exact whl_new0 _ _
  have e2 : Below w1.heap.size w1 w2 := by rw [hw2]; exact (Below.refl _ _).alloc (Nat.le_refl _) _
  have K := K.below e2
  have e2 := e1.trans (e2.mono e1.size)
  have hS := sound_any A _ c e ns w2 rfl (by omega) (hx.below e2) lx he
  unfold keyVal at hS ⊢
  by_cases hso : Sounds ns e
  · rw [soundE_yes hso] at hS
    have hSo := Lib.hid hso
    clear hso
    by_cases hls : sig.length = ns.length
    · have hLs := Lib.hid hls
      have z1 : ((sig.length : Int) != (ns.length : Int)) = false := by simp [hls]
      clear hls
      go_enter Try.func48, Try.ntmps48
      have k0 := K.c0
      have k1 := K.c1
      go_wp2_with fail
      rw [← hw1, ← hw2]
      clear hw1 hw2
      refine hS.mono ?_
      rintro r w3 ⟨rfl, e3⟩
      have K := K.below e3
      have D := D.below e3
      have e3 := e2.trans (e3.mono e2.size)
      clear hS e2 k0 k1
      have k0 := K.c0
      have k1 := K.c1
      go_wp2_with fail
      have hO := open_any A B _ c e _ d ns sig w3 rfl rfl (hx.below e3) (hy.below e3) lx ly he hSo.out hLs.out
      unfold keyVal at hO
      refine hO.mono ?_
      rintro r w4 ⟨A4, c4, rfl, h4a, h4b, o4, e4⟩
      have K := K.below e4
      have D := D.below e4
      have o4 := o4.mono e3.size
      have e4 := e3.trans (e4.mono e3.size)
      clear hO e3 k0 k1
      have k0 := K.c0
      have k1 := K.c1
      have hlen : 62 ≤ ns.length ∧ ns.length ≤ 512 := by have := hSo.out.len; omega
      have HL := Lib.hid hlen
      by_cases hlt : valB sig < valB ns
      · have hQ : openOf ns sig e = (octs ns.length (valB sig ^ e % valB ns), 0) := by unfold openOf; rw [if_pos hlt]
        have hV := verB_sound (ds := ds) hSo.out hLs.out hlt
        obtain ⟨r, hr⟩ : ∃ r, r = valB sig ^ e % valB ns := ⟨_, rfl⟩
        rw [← hr] at hQ hV
        rw [hQ] at o4 h4a ⊢
        have HV2 := Lib.hid (HV.out.trans hV)
        clear hV hQ hr HV hlt hlen
        have E := encode_any ds (ns.length : Int)
        rw [encOf_ok HL.out.1 HL.out.2] at E
        go_wp2_with (refine wpList_load_whl rfl 49 (.tmp 4) rfl (w.heap.size + 1) rfl .u8 _ ds D _ Try.underlying49 rfl (by rw [hd]; exact size_32u8) ?_)
        refine (E w4 hd ld (by omega)).mono ?_
        rintro q w5 ⟨A5, c5, rfl, h5a, h5b, o5, e5⟩
        have o4 := o4.below e5
        have o5 := o5.mono e4.size
        have e5 := e4.trans (e5.mono e4.size)
        clear e4 k0 k1 E
        go_wp2_with fail
        refine (bytesEqual_any A4 A5 _ _ c4 c5 (octs ns.length r) (encN ds ns.length) w5 rfl rfl o4.rd o5.rd (octs_lim _ _) (encN_lim _ _ ld)).mono ?_
        rintro q w6 ⟨rfl, rfl⟩
        go_wp2_with fail
        go_ret
        exact ⟨ret_bool HV2.out.symm, e5⟩
      · have hQ : openOf ns sig e = ([], 1) := by unfold openOf; rw [if_neg hlt]
        have HV2 := Lib.hid (HV.out.trans (verB_big hlt))
        rw [hQ]
        clear hQ HV hlt hlen
        go_wp2_with fail
        go_ret
        exact ⟨ret_bool HV2.out.symm, e4⟩
    · have HV2 := Lib.hid (HV.out.trans (verB_len hls))
      have z1 : ((sig.length : Int) != (ns.length : Int)) = true := by simp; omega
      clear hls HV
      go_enter Try.func48, Try.ntmps48
      have k0 := K.c0
      have k1 := K.c1
      go_wp2_with fail
      rw [← hw1, ← hw2]
      clear hw1 hw2
      refine hS.mono ?_
      rintro r w3 ⟨rfl, e3⟩
      have K := K.below e3
      have e3 := e2.trans (e3.mono e2.size)
      clear hS e2 k0 k1
      have k0 := K.c0
      have k1 := K.c1
      go_wp2_with fail
      go_ret
      exact ⟨ret_bool HV2.out.symm, e3⟩
  · rw [soundE_no hso] at hS
    have HV2 := Lib.hid (HV.out.trans (verB_unsound hso))
    clear hso HV
    go_enter Try.func48, Try.ntmps48
    have k0 := K.c0
    have k1 := K.c1
    go_wp2_with fail
    rw [← hw1, ← hw2]
    clear hw1 hw2
    refine hS.mono ?_
    rintro r w3 ⟨rfl, e3⟩
    have e3 := e2.trans (e3.mono e2.size)
    clear hS e2 k0 k1
    go_wp2_with fail
    go_ret
    exact ⟨ret_bool HV2.out.symm, e3⟩
end Go.Proofs.Ytfclpieijbgodaa
