/-
  RsaTurned, walked: no number that is the modulus or above is a signature. Holds for every digest and byte.
-/
import Derived.Test.YtfclpieijbgodaaRsaK
import Derived.Deep.RegionHeld3
namespace Go.Proofs.Ytfclpieijbgodaa
set_option linter.unusedVariables false
set_option linter.unusedSimpArgs false
open Go.RowKit

/-- The lower k bytes of V behind the higher ones of S. -/
def mix (S V k : Nat) : List Nat := (List.range 256).map fun j => (if j + k < 256 then S else V) / 256 ^ (255 - j) % 256
theorem mix_length (S V k : Nat) : (mix S V k).length = 256 := by simp [mix]
theorem mix_get {S V k j : Nat} (h : j < 256) : (mix S V k)[j]? = some ((if j + k < 256 then S else V) / 256 ^ (255 - j) % 256) := by
  simp [mix, List.getElem?_range h]
theorem mix_zero (S V : Nat) : mix S V 0 = octs 256 S := by
  apply List.ext_getElem?
  intro j
  by_cases h : j < 256
  · rw [mix_get h, octs_get h, if_pos (by omega)]
  · rw [List.getElem?_eq_none (by rw [mix_length]; omega), List.getElem?_eq_none (by rw [octs_length]; omega)]
theorem mix_all (S V : Nat) : mix S V 256 = octs 256 V := by
  apply List.ext_getElem?
  intro j
  by_cases h : j < 256
  · rw [mix_get h, octs_get h, if_neg (by omega)]
  · rw [List.getElem?_eq_none (by rw [mix_length]; omega), List.getElem?_eq_none (by rw [octs_length]; omega)]
theorem mix_set {S V i k : Nat} (h : i + k = 255) : (mix S V k).set i (V / 256 ^ k % 256) = mix S V (k + 1) := by
  apply List.ext_getElem?
  intro j
  rw [List.getElem?_set]
  by_cases h' : j < 256
  · rw [mix_get h', mix_get h']
    by_cases hj : i = j
    · subst hj
      rw [if_pos rfl, if_pos (by rw [mix_length]; exact h'), if_neg (by omega), show 255 - i = k by omega]
    · rw [if_neg hj]
      by_cases h2 : j + k < 256
      · rw [if_pos h2, if_pos (by omega)]
      · rw [if_neg h2, if_neg (by omega)]
  · rw [List.getElem?_eq_none (by rw [mix_length]; omega), List.getElem?_eq_none (by rw [mix_length]; omega), if_neg (by omega)]
def car (S N k : Nat) : Nat := (S % 256 ^ k + N % 256 ^ k) / 256 ^ k
theorem car_zero (S N : Nat) : car S N 0 = 0 := by simp [car, Nat.mod_one]
theorem car_le (S N k : Nat) : car S N k ≤ 1 := by
  unfold car
  have hb : 0 < 256 ^ k := Nat.pow_pos (by omega)
  have h1 := Nat.mod_lt S hb
  have h2 := Nat.mod_lt N hb
  have : (S % 256 ^ k + N % 256 ^ k) / 256 ^ k < 2 := by
    rw [Nat.div_lt_iff_lt_mul hb]
    omega
  omega
theorem car_last {S N : Nat} (k : Nat) (h : S + N < 256 ^ k) : car S N k = 0 := by
  unfold car
  refine Nat.div_eq_of_lt (Nat.lt_of_le_of_lt ?_ h)
  have h1 := Nat.mod_le S (256 ^ k)
  have h2 := Nat.mod_le N (256 ^ k)
  omega
theorem car_dig (S N k : Nat) : (S + N) / 256 ^ k % 256 = (S / 256 ^ k % 256 + N / 256 ^ k % 256 + car S N k) % 256 := by
  unfold car
  have hb : 0 < 256 ^ k := Nat.pow_pos (by omega)
  generalize 256 ^ k = b at *
  have e : S + N = (S % b + N % b) + b * (S / b + N / b) := by
    have h1 := Nat.div_add_mod S b
    have h2 := Nat.div_add_mod N b
    rw [Nat.mul_add]
    omega
  have : (S + N) / b = (S % b + N % b) / b + (S / b + N / b) := by
    conv => lhs; rw [e]
    rw [Nat.add_mul_div_left _ _ hb]
  rw [this]
  omega
theorem car_succ (S N k : Nat) : car S N (k + 1) = (S / 256 ^ k % 256 + N / 256 ^ k % 256 + car S N k) / 256 := by
  unfold car
  rw [Nat.pow_succ]
  have hb : 0 < 256 ^ k := Nat.pow_pos (by omega)
  generalize 256 ^ k = b at *
  rw [Nat.mod_mul, Nat.mod_mul, ← Nat.div_div_eq_div_mul]
  have e : S % b + b * (S / b % 256) + (N % b + b * (N / b % 256)) = (S % b + N % b) + b * (S / b % 256 + N / b % 256) := by
    rw [Nat.mul_add]
    omega
  rw [e, Nat.add_mul_div_left _ _ hb]
  congr 1
  omega
theorem mask8 (n : Int) : bits .and .i64 n 255 = n % 256 := by
  have h255 : (BitVec.ofInt 64 255).toNat = 2 ^ 8 - 1 := by decide
  have key : (BitVec.ofInt 64 n &&& BitVec.ofInt 64 255).toNat = (n % ((2 ^ 64 : Nat) : Int)).toNat % 2 ^ 8 := by
    rw [BitVec.toNat_and, BitVec.toNat_ofInt, h255, Nat.and_two_pow_sub_one_eq_mod]
  show IntKind.i64.wrap ((BitVec.ofInt 64 n &&& BitVec.ofInt 64 255).toNat : Nat) = n % 256
  rw [key, IntKind.wrap_i64]
  omega
theorem KeyAt.grown {w w' : World} {g : Nat} {A : Option Addr} {n c e : Nat} {row : Option Nat} (h : KeyAt w g A n c e) (hb : w.grownBy w' row) (hg : row ≠ some g) : KeyAt w' g A n c e :=
  ⟨(World.cell?_of_block (w := w) (a := ⟨g, 0, none⟩) (hb.block g h.lt (fun e => hg e.symm))).trans h.c0, (World.cell?_of_block (w := w) (a := ⟨g, 1, none⟩) (hb.block g h.lt (fun e => hg e.symm))).trans h.c1, Nat.lt_of_lt_of_le h.lt hb.size⟩
theorem rd_cell {k : IntKind} {w : World} {b o i x : Nat} {xs : List Nat} (h : Rd k w (some ⟨b, o, none⟩) xs) (hx : xs[i]? = some x) : w.cell? ⟨b, o + i, none⟩ = some (.int k (x : Int)) := by
  obtain ⟨b', o', e, hb, hc⟩ := h.pos hx
  cases e
  exact hc _ _ hx
set_option maxRecDepth 100000 in
set_option maxHeartbeats 3200000 in
theorem rsaTurned_any (ds : List Nat) (y : Nat) (w : World) (hd : ds.length = 32) (ld : Lim 256 ds) (hy : y < 256) :
    Calls Try.prog 12 #[.agg (ints .u8 ds).toArray, .int .u8 (y : Int)] w (Yes w) := by
  have hD : Whl .u8 49 (w.alloc (.cells (ints .u8 ds).toArray 49)) w.heap.size ds := whl_new0 _ _
  have e1 : Below w.heap.size w (w.alloc (.cells (ints .u8 ds).toArray 49)) := (Below.refl _ _).alloc (Nat.le_refl _) _
  have hl := Lib.hid hd
  clear hd
  have hkl := forKey_len ds
  have hsl := forSig_len ds
  go_enter Try.func12, Try.ntmps12
  go_wp2_with (refine wpList_load_whl_if rfl 49 (.tmp 2) rfl w.heap.size rfl .u8 _ ds hD _ Try.underlying49 rfl (by rw [hl.out]; exact size_32u8) ?_)
  generalize w.alloc (.cells (ints .u8 ds).toArray 49) = w1 at *
  refine (for_any ds w1 hl.out ld).mono ?_
  rintro r w3 ⟨A, c, B, d, rfl, h3a, h3b, oA, h3c, h3d, oB, e3⟩
  unfold keyVal
  have D3 := hD.below e3
  have e4 : Below w3.heap.size w3 (w3.alloc (.cells #[.slice A 256 c, .int .u64 3] 52)) := (Below.refl _ _).alloc (Nat.le_refl _) _
  have K4 := key_new w3 A 256 c 3 52
  have D4 := D3.below e4
  have oA := oA.rd.below e4
  have oB := oB.rd.below e4
  have e3 := e1.trans (e3.mono e1.size)
  have e4 := e3.trans (e4.mono e3.size)
  have hgw : w.heap.size ≤ w3.heap.size := e3.size
  clear hD D3 e3 e1
  have k0 := K4.c0
  have k1 := K4.c1
  go_wp2_with fail
  generalize w3.alloc (.cells #[.slice A 256 c, .int .u64 3] 52) = w4 at *
  refine (twin06_any A 256 c (forKey ds) w4 hkl.symm (by omega) oA).mono ?_
  rintro r w5 ⟨g, c5, rfl, hg5, b5, h5a, h5b, e5⟩
  rw [hkl] at h5a ⊢
  have D5 := D4.below e5
  have K5 := K4.below e5
  have oA5 := oA.below e5
  have oB5 := oB.below e5
  have e5 := e4.trans (e5.mono e4.size)
  clear k0 k1 K4 D4 oA oB e4
  have k0 := K5.c0
  have k1 := K5.c1
  by_cases hy' : y < 128
  · have hb : decide ((y : Int) < 128) = true := by simp; omega
    go_wp2_with fail
    refine (twin06_any B 256 d (forSig ds) w5 hsl.symm (by omega) oB5).mono ?_
    rintro r w6 ⟨g6, c6, rfl, hg6, b6, h6a, h6b, e6⟩
    rw [hsl] at h6a ⊢
    have D6 := D5.below e6
    have K6 := K5.below e6
    have oA6 := oA5.below e6
    have oB6 := oB5.below e6
    have e6 := e5.trans (e6.mono e5.size)
    have hgw6 : w.heap.size ≤ g6 := Nat.le_trans e5.size hg6
    have hK6 : w3.heap.size < g6 := Nat.lt_of_lt_of_le K5.lt hg6
    have hD6 : w.heap.size < g6 := Nat.lt_of_lt_of_le D5.lt hg6
    have fA := Off.new oA5 hg6
    have fB := Off.new oB5 hg6
    clear k0 k1 K5 D5 oA5 oB5 b5 e5 h5a h5b hg5
    obtain ⟨x0, hx0⟩ := get_of_lt (xs := forKey ds) (i := 0) (by omega)
    obtain ⟨x1, hx1⟩ := get_of_lt (xs := forSig ds) (i := 0) (by omega)
    obtain ⟨bA, oa, rfl, _, _⟩ := oA6.pos hx0
    obtain ⟨bB, ob, rfl, _, _⟩ := oB6.pos hx1
    clear hx0 hx1
    go_wp2_with fail
    go_loopw [8, 9] (fun s t wr => ∃ (i k : Nat) (z : Int), s = .int .i64 (car (forS ds) (forN ds) k : Int) ∧ t = .int .i64 z ∧ z + 1 = (i : Int) ∧ i + k = 256 ∧ Blk .u8 wr g6 (mix (forS ds) (forS ds + forN ds) k) ∧ w6.grownBy wr (some g6)) (fun _ t _ => (1 + intOf t).toNat)
    case atStart => exact ⟨256, 0, 255, by rw [car_zero]; rfl, rfl, rfl, rfl, by rw [mix_zero]; exact b6, only_refl _ _⟩
    case round =>
      obtain ⟨i, k, z, rfl, rfl, hz, hik, hblk, hgr⟩ := hrel
      have K := K6.grown hgr (by rintro h; injection h with h; omega)
      have k0 := K.c0
      have k1 := K.c1
      rcases i with _ | j
      · obtain rfl : z = -1 := by omega
        obtain rfl : k = 256 := by omega
        rw [car_last 256 (by rw [pow256']; exact (forN_bounds hl.out ld).2.2.1)]
        have D7 := D6.grown hgr (by rintro h; injection h with h; omega)
        have oA7 := oA6.grown hgr (by rintro g h; cases h; exact fA)
        have oB7 := oB6.grown hgr (by rintro g h; cases h; exact fB)
        have e7 := below_only e6 hgr e6.size hgw6
        rw [mix_all] at hblk
        clear D6 K6 oA6 oB6 e6 hgr b6
        go_wp2_with (refine wpList_load_whl_if rfl 49 (.tmp 2) rfl w.heap.size rfl .u8 _ ds D7 _ Try.underlying49 rfl (by rw [hl.out]; exact size_32u8) ?_)
        have hV := verify_any (some ⟨bA, oa, none⟩) (some ⟨g6, 0, none⟩) 256 c 3 256 c6 (forKey ds) ds (octs 256 (forS ds + forN ds)) wr hkl.symm (octs_length _ _).symm (by omega) (by omega) oA7 (Rd.of_all hblk) (forKey_lim ds) (octs_lim _ _) hl.out ld (by omega)
        rw [ver_big hl.out ld (by rw [valB_octs, pow256', Nat.mod_eq_of_lt (forN_bounds hl.out ld).2.2.1]; omega)] at hV
        unfold keyVal at hV
        refine hV.mono ?_
        rintro r w7 ⟨rfl, ea⟩
        have D8 := D7.below ea
        have K8 := K.below ea
        have oA8 := oA7.below ea
        have oB8 := oB7.below ea
        have e8 := e7.trans (ea.mono e7.size)
        clear hV D7 K k0 k1 e7 ea
        have k0 := K8.c0
        have k1 := K8.c1
        go_wp2_with (refine wpList_load_whl_if rfl 49 (.tmp 2) rfl w.heap.size rfl .u8 _ ds D8 _ Try.underlying49 rfl (by rw [hl.out]; exact size_32u8) ?_)
        have hV := verify_any (some ⟨bA, oa, none⟩) (some ⟨bB, ob, none⟩) 256 c 3 256 d (forKey ds) ds (forSig ds) w7 hkl.symm hsl.symm (by omega) (by omega) oA8 oB8 (forKey_lim ds) (forSig_lim ds) hl.out ld (by omega)
        rw [ver_for hl.out ld, decide_eq_true rfl] at hV
        unfold keyVal at hV
        refine hV.mono ?_
        rintro r w8 ⟨rfl, ea⟩
        have e9 := e8.trans (ea.mono e8.size)
        clear hV D8 K8 k0 k1 e8 ea
        go_wp2_with fail
        refine (works06_any w8).mono ?_
        rintro r w9 ⟨rfl, ea⟩
        have ea := e9.trans (ea.mono e9.size)
        go_wp2_with fail
        go_ret
        exact ⟨rfl, ea⟩
      · obtain rfl : z = (j : Int) := by omega
        have gS : (forSig ds)[j]? = some (forS ds / 256 ^ k % 256) := by unfold forSig; rw [octs_get (by omega), show 256 - 1 - j = k by omega]
        have gN : (forKey ds)[j]? = some (forN ds / 256 ^ k % 256) := by unfold forKey; rw [octs_get (by omega), show 256 - 1 - j = k by omega]
        have cA := rd_cell (oA6.grown hgr (by rintro g h; cases h; exact fA)) gN
        have cB := rd_cell (oB6.grown hgr (by rintro g h; cases h; exact fB)) gS
        have gM : (mix (forS ds) (forS ds + forN ds) k)[j]? = some _ := mix_get (by omega)
        have cM := hblk.cell gM
        have fM := hblk.frozen gM
        have hset := hblk.set gM ((forS ds + forN ds) / 256 ^ k % 256)
        rw [mix_set (by omega), car_dig] at hset
        have hsu := car_succ (forS ds) (forN ds) k
        have hcl := car_le (forS ds) (forN ds) k
        have hsl := Nat.mod_lt (forS ds / 256 ^ k) (show 0 < 256 by omega)
        have hnl := Nat.mod_lt (forN ds / 256 ^ k) (show 0 < 256 by omega)
        have HSU := Lib.hid hsu
        clear hsu gM gS gN
        generalize forS ds / 256 ^ k % 256 = sd at *
        generalize forN ds / 256 ^ k % 256 = nd at *
        generalize car (forS ds) (forN ds) k = cr at *
        have p1 : IntKind.i64.wrap ((sd : Int) + (nd : Int)) = ((sd + nd : Nat) : Int) := by rw [IntWalk.i64_in _ (by omega)]; omega
        have p2 : IntKind.i64.wrap (((sd + nd : Nat) : Int) + (cr : Int)) = ((sd + nd + cr : Nat) : Int) := by rw [IntWalk.i64_in _ (by omega)]; omega
        have p3 : (0 : Int) ≤ (j : Int) := by omega
        have p4 : (j : Int) < 256 := by omega
        have hm := mask8 ((sd : Int) + (nd : Int) + (cr : Int))
        have hm2 : ((sd : Int) + (nd : Int) + (cr : Int)) % 256 % 256 = ((sd : Int) + (nd : Int) + (cr : Int)) % 256 := by omega
        rw [show (((sd + nd + cr) % 256 : Nat) : Int) = ((sd : Int) + (nd : Int) + (cr : Int)) % 256 by simp] at hset
        go_wp2
        go_quiet (fail)
        go_wp2_with fail
        go_roundw
        case rel =>
          refine ⟨j, k + 1, (j : Int) - 1, ?_, rfl, by omega, by omega, hset.drewN _, only_set (only_drewN hgr _) (.inl rfl) _⟩
          rw [HSU.out]
          simp
        case measure => simp [intOf]; omega
  · have hb : decide ((y : Int) < 128) = false := by simp; omega
    go_wp2_with (refine wpList_load_whl_if rfl 49 (.tmp 2) rfl w.heap.size rfl .u8 _ ds D5 _ Try.underlying49 rfl (by rw [hl.out]; exact size_32u8) ?_)
    have hV := verify_any A (some ⟨g, 0, none⟩) 256 c 3 256 c5 (forKey ds) ds (forKey ds) w5 hkl.symm hkl.symm (by omega) (by omega) oA5 (Rd.of_all b5) (forKey_lim ds) (forKey_lim ds) hl.out ld (by omega)
    rw [ver_big hl.out ld (by rw [forKey_val hl.out ld]; exact Nat.le_refl _)] at hV
    unfold keyVal at hV
    refine hV.mono ?_
    rintro r w7 ⟨rfl, e7⟩
    have D7 := D5.below e7
    have K7 := K5.below e7
    have oA7 := oA5.below e7
    have oB7 := oB5.below e7
    have e7 := e5.trans (e7.mono e5.size)
    clear hV D5 K5 k0 k1 e5
    have k0 := K7.c0
    have k1 := K7.c1
    go_wp2_with (refine wpList_load_whl_if rfl 49 (.tmp 2) rfl w.heap.size rfl .u8 _ ds D7 _ Try.underlying49 rfl (by rw [hl.out]; exact size_32u8) ?_)
    have hV := verify_any A B 256 c 3 256 d (forKey ds) ds (forSig ds) w7 hkl.symm hsl.symm (by omega) (by omega) oA7 oB7 (forKey_lim ds) (forSig_lim ds) hl.out ld (by omega)
    rw [ver_for hl.out ld, decide_eq_true rfl] at hV
    unfold keyVal at hV
    refine hV.mono ?_
    rintro r w8 ⟨rfl, e8⟩
    have e8 := e7.trans (e8.mono e7.size)
    clear hV D7 K7 k0 k1 e7
    go_wp2_with fail
    refine (works06_any w8).mono ?_
    rintro r w9 ⟨rfl, e9⟩
    have e9 := e8.trans (e9.mono e8.size)
    go_wp2_with fail
    go_ret
    exact ⟨rfl, e9⟩
end Go.Proofs.Ytfclpieijbgodaa
