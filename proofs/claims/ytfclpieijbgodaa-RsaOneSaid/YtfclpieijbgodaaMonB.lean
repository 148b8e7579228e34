/-
  mont's product of rows (reduce), and what is ahead of it (wide, may, rest).
-/
import Derived.Test.YtfclpieijbgodaaMonA
import Derived.Test.YtfclpieijbgodaaMonQ
import Derived.StillTailTactics
namespace Go.Proofs.Ytfclpieijbgodaa
set_option linter.unusedVariables false
set_option linter.unusedSimpArgs false
open Go.RowKit

/-- A modulus' limbs and its inverse lie at g. -/
def MRd (w : World) (g : Nat) (ms : List Nat) (ninv : Nat) : Prop :=
  ∃ A c, g < w.heap.size ∧ w.cell? ⟨g, 0, none⟩ = some (.slice A ms.length c) ∧ w.cell? ⟨g, 1, none⟩ = some (.int .u32 (ninv : Int)) ∧ Rd .u32 w A ms
theorem MRd.below {w w' : World} {g : Nat} {ms : List Nat} {ninv : Nat} (h : MRd w g ms ninv) (hb : Below w.heap.size w w') : MRd w' g ms ninv := by
  obtain ⟨A, c, h0, h1, h2, h3⟩ := h
  exact ⟨A, c, Nat.lt_of_lt_of_le h0 hb.size, (hb.cell (p := ⟨g, 0, none⟩) h0).trans h1, (hb.cell (p := ⟨g, 1, none⟩) h0).trans h2, h3.below hb⟩
/-- It returns a new row of as many limbs, of this value. -/
def GivesRow (n v : Nat) (w : World) (e : Ending) (w' : World) : Prop := ∃ rs, rs.length = n ∧ Lim 4294967296 rs ∧ val rs = v ∧ Gives .u32 rs w e w'
theorem wide_cells (xs : List Nat) (n : Nat) (h : xs.length ≤ n) : (List.replicate n 0).take 0 ++ xs ++ (List.replicate n 0).drop (0 + xs.length) = xs ++ List.replicate (n - xs.length) 0 := by simp
theorem wide_val (xs : List Nat) (m : Nat) : val (xs ++ List.replicate m 0) = val xs := by rw [val_append, val_replicate]; simp
set_option maxHeartbeats 400000 in
theorem mwide_any (g : Nat) (ms : List Nat) (ninv : Nat) (X : Option Addr) (n c : Nat) (xs : List Nat) (w : World) (hM : MRd w g ms ninv) (hl : ms.length ≤ 60000) (hn : n = xs.length) (hnl : xs.length ≤ ms.length) (hx : Rd .u32 w X xs) (lx : Lim 4294967296 xs) :
    Calls Try.prog 77 #[.pointer (some ⟨g, 0, none⟩), .slice X n c] w (GivesRow ms.length (val xs) w) := by
  subst hn
  obtain ⟨A, cA, hg, h0, h1, hA⟩ := hM
  go_enter Try.func77, Try.ntmps77
  go_wp2_with (first
    | (at_make; refine wpList_make_ints _ rfl _ _ _ rfl .u32 33 4 Try.underlying22 info_u32 _ _ ms.length _ _ rfl rfl (by omega) (by omega) (by omega) (by omega) ?_; intro gt w1 hgt hw1 hs1 hb1)
    | ((with_reducible show wpList _ _ _ _ _ _); refine wpList_copy_ints _ rfl (.tmp 12) (.tmp 13) _ _ rfl .u32 33 4 Try.underlying22 info_u32 gt 0 ms.length ms.length c X xs.length rfl rfl _ xs hw1 (hx.below hb1) rfl hnl (by simp; omega) w.heap.size w hb1 (by rw [hgt.out]; exact Nat.le_refl _) ?_; intro w2 hw2 hb2 hg2; have ew := Lib.hid (wide_cells xs ms.length hnl); rw [ew.out] at hw2))
  have HL := Lib.hid (show (xs ++ List.replicate (ms.length - xs.length) 0).length = ms.length by simp; omega)
  go_ret
  exact ⟨xs ++ List.replicate (ms.length - xs.length) 0, HL.out, lx.append (Lim.replicate (by omega)), wide_val xs _, some ⟨gt, 0, none⟩, ms.length, by rw [HL.out]; rfl, by rw [HL.out]; exact Nat.le_refl _, by simp only [maxLen]; omega, Own.of_blk hw2.blk (by rw [hgt.out]; exact Nat.le_refl _), hb2⟩
def mayOf (xs ms : List Nat) : Bool := isRight xs && decide (val xs < val ms)
set_option maxHeartbeats 400000 in
theorem mmay_any (g : Nat) (ms : List Nat) (ninv : Nat) (X : Option Addr) (n c : Nat) (xs : List Nat) (w : World) (hM : MRd w g ms ninv) (rm : isRight ms = true) (hn : n = xs.length) (hl : n ≤ 70000) (hx : Rd .u32 w X xs) (lx : Lim 4294967296 xs) (lm : Lim 4294967296 ms) :
    Calls Try.prog 75 #[.pointer (some ⟨g, 0, none⟩), .slice X n c] w (Quiet (.bool (mayOf xs ms)) w) := by
  subst hn
  obtain ⟨A, cA, hg, h0, h1, hA⟩ := hM
  have hml := isRight_len rm
  cases r : isRight xs with
  | false =>
    have HR := Lib.hid (show mayOf xs ms = false by simp [mayOf, r])
    go_enter Try.func75, Try.ntmps75
    go_wp2_with fail
    refine (right_any _ _ c xs _ rfl (by omega) hx).mono ?_
    rintro e w' ⟨rfl, rfl⟩
    go_wp2_with fail
    go_ret
    exact Quiet.mk0 (congrArg Value.bool HR.out.symm)
  | true =>
    obtain ⟨cm, hcm⟩ : ∃ cm, cm = cmpN (val xs) (val ms) := ⟨_, rfl⟩
    have HR := Lib.hid (show mayOf xs ms = decide (cm < 0) by rw [hcm]; simp [mayOf, r, cmpN_neg])
    have hc := Lib.hid (show Calls Try.prog 27 #[.slice X xs.length c, .slice A ms.length cA] w (Quiet (.int .i64 cm) w) by
      have := cmpAny_any X A _ _ c cA xs ms w rfl rfl hl (by omega) hx hA lx lm
      rw [if_pos ⟨r, rm⟩, ← hcm] at this
      exact this)
    clear hcm
    go_enter Try.func75, Try.ntmps75
    go_wp2_with fail
    refine (right_any _ _ c xs _ rfl (by omega) hx).mono ?_
    rintro e w' ⟨rfl, rfl⟩
    go_wp2_with fail
    refine hc.out.mono ?_
    rintro e w' ⟨rfl, q, rfl⟩
    go_wp2_with fail
    go_ret
    exact Quiet.mk (congrArg Value.bool HR.out.symm) _
set_option maxHeartbeats 400000 in
theorem mrest_any (g : Nat) (ms : List Nat) (A X Y : Option Addr) (cA n m c d : Nat) (xs ys : List Nat) (w : World) (h0 : w.cell? ⟨g, 0, none⟩ = some (.slice A ms.length cA)) (hg : g < w.heap.size) (hA : Rd .u32 w A ms) (lm : Lim 4294967296 ms) (rm : isRight ms = true) (hne : ms ≠ [])
    (hn : n = xs.length) (hm : m = ys.length) (hx : Rd .u32 w X xs) (hy : Rd .u32 w Y ys) (lx : Lim 4294967296 xs) (ly : Lim 4294967296 ys) (rx : isRight xs = true) (ry : isRight ys = true) (hfit : (limbs (val xs * val ys)).length ≤ 256) :
    Calls Try.prog 74 #[.pointer (some ⟨g, 0, none⟩), .slice X n c, .slice Y m d] w (Gives2 .u32 (limbs (val xs * val ys % val ms)) 0 w) := by
  subst hn
  subst hm
  have hml := isRight_len rm
  have hxl := isRight_len rx
  have hyl := isRight_len ry
  have hmul := mul_any X Y _ _ c d xs ys w rfl rfl hx hy lx ly rx ry
  rw [fitsOf_ok hfit] at hmul
  have hdiv : ∀ (P : Option Addr) (cp : Nat) (w' : World), Rd .u32 w' P (limbs (val xs * val ys)) → Rd .u32 w' A ms → Calls Try.prog 24 #[.slice P (limbs (val xs * val ys)).length cp, .slice A ms.length cA] w' (Gives3 (limbs (val xs * val ys / val ms)) (limbs (val xs * val ys % val ms)) 0 w') := by
    intro P cp w' h1 h2
    have h3 := div_any P A _ _ cp cA (limbs (val xs * val ys)) ms w' rfl rfl (by omega) (by omega) h1 h2 (limbs_lim _) lm
    rw [divOf_ok (isRight_limbs hfit) rm hne, val_limbs] at h3
    exact h3
  have HD := Lib.hid hdiv
  have HMUL := Lib.hid hmul
  clear hdiv hmul
  generalize limbs (val xs * val ys % val ms) = R at *
  generalize limbs (val xs * val ys / val ms) = Q at *
  generalize limbs (val xs * val ys) = P at *
  go_enter Try.func74, Try.ntmps74
  go_wp2_with fail
  refine HMUL.out.mono ?_
  rintro e w1 ⟨A1, c1, rfl, f1, f2, f3, f4⟩
  have h01 := (f4.cell (p := ⟨g, 0, none⟩) hg).trans h0
  go_wp2_with fail
  refine (HD.out A1 c1 w1 f3.rd (hA.below f4)).mono ?_
  rintro e w2 ⟨A2, c2, A3, c3, rfl, _, ⟨g1, g2⟩, _, g4, g5⟩
  go_wp2_with fail
  go_ret2
  exact ⟨A3, c3, rfl, g1, g2, g4.mono f4.size, f4.trans (g5.mono f4.size)⟩
theorem last_cell {fs : List Nat} {n : Nat} (hl : fs.length = n + 2) : (fs.take 0 ++ fs.drop 1 ++ fs.drop (0 + (n + 1)))[n + 1]? = some (fs.getD (n + 1) 0) := by
  rw [List.take_zero, List.nil_append, List.getElem?_append_right (by simp [hl]), List.getElem?_drop]
  rw [show 0 + (n + 1) + (n + 1 - (fs.drop 1).length) = n + 1 by simp [hl]]
  rw [List.getD_eq_getElem?_getD, List.getElem?_eq_getElem (by omega)]
  rfl
theorem wrap_mul (x y : Nat) : IntKind.u32.wrap ((x : Int) * (y : Int)) = ((x * y % 4294967296 : Nat) : Int) := by
  rw [IntKind.wrap_u32', Int.natCast_emod, Int.natCast_mul]
  rfl
set_option maxRecDepth 100000 in
set_option maxHeartbeats 3200000 in
theorem mreduce_any (g : Nat) (ms : List Nat) (ninv : Nat) (X Y : Option Addr) (n m c d : Nat) (xs ys : List Nat) (w : World) (hM : MRd w g ms ninv) (hl : ms.length ≤ 60000) (hn : n = ms.length) (hm : m = ms.length) (hxn : xs.length = ms.length) (hyn : ys.length = ms.length)
    (hx : Rd .u32 w X xs) (hy : Rd .u32 w Y ys) (lx : Lim 4294967296 xs) (ly : Lim 4294967296 ys) (lm : Lim 4294967296 ms) (hi : 4294967296 ∣ val ms * ninv + 1) (hib : ninv < 4294967296) (hp : 0 < ms.length) (hY : val ys < val ms) :
    Calls Try.prog 76 #[.pointer (some ⟨g, 0, none⟩), .slice X n c, .slice Y m d] w (GivesRow ms.length (mred (val ms) ninv (val ys) xs) w) := by
  subst hn
  subst hm
  obtain ⟨A, cA, hg, h0, h1, hA⟩ := hM
  have HXN := Lib.hid hxn
  have HYN := Lib.hid hyn
  clear hxn hyn
  go_enter Try.func76, Try.ntmps76
  go_wp2_with (at_make; refine wpList_make_ints _ rfl _ _ _ rfl .u32 33 4 Try.underlying22 info_u32 _ _ (ms.length + 2) _ _ rfl rfl (by omega) (by omega) (by omega) (by omega) ?_; intro gt w1 hgt hw1 hs1 hb1)
  have hgtB : w.heap.size ≤ gt := by rw [hgt.out]; exact Nat.le_refl _
  have hgg : g ≠ gt := by omega
  have hst : val (List.replicate (ms.length + 2) 0) = redTo (val ms) ninv (val ys) xs 0 := by rw [val_replicate]; rfl
  go_loopw [22] (fun s wr => ∃ (i : Nat) (ts : List Nat), s = .int .i64 (i : Int) ∧ i ≤ ms.length ∧ Whl .u32 33 wr gt ts ∧ Hid (ts.length = ms.length + 2) ∧ Lim 4294967296 ts ∧ Hid (val ts = redTo (val ms) ninv (val ys) xs i) ∧ Below w.heap.size w wr) (fun s _ => ms.length - (intOf s).toNat)
  case atStart => exact ⟨0, _, rfl, Nat.zero_le _, hw1, List.length_replicate, Lim.replicate (by omega), hst, hb1⟩
  case round =>
    clear hst hw1 hs1 hb1
    obtain ⟨i, ts, rfl, hi2, hw, htl, lt, hv, hbel⟩ := hrel
    have hT := redTo_lt (xs := xs) hi hY lx i
    rw [← hv.out] at hT
    by_cases hlt : i < ms.length
    · obtain ⟨a, hga⟩ := get_of_lt (xs := xs) (i := i) (by rw [HXN.out]; exact hlt)
      obtain ⟨b, o, rfl, hbw, hcl⟩ := (hx.below hbel).pos hga
      have hcell := hcl i a hga
      have hab := lx.get hga
      obtain ⟨g1, g2, g3, k1, k2, k3⟩ := round_ok htl.out HYN.out rfl lt ly lm hab hi hT hY
      have HG := Lib.hid (And.intro g1 g3)
      have HK := Lib.hid (And.intro k1 k3)
      have HS := Lib.hid (show redTo (val ms) ninv (val ys) xs (i + 1) = redStep (val ms) ninv (val ys) (val ts) a by rw [redTo, hv.out, List.getD_eq_getElem?_getD, hga]; rfl)
      clear hga hcl g1 g3 k1 k3
      obtain ⟨ds, c1, hd⟩ : ∃ ds c1, foldTo ts 0 ys a ms.length = (ds, c1) := ⟨_, _, rfl⟩
      have hdl : ds.length = ms.length + 2 := by have := foldTo_length ts 0 ys a ms.length; rw [hd, htl.out] at this; exact this
      have ld := foldTo_lim ts 0 ys a ms.length lt
      have hcb := foldTo_carry ts 0 ys a ms.length hab lt ly
      rw [hd] at ld hcb
      simp only at ld hcb
      obtain ⟨a0, ha0⟩ := get_of_lt (xs := ds) (i := ms.length) (by omega)
      obtain ⟨a1, ha1⟩ := get_of_lt (xs := ds) (i := ms.length + 1) (by omega)
      have hadd := add2_eq (c := c1) ha0 ha1
      have hma : mulAdd ts ys ms.length a = add2 ds ms.length c1 := by unfold mulAdd; rw [hd]
      have b0 := ld.get ha0
      have b1 := ld.get ha1
      have hfold := mfold_any ts ys gt 0 ms.length (ms.length + 2) ms.length d Y a wr hw (hy.below hbel) (Off.new hy hgtB) HYN.out.symm (by omega) (Nat.le_refl _) (by rw [htl.out]; omega) hab lt ly
      rw [hd] at hfold
      have HF := Lib.hid hfold
      have HAD := Lib.hid (hma.trans hadd)
      have HA0 := Lib.hid ha0
      have HA1 := Lib.hid ha1
      clear hfold hadd hma ha0 ha1 hd hdl hw
      go_wp2_with fail
      refine HF.out.mono ?_
      rintro e w3 ⟨rfl, hw3, hg3⟩
      go_wp2_with fail
      refine (madd_any ds gt ms.length 2 2 a0 a1 c1 w3 hw3 HA0.out HA1.out (Nat.le_refl _) (by omega) b0 b1 hcb).mono ?_
      rintro e w4 ⟨rfl, hw4, hg4⟩
      rw [← HAD.out] at hw4
      have hbel4 := below_only (below_only hbel hg3 hbel.size hgtB) hg4 (Nat.le_trans hbel.size hg3.size) hgtB
      clear HAD HA0 HA1 b0 b1 HF hw3 hg3 hg4 hbel ld hcb
      have h0' := (hbel4.cell (p := ⟨g, 0, none⟩) hg).trans h0
      have h1' := (hbel4.cell (p := ⟨g, 1, none⟩) hg).trans h1
      obtain ⟨cs, hcs⟩ : ∃ cs, cs = mulAdd ts ys ms.length a := ⟨_, rfl⟩
      obtain ⟨U, hU⟩ : ∃ U, U = redU ninv (val ts + a * val ys) := ⟨_, rfl⟩
      have hUl : U < 4294967296 := by rw [hU]; exact redU_lt _ _
      rw [← hcs] at hw4
      have hG1 := HG.out.1
      have hG3 := HG.out.2
      have hK1 := HK.out.1
      have hK3 := HK.out.2
      rw [← hcs] at hG1 hG3 g2
      rw [← hU, ← hcs] at hK1 hK3 k2
      obtain ⟨t0, ht0⟩ := get_of_lt (xs := cs) (i := 0) (by omega)
      have ht0v := val_head g2 ht0
      have hUv : U = t0 * ninv % 4294967296 := by rw [hU, redU, ht0v, hG3]
      have hwm : ((t0 : Int) * (ninv : Int)) % 4294967296 = (U : Int) := by rw [hUv]; simp
      have hc0 := hw4.blk.cell ht0
      have hL1 := Lib.hid hG1
      have hL2 := Lib.hid hK1
      have hL3 := Lib.hid hK3
      have hA4 := hA.below hbel4
      clear ht0v hUv hU HG HK hG1 hG3 hK1 hK3 hcs ht0
      go_wp2_with fail
      refine wp_region_still_tail 15 (by kernel_rfl) (by kernel_rfl) ?_
      simp only [List.take_succ_cons, List.take_zero, List.drop_succ_cons, List.drop_zero]
      show wpStill Try.prog _ w4.drew (fun a' => wpList Try.prog _ _ _ a' w4.drew) _ _
      have hw5 : Whl .u32 33 w4.drew gt cs := hw4
      have hbel5 : Below w.heap.size w w4.drew := below_drewN hbel4 1
      have hA5 : Rd .u32 w4.drew A ms := hA4
      replace h0' : w4.drew.cell? ⟨g, 0, none⟩ = some (.slice A ms.length cA) := h0'
      replace h1' : w4.drew.cell? ⟨g, 1, none⟩ = some (.int .u32 (ninv : Int)) := h1'
      replace hc0 : w4.drew.cell? ⟨gt, 0, none⟩ = some (.int .u32 (t0 : Int)) := hc0
      clear hw4 hbel4 hA4
      generalize w4.drew = w5 at *
      have j1 : (0 : Int) ≤ (ms.length : Int) := by omega
      have j2 : (ms.length : Int) ≤ (ms.length : Int) + 2 := by omega
      have j3 : (0 : Int) < (ms.length : Int) + 2 := by omega
      repeat still_step
      refine wpStill_nil ?_
      go_wp2_with fail
      rw [hwm]
      clear hwm hc0 h0' h1' j1 j2
      obtain ⟨es, c2, hd⟩ : ∃ es c2, foldTo cs 0 ms U ms.length = (es, c2) := ⟨_, _, rfl⟩
      have hdl : es.length = ms.length + 2 := by have := foldTo_length cs 0 ms U ms.length; rw [hd, hL1.out] at this; exact this
      have ld := foldTo_lim cs 0 ms U ms.length g2
      have hcb := foldTo_carry cs 0 ms U ms.length hUl g2 lm
      rw [hd] at ld hcb
      simp only at ld hcb
      obtain ⟨a0, ha0⟩ := get_of_lt (xs := es) (i := ms.length) (by omega)
      obtain ⟨a1, ha1⟩ := get_of_lt (xs := es) (i := ms.length + 1) (by omega)
      have hadd := add2_eq (c := c2) ha0 ha1
      have hma : mulAdd cs ms ms.length U = add2 es ms.length c2 := by unfold mulAdd; rw [hd]
      have b0 := ld.get ha0
      have b1 := ld.get ha1
      have hfold := mfold_any cs ms gt 0 ms.length (ms.length + 2) ms.length cA A U w5 hw5 hA5 (Off.new hA hgtB) rfl (by omega) (Nat.le_refl _) (by rw [hL1.out]; omega) hUl g2 lm
      rw [hd] at hfold
      have HAD := Lib.hid (hma.trans hadd)
      have HA0 := Lib.hid ha0
      have HA1 := Lib.hid ha1
      clear hadd hma ha0 ha1 hd hdl hw5
      refine hfold.mono ?_
      rintro e w6 ⟨rfl, hw6, hg6⟩
      clear hfold
      go_wp2_with fail
      refine (madd_any es gt ms.length 2 2 a0 a1 c2 w6 hw6 HA0.out HA1.out (Nat.le_refl _) (by omega) b0 b1 hcb).mono ?_
      rintro e w7 ⟨rfl, hw7, hg7⟩
      rw [← HAD.out] at hw7
      have hbel7 := below_only (below_only hbel5 hg6 hbel5.size hgtB) hg7 (Nat.le_trans hbel5.size hg6.size) hgtB
      have hfin := Lib.hid (shift_cells hL2.out)
      have hsl := shift_ok hL2.out k2
      obtain ⟨fs, hfs⟩ : ∃ fs, fs = mulAdd cs ms ms.length U := ⟨_, rfl⟩
      rw [← hfs] at hw7 hfin hL2 hL3 k2 hsl
      have HSL := Lib.hid hsl
      have hrd : Rd .u32 w7 (some ⟨gt, 1, none⟩) (fs.drop 1) := by
        have h := Rd.of_blk hw7.blk 1 (ms.length + 1)
        rwa [List.take_of_length_le (by rw [List.length_drop, hL2.out]; omega)] at h
      have hdl1 := Lib.hid (show ms.length + 1 = (fs.drop 1).length by rw [List.length_drop, hL2.out]; omega)
      clear HAD HA0 HA1 b0 b1 hw6 hg6 hg7 hbel5 ld hcb hA5 hsl hfs
      go_wp2_with (((with_reducible show wpList _ _ _ _ _ _); refine wpList_copy_ints _ rfl (.tmp 58) (.tmp 60) _ _ rfl .u32 33 4 Try.underlying22 info_u32 gt 0 (ms.length + 2) (ms.length + 2) (ms.length + 1) (some ⟨gt, 1, none⟩) (ms.length + 1) rfl rfl fs (fs.drop 1) hw7 hrd hdl1.out (by omega) (by rw [hL2.out]; omega) w.heap.size w hbel7 hgtB ?_; intro w8 hw8 hb8 hg8; have hc8 := hw8.blk.cell (last_cell hL2.out); have hf8 := hw8.blk.frozen (last_cell hL2.out)))
      have hw9 : Whl .u32 33 (w8.setCell ⟨gt, ms.length + 1, none⟩ (.int .u32 0)) gt (fs.drop 1 ++ [0]) := by
        have h := hw8.set (ms.length + 1) 0
        rw [hfin.out] at h
        exact h
      have hv9 := Lib.hid (hL3.out.trans HS.out.symm)
      have hl9 := Lib.hid HSL.out.1
      have hbel9 := hb8.setCell (p := ⟨gt, ms.length + 1, none⟩) hgtB (.int .u32 0)
      clear hw8 hb8 hg8 hc8 hf8 hrd hw7 hbel7
      go_roundw
      case rel => exact ⟨i + 1, fs.drop 1 ++ [0], by go_num, hlt, hw9, hl9, HSL.out.2.1, hv9, hbel9⟩
      case measure => simp [intOf]; omega
    · obtain rfl : i = ms.length := by omega
      obtain ⟨tn, htn⟩ := get_of_lt (xs := ts) (i := ms.length) (by rw [htl.out]; omega)
      obtain ⟨p1, p2⟩ := top_ok htl.out rfl lm hT htn
      have hcn := hw.blk.cell htn
      have h0' := (hbel.cell (p := ⟨g, 0, none⟩) hg).trans h0
      have hA' := hA.below hbel
      have hrow : Rd .u32 wr (some ⟨gt, 0, none⟩) (ts.take ms.length) := (Rd.of_all hw.blk).take _
      have j1 : (0 : Int) ≤ (ms.length : Int) := by omega
      have j2 : (ms.length : Int) ≤ (ms.length : Int) + 2 := by omega
      have j3 : (ms.length : Int) < (ms.length : Int) + 2 := by omega
      have htkl : (ts.take ms.length).length = ms.length := by rw [List.length_take, htl.out]; omega
      have hmr : mred (val ms) ninv (val ys) xs = if val ms ≤ val ts then val ts - val ms else val ts := by
        unfold mred
        rw [HXN.out, ← hv.out]
      have hlast := fun h => last_ok htl.out rfl lt lm hT h
      have hTL := takeTo_length ts 0 ms ms.length
      have hTM := takeTo_lim ts 0 ms ms.length lt
      rw [htl.out] at hTL
      have hun : ∀ q, Calls Try.prog 96 #[.slice (some ⟨gt, 0, none⟩) ms.length (ms.length + 2), .slice A ms.length cA] (wr.drewN q) (Quiet (.bool (decide (val (ts.take ms.length) < val ms))) (wr.drewN q)) := fun q =>
        munder_any (some ⟨gt, 0, none⟩) A ms.length ms.length (ms.length + 2) cA (ts.take ms.length) ms (wr.drewN q) htkl.symm htkl.symm htkl (by omega) (hrow.drewN q) (hA'.drewN q) (lt.take _) lm
      have htake : ∀ q, Calls Try.prog 97 #[.slice (some ⟨gt, 0, none⟩) ms.length (ms.length + 2), .slice A ms.length cA] (wr.drewN q) (DoneWhl gt (takeTo ts 0 ms ms.length).1 (wr.drewN q)) := fun q =>
        mtake_any ts ms gt 0 ms.length (ms.length + 2) ms.length cA A (wr.drewN q) (hw.drewN q) (hA'.drewN q) (Off.new hA hgtB) rfl rfl (by omega) (by rw [htl.out]; omega) lt lm
      have HUN := Lib.hid hun
      have HTK := Lib.hid htake
      have HTKL := Lib.hid htkl
      have HTL := Lib.hid hTL
      have HLAST := Lib.hid hlast
      have HMR := Lib.hid hmr
      clear hun htake htkl htn hTL hlast hmr
      by_cases hz : tn = 0
      · by_cases hlt2 : val (ts.take ms.length) < val ms
        · have hd : decide (val (ts.take ms.length) < val ms) = true := by simpa using hlt2
          rw [hd] at HUN
          have hres := Lib.hid (show val (ts.take ms.length) = mred (val ms) ninv (val ys) xs by rw [HMR.out, if_neg (by rw [p2 hz]; omega), p2 hz])
          have hne : ((tn : Int) != 0) = false := by rw [hz]; rfl
          clear p1 p2 hz hd hlt2
          go_wp2_with fail
          go_quiet ((go_at_call 96; exact Calls.quiet_of (HUN.out _)))
          have hbelq := below_drewN hbel nq
          have hO := (Own.of_blk (hw.drewN nq).blk hgtB).take ms.length
          go_wp2_with fail
          go_ret
          exact ⟨ts.take ms.length, HTKL.out, lt.take _, hres.out, _, ms.length, by rw [HTKL.out]; rfl, by rw [HTKL.out]; exact Nat.le_refl _, by simp only [maxLen]; omega, hO, hbelq⟩
        · have hd : decide (val (ts.take ms.length) < val ms) = false := by simpa using hlt2
          rw [hd] at HUN
          have hle : val ms ≤ val ts := by rw [p2 hz]; omega
          have hres := Lib.hid (show val ((takeTo ts 0 ms ms.length).1.take ms.length) = mred (val ms) ninv (val ys) xs by rw [HMR.out, if_pos hle, HLAST.out hle])
          have hne : ((tn : Int) != 0) = false := by rw [hz]; rfl
          clear p1 p2 hz hd hlt2 hle
          go_wp2_with fail
          go_quiet ((go_at_call 96; exact Calls.quiet_of (HUN.out _)))
          replace h0' : (wr.drewN nq).cell? ⟨g, 0, none⟩ = some (.slice A ms.length cA) := h0'
          have hbelq := below_drewN hbel nq
          have HTQ := Lib.hid (fun q => by have := HTK.out (nq + q); rw [← World.drewN_drewN] at this; exact this : ∀ q, Calls Try.prog 97 #[.slice (some ⟨gt, 0, none⟩) ms.length (ms.length + 2), .slice A ms.length cA] ((wr.drewN nq).drewN q) (DoneWhl gt (takeTo ts 0 ms ms.length).1 ((wr.drewN nq).drewN q)))
          clear HTK hbel hw hcn hA' hrow
          generalize wr.drewN nq = w6 at *
          go_wp2_with fail
          refine wp_region_still_tail 7 (by kernel_rfl) (by kernel_rfl) ?_
          simp only [List.take_succ_cons, List.take_zero, List.drop_succ_cons, List.drop_zero]
          show wpStill Try.prog _ w6.drew (fun a' => wpList Try.prog _ _ _ a' w6.drew) _ _
          have HT2 := Lib.hid (show Calls Try.prog 97 #[.slice (some ⟨gt, 0, none⟩) ms.length (ms.length + 2), .slice A ms.length cA] w6.drew (DoneWhl gt (takeTo ts 0 ms ms.length).1 w6.drew) from HTQ.out 1)
          have hbel7 : Below w.heap.size w w6.drew := below_drewN hbelq 1
          replace h0' : w6.drew.cell? ⟨g, 0, none⟩ = some (.slice A ms.length cA) := h0'
          clear HTQ hbelq
          generalize w6.drew = w7 at *
          repeat still_step
          refine wpStill_nil ?_
          go_wp2_with fail
          refine HT2.out.mono ?_
          rintro e w8 ⟨rfl, hw8, hg8⟩
          have hbel8 := below_only hbel7 hg8 hbel7.size hgtB
          clear HT2 hbel7 hg8 h0'
          go_wp2_with fail
          have hlr := Lib.hid (show ((takeTo ts 0 ms ms.length).1.take ms.length).length = ms.length by rw [List.length_take, HTL.out]; omega)
          have hO := (Own.of_blk hw8.blk hgtB).take ms.length
          go_ret
          exact ⟨_, hlr.out, hTM.take _, hres.out, _, ms.length, by rw [hlr.out]; rfl, by rw [hlr.out]; exact Nat.le_refl _, by simp only [maxLen]; omega, hO, hbel8⟩
      · have hle : val ms ≤ val ts := p1 hz
        have hres := Lib.hid (show val ((takeTo ts 0 ms ms.length).1.take ms.length) = mred (val ms) ninv (val ys) xs by rw [HMR.out, if_pos hle, HLAST.out hle])
        have hne : ((tn : Int) != 0) = true := by simpa using hz
        clear p1 p2 hz hle
        · go_wp2_with fail
          go_quiet (fail)
          replace h0' : (wr.drewN nq).cell? ⟨g, 0, none⟩ = some (.slice A ms.length cA) := h0'
          have hbelq := below_drewN hbel nq
          have HTQ := Lib.hid (fun q => by have := HTK.out (nq + q); rw [← World.drewN_drewN] at this; exact this : ∀ q, Calls Try.prog 97 #[.slice (some ⟨gt, 0, none⟩) ms.length (ms.length + 2), .slice A ms.length cA] ((wr.drewN nq).drewN q) (DoneWhl gt (takeTo ts 0 ms ms.length).1 ((wr.drewN nq).drewN q)))
          clear HTK hbel hw hcn hA' hrow
          generalize wr.drewN nq = w6 at *
          go_wp2_with fail
          refine wp_region_still_tail 7 (by kernel_rfl) (by kernel_rfl) ?_
          simp only [List.take_succ_cons, List.take_zero, List.drop_succ_cons, List.drop_zero]
          show wpStill Try.prog _ w6.drew (fun a' => wpList Try.prog _ _ _ a' w6.drew) _ _
          have HT2 := Lib.hid (show Calls Try.prog 97 #[.slice (some ⟨gt, 0, none⟩) ms.length (ms.length + 2), .slice A ms.length cA] w6.drew (DoneWhl gt (takeTo ts 0 ms ms.length).1 w6.drew) from HTQ.out 1)
          have hbel7 : Below w.heap.size w w6.drew := below_drewN hbelq 1
          replace h0' : w6.drew.cell? ⟨g, 0, none⟩ = some (.slice A ms.length cA) := h0'
          clear HTQ hbelq
          generalize w6.drew = w7 at *
          repeat still_step
          refine wpStill_nil ?_
          go_wp2_with fail
          refine HT2.out.mono ?_
          rintro e w8 ⟨rfl, hw8, hg8⟩
          have hbel8 := below_only hbel7 hg8 hbel7.size hgtB
          clear HT2 hbel7 hg8 h0'
          go_wp2_with fail
          have hlr := Lib.hid (show ((takeTo ts 0 ms ms.length).1.take ms.length).length = ms.length by rw [List.length_take, HTL.out]; omega)
          have hO := (Own.of_blk hw8.blk hgtB).take ms.length
          go_ret
          exact ⟨_, hlr.out, hTM.take _, hres.out, _, ms.length, by rw [hlr.out]; rfl, by rw [hlr.out]; exact Nat.le_refl _, by simp only [maxLen]; omega, hO, hbel8⟩
end Go.Proofs.Ytfclpieijbgodaa
