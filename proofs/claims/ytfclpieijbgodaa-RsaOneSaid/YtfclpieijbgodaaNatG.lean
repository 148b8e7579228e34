/-
  nat.Sub, nat.Mul, nat.shift: differences, products, and numbers times a power of two.
-/
import Derived.Test.YtfclpieijbgodaaNum3
namespace Go.Proofs.Ytfclpieijbgodaa
set_option linter.unusedVariables false
set_option linter.unusedSimpArgs false
open Go.RowKit

theorem gives2_none (k : IntKind) (er : Int) (w w' : World) (h : Below w.heap.size w w') : Gives2 k [] er w (.returned (.tuple #[.slice none 0 0, .int .i64 er])) w' :=
  ⟨none, 0, rfl, Nat.le_refl _, Nat.zero_le _, Own.nil _ _ _ _, h⟩

set_option maxHeartbeats 400000 in
theorem sub_ok (A B : Option Addr) (n m c d : Nat) (xs ys : List Nat) (w : World) (hn : n = xs.length) (hm : m = ys.length) (hl : n ≤ 70000) (hl' : m ≤ 70000) (hx : Rd .u32 w A xs) (hy : Rd .u32 w B ys) (lx : Lim 4294967296 xs) (ly : Lim 4294967296 ys)
    (r1 : isRight xs = true) (r2 : isRight ys = true) (hle : val ys ≤ val xs) :
    Calls Try.prog 20 #[.slice A n c, .slice B m d] w (Gives2 .u32 (limbs (val xs - val ys)) 0 w) := by
  subst hn
  subst hm
  have c1 := isRight_canon lx r1
  have c2 := isRight_canon ly r2
  have hlen : ys.length ≤ xs.length := by
    rcases Nat.lt_or_ge xs.length ys.length with h | h
    · have := val_lt_of_len lx c2 h; omega
    · exact h
  have hcm : ¬ cmpN (val xs) (val ys) < 0 := by rw [cmpN_neg]; omega
  have hcb := cmpN_bd (val xs) (val ys)
  obtain ⟨cm, hcmE⟩ : ∃ cm, cm = cmpN (val xs) (val ys) := ⟨_, rfl⟩
  rw [← hcmE] at hcm hcb
  have HCM := Lib.hid hcmE
  have HT := Lib.hid (takeTo_sub (off := 0) (n := xs.length) (by omega) lx ly hlen (by simpa using hle))
  have HV := Lib.hid (show val (takeTo xs 0 ys xs.length).1 = val xs - val ys by have := HT.out.2; simpa using this)
  have hl3 := takeTo_lim xs 0 ys xs.length lx
  have hll := takeTo_length xs 0 ys xs.length
  have HLL := Lib.hid hll
  clear hcmE hle hll
  go_enter Try.func20, Try.ntmps20
  go_wp2_with fail
  refine (right_any _ _ c xs _ rfl (by omega) hx).mono ?_
  rintro e w' ⟨rfl, rfl⟩
  go_wp2_with fail
  refine (right_any _ _ d ys _ rfl (by omega) hy).mono ?_
  rintro e w' ⟨rfl, rfl⟩
  go_wp2_with fail
  refine (cmp_any _ _ _ _ c d xs ys _ rfl rfl hl hl' hx hy c1 c2).mono ?_
  rintro e w' ⟨rfl, q, rfl⟩
  rw [← HCM.out]
  go_wp2_with (at_builtin; refine wpList_append_lit _ rfl (.tmp 21) (.tmp 22) _ rfl w 33 .u32 4 Try.underlying22 info_u32 _ _ rfl (World.ownsRow_made (w.drewN q) #[] 0 (Nat.le_refl _) (Nat.zero_le _) rfl) _ xs.length _ xs rfl rfl (hx.alloc _) ((below_drewN (Below.refl _ _) q).alloc (Nat.le_refl _) _) (by omega) (by decide) ?_; intro g c' w1 hB hbk hc1 hc2 hbel)
  have hyw := hy.below hbel
  refine (take_any xs ys g 0 xs.length c' ys.length d _ _ hbk hyw (Off.new hy hB) rfl (by omega) hlen (by omega) lx ly).mono ?_
  rintro e w2 ⟨rfl, hb2, hg2⟩
  have hbel2 := below_only hbel hg2 hbel.size hB
  go_wp2_with fail
  refine (trim_any _ xs.length c' (takeTo xs 0 ys xs.length).1 _ HLL.out.symm (by omega) (by simp only [maxLen] at hc2; omega) (Rd.of_all hb2) hl3).mono ?_
  rintro e w3 ⟨m, rfl, hm, ht, rfl⟩
  go_wp2_with fail
  go_ret2
  rw [HV.out] at ht
  have hO := (Own.of_blk hb2 hB).take m
  rw [ht.out] at hO
  have hlen : (limbs (val xs - val ys)).length = m := by rw [← ht.out, List.length_take, HLL.out]; omega
  exact ⟨_, m, by rw [hlen]; rfl, by rw [hlen]; exact Nat.le_refl _, by simp only [maxLen]; omega, hO, hbel2⟩

set_option maxHeartbeats 400000 in
theorem sub_arg (A B : Option Addr) (n m c d : Nat) (xs ys : List Nat) (w : World) (hn : n = xs.length) (hm : m = ys.length) (hl : n ≤ 70000) (hl' : m ≤ 70000) (hx : Rd .u32 w A xs) (hy : Rd .u32 w B ys) (lx : Lim 4294967296 xs) (ly : Lim 4294967296 ys)
    (h : isRight xs = false ∨ isRight ys = false ∨ val xs < val ys) :
    Calls Try.prog 20 #[.slice A n c, .slice B m d] w (Gives2 .u32 [] 1 w) := by
  subst hn
  subst hm
  cases r1 : isRight xs with
  | false =>
    clear h
    go_enter Try.func20, Try.ntmps20
    go_wp2_with fail
    refine (right_any _ _ c xs _ rfl (by omega) hx).mono ?_
    rintro e w' ⟨rfl, rfl⟩
    go_wp2_with fail
    go_ret2
    exact gives2_none _ _ _ _ (Below.refl _ _)
  | true =>
    cases r2 : isRight ys with
    | false =>
      clear h
      go_enter Try.func20, Try.ntmps20
      go_wp2_with fail
      refine (right_any _ _ c xs _ rfl (by omega) hx).mono ?_
      rintro e w' ⟨rfl, rfl⟩
      go_wp2_with fail
      refine (right_any _ _ d ys _ rfl (by omega) hy).mono ?_
      rintro e w' ⟨rfl, rfl⟩
      go_wp2_with fail
      go_ret2
      exact gives2_none _ _ _ _ (Below.refl _ _)
    | true =>
      have hlt : val xs < val ys := by simpa [r1, r2] using h
      have c1 := isRight_canon lx r1
      have c2 := isRight_canon ly r2
      have hcm : cmpN (val xs) (val ys) < 0 := by rw [cmpN_neg]; exact hlt
      have hcb := cmpN_bd (val xs) (val ys)
      obtain ⟨cm, hcmE⟩ : ∃ cm, cm = cmpN (val xs) (val ys) := ⟨_, rfl⟩
      rw [← hcmE] at hcm hcb
      have HCM := Lib.hid hcmE
      clear h hcmE hlt
      go_enter Try.func20, Try.ntmps20
      go_wp2_with fail
      refine (right_any _ _ c xs _ rfl (by omega) hx).mono ?_
      rintro e w' ⟨rfl, rfl⟩
      go_wp2_with fail
      refine (right_any _ _ d ys _ rfl (by omega) hy).mono ?_
      rintro e w' ⟨rfl, rfl⟩
      go_wp2_with fail
      refine (cmp_any _ _ _ _ c d xs ys _ rfl rfl hl hl' hx hy c1 c2).mono ?_
      rintro e w' ⟨rfl, q, rfl⟩
      rw [← HCM.out]
      go_wp2_with fail
      go_ret2
      exact gives2_none _ _ _ _ (below_drewN (Below.refl _ _) q)

set_option maxHeartbeats 400000 in
theorem mul_arg (A B : Option Addr) (n m c d : Nat) (xs ys : List Nat) (w : World) (hn : n = xs.length) (hm : m = ys.length) (hl : n ≤ 70000) (hl' : m ≤ 70000) (hx : Rd .u32 w A xs) (hy : Rd .u32 w B ys)
    (h : isRight xs = false ∨ isRight ys = false) :
    Calls Try.prog 22 #[.slice A n c, .slice B m d] w (Gives2 .u32 [] 1 w) := by
  subst hn
  subst hm
  cases r1 : isRight xs with
  | false =>
    clear h
    go_enter Try.func22, Try.ntmps22
    go_wp2_with fail
    refine (right_any _ _ c xs _ rfl (by omega) (by first | exact hx | exact hx.alloc _)).mono ?_
    rintro e w' ⟨rfl, rfl⟩
    go_wp2_with fail
    go_ret2
    exact gives2_none _ _ _ _ (by first | exact Below.refl _ _ | exact (Below.refl _ _).alloc (Nat.le_refl _) _)
  | true =>
    have r2 : isRight ys = false := by simpa [r1] using h
    clear h
    go_enter Try.func22, Try.ntmps22
    go_wp2_with fail
    refine (right_any _ _ c xs _ rfl (by omega) (by first | exact hx | exact hx.alloc _)).mono ?_
    rintro e w' ⟨rfl, rfl⟩
    go_wp2_with fail
    refine (right_any _ _ d ys _ rfl (by omega) (by first | exact hy | exact hy.alloc _)).mono ?_
    rintro e w' ⟨rfl, rfl⟩
    go_wp2_with fail
    go_ret2
    exact gives2_none _ _ _ _ (by first | exact Below.refl _ _ | exact (Below.refl _ _).alloc (Nat.le_refl _) _)
set_option maxHeartbeats 400000 in
theorem add_arg (A B : Option Addr) (n m c d : Nat) (xs ys : List Nat) (w : World) (hn : n = xs.length) (hm : m = ys.length) (hl : n ≤ 70000) (hl' : m ≤ 70000) (hx : Rd .u32 w A xs) (hy : Rd .u32 w B ys)
    (h : isRight xs = false ∨ isRight ys = false) :
    Calls Try.prog 18 #[.slice A n c, .slice B m d] w (Gives2 .u32 [] 1 w) := by
  subst hn
  subst hm
  cases r1 : isRight xs with
  | false =>
    clear h
    go_enter Try.func18, Try.ntmps18
    go_wp2_with fail
    refine (right_any _ _ c xs _ rfl (by omega) (by first | exact hx | exact hx.alloc _)).mono ?_
    rintro e w' ⟨rfl, rfl⟩
    go_wp2_with fail
    go_ret2
    exact gives2_none _ _ _ _ (by first | exact Below.refl _ _ | exact (Below.refl _ _).alloc (Nat.le_refl _) _)
  | true =>
    have r2 : isRight ys = false := by simpa [r1] using h
    clear h
    go_enter Try.func18, Try.ntmps18
    go_wp2_with fail
    refine (right_any _ _ c xs _ rfl (by omega) (by first | exact hx | exact hx.alloc _)).mono ?_
    rintro e w' ⟨rfl, rfl⟩
    go_wp2_with fail
    refine (right_any _ _ d ys _ rfl (by omega) (by first | exact hy | exact hy.alloc _)).mono ?_
    rintro e w' ⟨rfl, rfl⟩
    go_wp2_with fail
    go_ret2
    exact gives2_none _ _ _ _ (by first | exact Below.refl _ _ | exact (Below.refl _ _).alloc (Nat.le_refl _) _)
set_option maxHeartbeats 400000 in
theorem refMul_arg (A B : Option Addr) (n m c d : Nat) (xs ys : List Nat) (w : World) (hn : n = xs.length) (hm : m = ys.length) (hl : n ≤ 70000) (hl' : m ≤ 70000) (hx : Rd .u32 w A xs) (hy : Rd .u32 w B ys)
    (h : isRight xs = false ∨ isRight ys = false) :
    Calls Try.prog 23 #[.slice A n c, .slice B m d] w (Gives2 .u32 [] 1 w) := by
  subst hn
  subst hm
  cases r1 : isRight xs with
  | false =>
    clear h
    go_enter Try.func23, Try.ntmps23
    go_wp2_with fail
    refine (refRight_any _ _ c xs _ rfl (by omega) (by first | exact hx | exact hx.alloc _)).mono ?_
    rintro e w' ⟨rfl, rfl⟩
    go_wp2_with fail
    go_ret2
    exact gives2_none _ _ _ _ (by first | exact Below.refl _ _ | exact (Below.refl _ _).alloc (Nat.le_refl _) _)
  | true =>
    have r2 : isRight ys = false := by simpa [r1] using h
    clear h
    go_enter Try.func23, Try.ntmps23
    go_wp2_with fail
    refine (refRight_any _ _ c xs _ rfl (by omega) (by first | exact hx | exact hx.alloc _)).mono ?_
    rintro e w' ⟨rfl, rfl⟩
    go_wp2_with fail
    refine (refRight_any _ _ d ys _ rfl (by omega) (by first | exact hy | exact hy.alloc _)).mono ?_
    rintro e w' ⟨rfl, rfl⟩
    go_wp2_with fail
    go_ret2
    exact gives2_none _ _ _ _ (by first | exact Below.refl _ _ | exact (Below.refl _ _).alloc (Nat.le_refl _) _)
set_option maxHeartbeats 400000 in
theorem refAdd_arg (A B : Option Addr) (n m c d : Nat) (xs ys : List Nat) (w : World) (hn : n = xs.length) (hm : m = ys.length) (hl : n ≤ 70000) (hl' : m ≤ 70000) (hx : Rd .u32 w A xs) (hy : Rd .u32 w B ys)
    (h : isRight xs = false ∨ isRight ys = false) :
    Calls Try.prog 19 #[.slice A n c, .slice B m d] w (Gives2 .u32 [] 1 w) := by
  subst hn
  subst hm
  cases r1 : isRight xs with
  | false =>
    clear h
    go_enter Try.func19, Try.ntmps19
    go_wp2_with fail
    refine (refRight_any _ _ c xs _ rfl (by omega) (by first | exact hx | exact hx.alloc _)).mono ?_
    rintro e w' ⟨rfl, rfl⟩
    go_wp2_with fail
    go_ret2
    exact gives2_none _ _ _ _ (by first | exact Below.refl _ _ | exact (Below.refl _ _).alloc (Nat.le_refl _) _)
  | true =>
    have r2 : isRight ys = false := by simpa [r1] using h
    clear h
    go_enter Try.func19, Try.ntmps19
    go_wp2_with fail
    refine (refRight_any _ _ c xs _ rfl (by omega) (by first | exact hx | exact hx.alloc _)).mono ?_
    rintro e w' ⟨rfl, rfl⟩
    go_wp2_with fail
    refine (refRight_any _ _ d ys _ rfl (by omega) (by first | exact hy | exact hy.alloc _)).mono ?_
    rintro e w' ⟨rfl, rfl⟩
    go_wp2_with fail
    go_ret2
    exact gives2_none _ _ _ _ (by first | exact Below.refl _ _ | exact (Below.refl _ _).alloc (Nat.le_refl _) _)

set_option maxHeartbeats 800000 in
theorem mul_any (A B : Option Addr) (n m c d : Nat) (xs ys : List Nat) (w : World) (hn : n = xs.length) (hm : m = ys.length) (hx : Rd .u32 w A xs) (hy : Rd .u32 w B ys) (lx : Lim 4294967296 xs) (ly : Lim 4294967296 ys)
    (r1 : isRight xs = true) (r2 : isRight ys = true) :
    Calls Try.prog 22 #[.slice A n c, .slice B m d] w (Gives2 .u32 (fitsOf (val xs * val ys)).1 (fitsOf (val xs * val ys)).2 w) := by
  subst hn
  subst hm
  have hl := isRight_len r1
  have hl' := isRight_len r2
  go_enter Try.func22, Try.ntmps22
  go_wp2_with fail
  refine (right_any _ _ c xs _ rfl (by omega) hx).mono ?_
  rintro e w' ⟨rfl, rfl⟩
  go_wp2_with fail
  refine (right_any _ _ d ys _ rfl (by omega) hy).mono ?_
  rintro e w' ⟨rfl, rfl⟩
  go_wp2_with (at_make; refine wpList_make_ints _ rfl _ _ _ rfl .u32 33 4 Try.underlying22 info_u32 _ _ (xs.length + ys.length) _ _ rfl rfl (by omega) (by omega) (by omega) (by omega) ?_; intro g w1 hg hw1 hs1 hb1)
  have hgl : w.heap.size ≤ g := by rw [hg.out]; exact Nat.le_refl _
  go_loopw [25] (fun t wr => ∃ i : Nat, t = .int .i64 i ∧ i ≤ xs.length ∧ Blk .u32 wr g (mulTo xs ys i) ∧ Below w.heap.size w wr) (fun t _ => xs.length - (intOf t).toNat)
  case atStart => exact ⟨0, rfl, Nat.zero_le _, hw1.blk, hb1⟩
  case round =>
    obtain ⟨i, rfl, hi, hbr, hbel⟩ := hrel
    by_cases hlt : i < xs.length
    · obtain ⟨a, hga⟩ := get_of_lt hlt
      obtain ⟨b, o, rfl, hbw, hcl⟩ := ((hx.below hbel).pos hga)
      have hcell := hcl _ a hga
      have hab := lx.get hga
      have hlen := mulTo_length xs ys i
      have hlim := (mulTo_ok lx ly (Nat.le_of_lt hlt)).2.1
      have hfl := foldTo_length (mulTo xs ys i) i ys a ys.length
      obtain ⟨z, hz⟩ := get_of_lt (xs := (foldTo (mulTo xs ys i) i ys a ys.length).1) (i := i + ys.length) (by omega)
      have HS := Lib.hid (mulTo_succ (ys := ys) hga)
      have HZ := Lib.hid hz
      have HL := Lib.hid hlen
      have HFL := Lib.hid hfl
      clear hcl hga hz hlen hfl
      go_wp2_with fail
      refine (fold_any (mulTo xs ys i) ys g i ys.length _ ys.length d _ a _ hbr (hy.below hbel) (Off.new hy hgl) rfl (by omega) (Nat.le_refl _) (by rw [HL.out]; omega) hab hlim ly).mono ?_
      rintro e w2 ⟨rfl, hb2, hg2⟩
      have hbel2 := below_only hbel hg2 hbel.size hgl
      have hc2 := hb2.cell HZ.out
      have hf2 := hb2.frozen HZ.out
      have hs2 := Lib.hid (hb2.set HZ.out (foldTo (mulTo xs ys i) i ys a ys.length).2)
      go_wp2_with fail
      go_roundw
      case rel => exact ⟨i + 1, by go_num, by omega, by rw [HS.out]; exact hs2.out, hbel2.setCell hgl _⟩
      case measure => simp [intOf] <;> omega
    · obtain rfl : i = xs.length := by omega
      obtain ⟨h1, h2, _⟩ := mulTo_ok lx ly (Nat.le_refl xs.length)
      rw [List.take_length] at h1
      have hlen := mulTo_length xs ys xs.length
      have HV := Lib.hid h1
      have HL := Lib.hid hlen
      clear h1 hlen
      go_wp2_with fail
      have hans := answer_any (some ⟨g, 0, none⟩) (xs.length + ys.length) (xs.length + ys.length) (mulTo xs ys xs.length) _ w HL.out.symm (Nat.le_refl _) (by omega) (Own.of_blk hbr hgl) h2 hbel
      rw [HV.out] at hans
      refine hans.mono ?_
      rintro e w2 ⟨A', c', rfl, q1, q2, q3, q4⟩
      go_wp2_with fail
      go_ret2
      exact ⟨A', c', rfl, q1, q2, q3, q4⟩
end Go.Proofs.Ytfclpieijbgodaa
