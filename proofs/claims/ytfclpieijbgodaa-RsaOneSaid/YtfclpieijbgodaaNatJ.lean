/-
  nat.Div: the quotient and the rest.
-/
import Derived.Test.YtfclpieijbgodaaNatI
import Derived.Test.YtfclpieijbgodaaNum5
namespace Go.Proofs.Ytfclpieijbgodaa
set_option linter.unusedVariables false
set_option linter.unusedSimpArgs false
open Go.RowKit

/-- It returns two new slices of these numbers, and an error's number. -/
def Gives3 (q r : List Nat) (er : Int) (w : World) (e : Ending) (w' : World) : Prop :=
  ∃ A c A' c', e = .returned (.tuple #[.slice A q.length c, .slice A' r.length c', .int .i64 er]) ∧ (q.length ≤ c ∧ c ≤ maxLen) ∧ (r.length ≤ c' ∧ c' ≤ maxLen) ∧
    Own .u32 w' w.heap.size A q ∧ Own .u32 w' w.heap.size A' r ∧ Below w.heap.size w w'
theorem gives3_none (er : Int) (w w' : World) (h : Below w.heap.size w w') : Gives3 [] [] er w (.returned (.tuple #[.slice none 0 0, .slice none 0 0, .int .i64 er])) w' :=
  ⟨none, 0, none, 0, rfl, ⟨Nat.le_refl _, Nat.zero_le _⟩, ⟨Nat.le_refl _, Nat.zero_le _⟩, Own.nil _ _ _ _, Own.nil _ _ _ _, h⟩

set_option maxHeartbeats 400000 in
theorem div_arg (A B : Option Addr) (n m c d : Nat) (xs ys : List Nat) (w : World) (hn : n = xs.length) (hm : m = ys.length) (hl : n ≤ 70000) (hl' : m ≤ 70000) (hx : Rd .u32 w A xs) (hy : Rd .u32 w B ys)
    (h : isRight xs = false ∨ isRight ys = false ∨ ys = []) :
    Calls Try.prog 24 #[.slice A n c, .slice B m d] w (Gives3 [] [] 1 w) := by
  subst hn
  subst hm
  cases r1 : isRight xs with
  | false =>
    clear h
    go_enter Try.func24, Try.ntmps24
    go_wp2_with fail
    refine (right_any _ _ c xs _ rfl (by omega) hx).mono ?_
    rintro e w' ⟨rfl, rfl⟩
    go_wp2_with fail
    go_ret3
    exact gives3_none _ _ _ (Below.refl _ _)
  | true =>
    cases r2 : isRight ys with
    | false =>
      clear h
      go_enter Try.func24, Try.ntmps24
      go_wp2_with fail
      refine (right_any _ _ c xs _ rfl (by omega) hx).mono ?_
      rintro e w' ⟨rfl, rfl⟩
      go_wp2_with fail
      refine (right_any _ _ d ys _ rfl (by omega) hy).mono ?_
      rintro e w' ⟨rfl, rfl⟩
      go_wp2_with fail
      go_ret3
      exact gives3_none _ _ _ (Below.refl _ _)
    | true =>
      have he : ys = [] := by simpa [r1, r2] using h
      subst he
      clear h
      go_enter Try.func24, Try.ntmps24
      go_wp2_with fail
      refine (right_any _ _ c xs _ rfl (by omega) hx).mono ?_
      rintro e w' ⟨rfl, rfl⟩
      go_wp2_with fail
      refine (right_any _ 0 d [] _ rfl (by omega) hy).mono ?_
      rintro e w' ⟨rfl, rfl⟩
      rw [r2]
      go_wp2_with fail
      go_ret3
      exact gives3_none _ _ _ (Below.refl _ _)

set_option maxHeartbeats 400000 in
theorem div_less (A B : Option Addr) (n m c d : Nat) (xs ys : List Nat) (w : World) (hn : n = xs.length) (hm : m = ys.length) (hl : n ≤ 70000) (hl' : m ≤ 70000) (hx : Rd .u32 w A xs) (hy : Rd .u32 w B ys) (lx : Lim 4294967296 xs) (ly : Lim 4294967296 ys)
    (r1 : isRight xs = true) (r2 : isRight ys = true) (hlt : val xs < val ys) :
    Calls Try.prog 24 #[.slice A n c, .slice B m d] w (Gives3 (limbs (val xs / val ys)) (limbs (val xs % val ys)) 0 w) := by
  subst hn
  subst hm
  have c1 := isRight_canon lx r1
  have c2 := isRight_canon ly r2
  have h0 : ((ys.length : Int) == 0) = false := by
    have : ys.length ≠ 0 := by
      intro h
      rw [List.eq_nil_of_length_eq_zero h] at hlt
      simp [val] at hlt
    simpa using this
  have HQ := Lib.hid (show limbs (val xs / val ys) = [] by rw [Nat.div_eq_of_lt hlt]; rfl)
  have HR := Lib.hid (show limbs (val xs % val ys) = xs by rw [Nat.mod_eq_of_lt hlt]; exact limbs_val c1)
  have hcm : cmpN (val xs) (val ys) < 0 := by rw [cmpN_neg]; exact hlt
  have hcb := cmpN_bd (val xs) (val ys)
  obtain ⟨cm, hcmE⟩ : ∃ cm, cm = cmpN (val xs) (val ys) := ⟨_, rfl⟩
  rw [← hcmE] at hcm hcb
  have HCM := Lib.hid hcmE
  clear hcmE hlt
  go_enter Try.func24, Try.ntmps24
  go_wp2_with fail
  refine (right_any _ _ c xs _ rfl (by omega) hx).mono ?_
  rintro e w' ⟨rfl, rfl⟩
  go_wp2_with fail
  refine (right_any _ _ d ys _ rfl (by omega) hy).mono ?_
  rintro e w' ⟨rfl, rfl⟩
  go_wp2_with fail
  refine (cmp_any _ _ _ _ c d xs ys _ rfl rfl hl hl' hx hy c1 c2).mono ?_
  rintro e w' ⟨rfl, q, rfl⟩
  rw [← HCM.out]
  go_wp2_with (at_builtin; refine wpList_append_lit _ rfl (.tmp 32) (.tmp 33) _ rfl w 33 .u32 4 Try.underlying22 info_u32 _ _ rfl (World.ownsRow_made (w.drewN q) #[] 0 (Nat.le_refl _) (Nat.zero_le _) rfl) _ xs.length _ xs rfl rfl (hx.alloc _) ((below_drewN (Below.refl _ _) q).alloc (Nat.le_refl _) _) (by omega) (by decide) ?_; intro g c' w1 hB hbk hc1 hc2 hbel)
  go_ret3
  rw [HQ.out, HR.out]
  exact ⟨none, 0, _, c', rfl, ⟨Nat.le_refl _, Nat.zero_le _⟩, ⟨hc1, hc2⟩, Own.nil _ _ _ _, Own.of_blk hbk hB, hbel⟩

theorem rsh_or (x y k : Nat) (hk : k ≤ 32) (hx : x < 4294967296) : bits .or .u32 ((x : Int) / 2 ^ k) ((y : Int) * 2 ^ (32 - k) % 4294967296) = ((x / 2 ^ k + y * 2 ^ (32 - k) % 4294967296 : Nat) : Int) := by
  have e1 : ((x : Int) / 2 ^ k) = ((x / 2 ^ k : Nat) : Int) := by simp
  have e2 : ((y : Int) * 2 ^ (32 - k) % 4294967296) = ((y * 2 ^ (32 - k) % 4294967296 : Nat) : Int) := by simp
  rw [e1, e2, u32_or_nat _ _ (Nat.lt_of_le_of_lt (Nat.div_le_self _ _) hx) (Nat.mod_lt _ (by omega)), (rsh_sum hx hk).2]

theorem rsh_div (x k : Nat) : ((x : Int) / 2 ^ k) = ((x / 2 ^ k : Nat) : Int) := by simp
theorem rshTo_succ {cs : List Nat} {n k i x y : Nat} (hx : (rshTo cs n k i)[i]? = some x) (hy : (rshTo cs n k i)[i + 1]? = some y) :
    rshTo cs n k (i + 1) = (rshTo cs n k i).set i (x / 2 ^ k + (if i + 1 < n then y * 2 ^ (32 - k) % 4294967296 else 0)) := by
  rw [rshTo, List.getD_eq_getElem?_getD, List.getD_eq_getElem?_getD, hx, hy]
  rfl
theorem inv_start {u V U p i : Nat} {qs : List Nat} (h : u = U) (hq : qs.length ≤ i) : u + V * (p * val (qs.drop i)) = U := by
  rw [List.drop_of_length_le hq, val, Nat.mul_zero, Nat.mul_zero, Nat.add_zero, h]

set_option maxHeartbeats 3200000 in
theorem div_more (A B : Option Addr) (n m c d : Nat) (xs ys : List Nat) (w : World) (hn : n = xs.length) (hm : m = ys.length) (hx : Rd .u32 w A xs) (hy : Rd .u32 w B ys) (lx : Lim 4294967296 xs) (ly : Lim 4294967296 ys)
    (r1 : isRight xs = true) (r2 : isRight ys = true) (hpos : 0 < val ys) (hge : val ys ≤ val xs) :
    Calls Try.prog 24 #[.slice A n c, .slice B m d] w (Gives3 (limbs (val xs / val ys)) (limbs (val xs % val ys)) 0 w) := by
  subst hn
  subst hm
  have c1 := isRight_canon lx r1
  have c2 := isRight_canon ly r2
  have hl := isRight_len r1
  have hl' := isRight_len r2
  have hyp : 0 < ys.length := by
    rcases Nat.eq_zero_or_pos ys.length with h | h
    · rw [List.eq_nil_of_length_eq_zero h] at hpos
      simp [val] at hpos
    · exact h
  have h0 : ((ys.length : Int) == 0) = false := by
    have : ys.length ≠ 0 := by omega
    simpa using this
  have hlen : ys.length ≤ xs.length := by
    rcases Nat.lt_or_ge xs.length ys.length with h | h
    · have := val_lt_of_len lx c2 h; omega
    · exact h
  obtain ⟨y1, hy1⟩ := get_of_lt (xs := ys) (i := ys.length - 1) (by omega)
  have hy1n : y1 ≠ 0 := last_pos r2 hy1
  have hy1b := ly.get hy1
  obtain ⟨by1, oy1, rfl, _, hcl⟩ := hy.pos hy1
  have hcy := hcl _ y1 hy1
  obtain ⟨k, hk⟩ : ∃ k, k = 32 - nbits y1 := ⟨_, rfl⟩
  have hnd := norm_divisor ly hy1 hy1n
  have hnb := nbits_pos hy1n
  have hnb2 := nbits_limb hy1b
  rw [← hk] at hnd
  have HBL := Lib.hid (show (32 - (Lib.bitLen (y1 : Int).toNat : Int)) = ((k : Nat) : Int) by rw [Int.toNat_natCast, bitLen_nbits y1 (by omega)]; omega)
  obtain ⟨hk32, hVlt, hVlen, hVge⟩ := hnd
  have HVlt := Lib.hid hVlt
  have HVlen := Lib.hid hVlen
  have HVge := Lib.hid hVge
  have hcm : ¬ cmpN (val xs) (val ys) < 0 := by rw [cmpN_neg]; omega
  have hcb := cmpN_bd (val xs) (val ys)
  obtain ⟨cm, hcmE⟩ : ∃ cm, cm = cmpN (val xs) (val ys) := ⟨_, rfl⟩
  rw [← hcmE] at hcm hcb
  have HCM := Lib.hid hcmE
  have HPOS := Lib.hid hpos
  clear hcmE hk hVlt hVlen hVge hpos hge hcl hy1 hy1n hnb hnb2
  go_enter Try.func24, Try.ntmps24
  go_wp2_with fail
  refine (right_any _ _ c xs _ rfl (by omega) hx).mono ?_
  rintro e w' ⟨rfl, rfl⟩
  go_wp2_with fail
  refine (right_any _ _ d ys _ rfl (by omega) hy).mono ?_
  rintro e w' ⟨rfl, rfl⟩
  go_wp2_with fail
  refine (cmp_any _ _ _ _ c d xs ys _ rfl rfl (by omega) (by omega) hx hy c1 c2).mono ?_
  rintro e w' ⟨rfl, q, rfl⟩
  rw [← HCM.out]
  go_wp2_with fail
  refine (Try.bits_LeadingZeros32 y1 _ (by omega) (by omega)).mono ?_
  rintro e w' ⟨rfl, rfl⟩
  rw [HBL.out]
  go_wp2_with fail
  refine (shift_any A _ c k xs _ rfl (by omega) (hx.drewN q) lx hk32).mono ?_
  rintro e w1 ⟨gu, rfl, hgu, hbu, hbel1⟩
  have hbelA : Below w.heap.size w w1 := (below_drewN (Below.refl _ _) q).trans hbel1
  go_wp2_with fail
  refine (shift_any _ _ d k ys _ rfl (by omega) (hy.below hbelA) ly hk32).mono ?_
  rintro e w2 ⟨gv, rfl, hgv, hbv, hbel2⟩
  have hbelB : Below w.heap.size w w2 := hbelA.trans (hbel2.mono hbelA.size)
  obtain ⟨hs1, hs2, _, _⟩ := shiftTo_ok ly (Nat.le_of_lt hk32) (Nat.le_refl ys.length)
  obtain ⟨hsx1, hsx2, _, _⟩ := shiftTo_ok lx (Nat.le_of_lt hk32) (Nat.le_refl xs.length)
  rw [List.take_length] at hs1 hsx1
  have HS1 := Lib.hid hs1
  have HSX1 := Lib.hid hsx1
  have HSX3 := Lib.hid (shiftTo_length xs k xs.length)
  have hbu2 := hbu.below hbel2
  have hguv : gu ≠ gv := by have := hbu.lt; omega
  have hgl : w.heap.size ≤ gu := hgu
  have hglv : w.heap.size ≤ gv := Nat.le_trans hbelA.size hgv
  clear hs1 hsx1 hbu hgv
  go_wp2_with fail
  refine (trim_any _ _ _ (shiftTo ys k ys.length) _ (by rw [shiftTo_length]) (Nat.le_refl _) (by omega) (Rd.of_all hbv) hs2).mono ?_
  rintro e w3 ⟨mv, rfl, hmv, htv, rfl⟩
  have hmv2 : mv = ys.length := by rw [← HVlen.out, ← HS1.out, ← htv.out, List.length_take, shiftTo_length]; omega
  subst hmv2
  have hrv := (Rd.of_all hbv).take ys.length
  rw [htv.out, HS1.out] at hrv
  go_wp2_with (at_make; refine wpList_make_ints _ rfl _ _ _ rfl .u32 33 4 Try.underlying22 info_u32 _ _ (xs.length - ys.length + 1) _ _ rfl rfl (by omega) (by omega) (by omega) (by omega) ?_; intro gq w4 hg4 hw4 hs4 hb4)
  have hb4' : Below w.heap.size w w4 := hbelB.trans (hb4.mono hbelB.size)
  have hgq : w.heap.size ≤ gq := by rw [hg4.out]; exact hbelB.size
  have hbu4 := hbu2.below hb4
  have hrv4 := hrv.below hb4
  have hguq : gu ≠ gq := by have := hbu2.lt; rw [hg4.out]; omega
  have hgvq : gv ≠ gq := by have := hbv.lt; rw [hg4.out]; omega
  have hbegin := div_begin (V := val ys * 2 ^ k) lx HSX1.out (by omega) hlen hyp HSX3.out hsx2 HVge.out
  obtain ⟨V, hV⟩ : ∃ V, V = val ys * 2 ^ k := ⟨_, rfl⟩
  obtain ⟨U, hU⟩ : ∃ U, U = val xs * 2 ^ k := ⟨_, rfl⟩
  rw [← hV] at hbegin hrv4
  have HV := Lib.hid hV
  have HU := Lib.hid hU
  have HBG := Lib.hid hbegin
  have HVl : Hid ((limbs V).length = ys.length) := by rw [hV]; exact HVlen.out
  have HQL := Lib.hid (show (List.replicate (xs.length - ys.length + 1) 0).length = xs.length - ys.length + 1 from List.length_replicate)
  have HINV := Lib.hid (inv_start (V := V) (p := 4294967296 ^ (xs.length - ys.length + 1)) (i := xs.length - ys.length + 1) (HSX1.out.trans hU.symm) (Nat.le_of_eq HQL.out))
  clear hV hU hbegin hbu2 hrv hbv hb4 hbel1 hbel2 hbelA hbelB
  go_loopw [10] (fun t wr => ∃ i us qs, t = .int .i64 (((i : Nat) : Int) - 1) ∧ i ≤ xs.length - ys.length + 1 ∧ Hid (us.length = xs.length + 1) ∧ Hid (qs.length = xs.length - ys.length + 1) ∧ Lim 4294967296 us ∧ Lim 4294967296 qs ∧ Blk .u32 wr gu us ∧ Blk .u32 wr gq qs ∧ Rd .u32 wr (some ⟨gv, 0, none⟩) (limbs V) ∧ Hid (val (us.drop i) < V) ∧ Hid (val us + V * (4294967296 ^ i * val (qs.drop i)) = U) ∧ Below w.heap.size w wr) (fun t _ => (intOf t + 1).toNat)
  case atStart => exact ⟨xs.length - ys.length + 1, _, _, by go_num, Nat.le_refl _, HSX3, HQL, hsx2, Lim.replicate (by omega), hbu4, hw4.blk, hrv4, HBG, HINV, hb4'⟩
  case round =>
    obtain ⟨i, us, qs, rfl, hi, hul, hql, hum, hqm, hbur, hbqr, hrvr, hinv1, hinv2, hbelr⟩ := hrel
    rcases Nat.eq_zero_or_pos i with rfl | hip
    · rw [show (((0 : Nat) : Int) - 1) = (-1 : Int) from rfl]
      have hus := hinv1.out
      rw [List.drop_zero] at hus
      have HUS := Lib.hid hus
      have HE := Lib.hid (show val qs = U / V ∧ val us = U % V from div_end hus (by have := hinv2.out; simpa using this))
      clear hus
      have hVB : V < 4294967296 ^ ys.length := by rw [HV.out]; exact HVlt.out
      have HVB := Lib.hid hVB
      have HRV := Lib.hid (rshTo_val (cs := us) (n := ys.length) (k := k) (Nat.le_of_lt hk32) (by rw [hul.out]; omega) hyp)
      clear hVB
      go_wp2_with fail
      go_loopw [83] (fun t wr' => ∃ i, t = .int .i64 ((i : Nat) : Int) ∧ i ≤ ys.length ∧ Blk .u32 wr' gu (rshTo us ys.length k i) ∧ Blk .u32 wr' gq qs ∧ Below w.heap.size w wr') (fun t _ => ys.length - (intOf t).toNat)
      case atStart => exact ⟨0, rfl, Nat.zero_le _, hbur, hbqr, hbelr⟩
      case round =>
        obtain ⟨i, rfl, hi, hbr2, hbq2, hbel2⟩ := hrel
        by_cases hlt : i < ys.length
        · obtain ⟨x, hgx⟩ := get_of_lt (xs := rshTo us ys.length k i) (i := i) (by rw [rshTo_length, hul.out]; omega)
          obtain ⟨y, hgy⟩ := get_of_lt (xs := rshTo us ys.length k i) (i := i + 1) (by rw [rshTo_length, hul.out]; omega)
          have hlim2 := rshTo_lim (n := ys.length) hum (Nat.le_of_lt hk32) i
          have hxb := hlim2.get hgx
          have hyb := hlim2.get hgy
          have hcx := hbr2.cell hgx
          have hfx := hbr2.frozen hgx
          have hcy2 := hbr2.cell hgy
          have HX := Lib.hid hgx
          have HS := Lib.hid (rshTo_succ (n := ys.length) hgx hgy)
          have hdx := Lib.hid (rsh_div x k)
          have hdp : (0 : Int) ≤ (x : Int) / 2 ^ k := by rw [rsh_div]; exact Int.natCast_nonneg _
          have hdl : (x : Int) / 2 ^ k ≤ 4294967295 := by
            rw [rsh_div]
            have h5 : x / 2 ^ k ≤ x := Nat.div_le_self _ _
            generalize x / 2 ^ k = z at h5
            omega
          clear hgx hgy
          by_cases hlt2 : i + 1 < ys.length
          · by_cases hk0 : 0 < k
            · go_wp2_with fail
              go_region
              go_wp2_with fail
              go_roundw
              case rel =>
                refine ⟨i + 1, by go_num, by omega, ?_, ?_, ?_⟩
                · rw [rsh_or x y k (Nat.le_of_lt hk32) hxb, HS.out, if_pos hlt2, hdx.out]
                  have h9 := (hbr2.set HX.out (x / 2 ^ k)).set (i := i) (x := x / 2 ^ k) (by rw [List.getElem?_set_self (List.getElem?_eq_some_iff.1 HX.out).1]) (x / 2 ^ k + y * 2 ^ (32 - k) % 4294967296)
                  rw [List.set_set] at h9
                  exact h9.drew
                · exact ((hbq2.far (p := ⟨gu, i, none⟩) (Ne.symm hguq) _).far (p := ⟨gu, i, none⟩) (Ne.symm hguq) _).drew
                · exact ((hbel2.setCell hgl _).setCell hgl _).drew
              case measure => simp [intOf] <;> omega
            · have HS0 := Lib.hid (show rshTo us ys.length k (i + 1) = (rshTo us ys.length k i).set i (x / 2 ^ k) by
                have hkz : k = 0 := by omega
                rw [HS.out, if_pos hlt2, hkz]
                simp)
              have hk1 : k ≤ 0 := by omega
              go_wp2_with fail
              go_roundw
              case rel =>
                refine ⟨i + 1, by go_num, by omega, ?_, hbq2.far (p := ⟨gu, i, none⟩) (Ne.symm hguq) _, hbel2.setCell hgl _⟩
                rw [HS0.out, hdx.out]
                exact hbr2.set HX.out _
              case measure => simp [intOf] <;> omega
          · have HS0 := Lib.hid (show rshTo us ys.length k (i + 1) = (rshTo us ys.length k i).set i (x / 2 ^ k) by rw [HS.out, if_neg hlt2]; simp)
            go_wp2_with fail
            go_roundw
            case rel =>
              refine ⟨i + 1, by go_num, by omega, ?_, hbq2.far (p := ⟨gu, i, none⟩) (Ne.symm hguq) _, hbel2.setCell hgl _⟩
              rw [HS0.out, hdx.out]
              exact hbr2.set HX.out _
            case measure => simp [intOf] <;> omega
        · obtain rfl : i = ys.length := by omega
          have HQ := Lib.hid (show val qs = val xs / val ys by
            rw [HE.out.1, HU.out, HV.out, Nat.mul_div_mul_right _ _ (Nat.two_pow_pos k)])
          have HR := Lib.hid (show val ((rshTo us ys.length k ys.length).take ys.length) = val xs % val ys by
            rw [HRV.out]
            have h5 := HE.out.2
            have h6 : val us < 4294967296 ^ ys.length := by
              have h7 := HUS.out
              have h8 := HVB.out
              omega
            rw [(drop_high h6).1, h5, HU.out, HV.out, Nat.mul_mod_mul_right, Nat.mul_div_cancel _ (Nat.two_pow_pos k)])
          have hlim2 := rshTo_lim (n := ys.length) hum (Nat.le_of_lt hk32) ys.length
          have HLR := Lib.hid (show ((rshTo us ys.length k ys.length).take ys.length).length = ys.length by rw [List.length_take, rshTo_length, hul.out]; omega)
          go_wp2_with fail
          refine (trim_any _ _ _ qs _ hql.out.symm (Nat.le_refl _) (by omega) (Rd.of_all hbq2) hqm).mono ?_
          rintro e w6 ⟨mq, rfl, hmq, htq, rfl⟩
          rw [HQ.out] at htq
          have hOq := (Own.of_blk hbq2 hgq).take mq
          rw [htq.out] at hOq
          have HLQ := Lib.hid (show (limbs (val xs / val ys)).length = mq by rw [← htq.out, List.length_take, hql.out]; omega)
          have hRr := Rd.of_blk hbr2 0 ys.length
          rw [List.drop_zero] at hRr
          go_wp2_with fail
          refine (trim_any _ _ _ ((rshTo us ys.length k ys.length).take ys.length) _ HLR.out.symm (by omega) (by omega) hRr (hlim2.take _)).mono ?_
          rintro e w6 ⟨mr, rfl, hmr, htr, rfl⟩
          rw [HR.out, List.take_take, Nat.min_eq_left hmr] at htr
          have hOr := (Own.of_blk hbr2 hgl).take mr
          rw [htr.out] at hOr
          have HLR2 := Lib.hid (show (limbs (val xs % val ys)).length = mr by rw [← htr.out, List.length_take, rshTo_length, hul.out]; omega)
          go_wp2_with fail
          go_ret3
          exact ⟨_, mq, _, mr, by rw [HLQ.out, HLR2.out]; rfl, ⟨Nat.le_of_eq HLQ.out, by simp only [maxLen]; omega⟩, ⟨Nat.le_of_eq HLR2.out, by simp only [maxLen]; omega⟩, hOq, hOr, hbel2⟩
    · obtain ⟨j, rfl⟩ : ∃ j, i = j + 1 := ⟨i - 1, by omega⟩
      have hk1 : (((j + 1 : Nat) : Int) - 1) = (j : Int) := by omega
      rw [hk1]
      clear hk1
      obtain ⟨z, hz⟩ := get_of_lt (xs := us) (i := j) (by rw [hul.out]; omega)
      obtain ⟨z1, hz1⟩ := get_of_lt (xs := qs) (i := j) (by rw [hql.out]; omega)
      have hPj := div_high hinv1.out hz (hum.get hz)
      have HPJ := Lib.hid hPj
      have HZ1 := Lib.hid hz1
      have hVpos : 0 < V := by have := hinv1.out; omega
      clear hPj hz hz1
      go_wp2_with fail
      have hdig := digit_any us (limbs V) gu j (xs.length + 1 - j) ys.length (some ⟨gv, 0, none⟩) wr hbur hrvr (Off.of_ne (Ne.symm hguv)) (by rw [HVl.out]; omega) (by rw [HVl.out]; exact hyp) (by rw [HVl.out, hul.out]; omega) (by rw [HVl.out]; omega) (by omega) hum (canon_limbs V) (by rw [val_limbs]; exact HPJ.out)
      rw [HVl.out] at hdig
      rw [show j + ys.length + 1 - j = ys.length + 1 by omega]
      refine hdig.mono ?_
      rintro e w5 ⟨us', rfl, hbu5, hl5, hm5, ht5, hd5, hg5⟩
      rw [val_limbs] at hd5 ⊢
      have hbq5 := hbqr.grown hg5 (by intro e; injection e with e; exact hguq e)
      have hrv5 := hrvr.grown hg5 (fun g' e => by injection e with e; subst e; exact Off.of_ne (Ne.symm hguv))
      have hbel5 := below_only hbelr hg5 hbelr.size hgl
      have hst := div_step (us := us) (us' := us') (qs := qs) (j := j) (V := V) (U := U) (by rw [hul.out]; omega) (by rw [hql.out]; omega) hinv2.out ht5 hl5 hd5
      have HST := Lib.hid hst
      have HL5 := Lib.hid (hl5.trans hul.out)
      have HD5 := Lib.hid (show val (us'.drop j) < V by rw [hd5]; exact Nat.mod_lt _ hVpos)
      have hqd : val (us.drop j) / V < 4294967296 := by rw [Nat.div_lt_iff_lt_mul hVpos]; exact HPJ.out
      have hcz := hbq5.cell HZ1.out
      have hfz := hbq5.frozen HZ1.out
      have hsz := Lib.hid (hbq5.set HZ1.out (val (us.drop j) / V))
      clear hst hl5 hd5 ht5 hdig
      go_wp2_with fail
      go_roundw
      case rel => exact ⟨j, us', _, by go_num, by omega, HL5, by show _ = _; rw [List.length_set, hql.out], hm5, hqm.set hqd, hbu5.far (p := ⟨gq, j, none⟩) hguq _, hsz.out, hrv5.setCell (Off.of_ne hgvq) _, HD5, HST, hbel5.setCell hgq _⟩
      case measure => simp [intOf] <;> omega
end Go.Proofs.Ytfclpieijbgodaa
