/-
  Whether two lists of limbs are the same, and which of two numbers is above, in the program's words and in the reference's.
-/
import Derived.Test.YtfclpieijbgodaaNatA
import Derived.Test.YtfclpieijbgodaaPost
namespace Go.Proofs.Ytfclpieijbgodaa
set_option linter.unusedVariables false
set_option linter.unusedSimpArgs false
open Go.RowKit

set_option maxHeartbeats 400000 in
theorem same_any (A B : Option Addr) (n m c d : Nat) (xs ys : List Nat) (w : World) (hn : n = xs.length) (hm : m = ys.length) (hl : n ≤ 70000) (hl' : m ≤ 70000) (hx : Rd .u32 w A xs) (hy : Rd .u32 w B ys) :
    Calls Try.prog 26 #[.slice A n c, .slice B m d] w (Quiet (.bool (decide (xs = ys))) w) := by
  subst hn
  subst hm
  by_cases hlen : xs.length = ys.length
  · have hne : ((xs.length : Int) != (ys.length : Int)) = false := by simp [hlen]
    have HL := Lib.hid hlen
    clear hlen
    go_enter Try.func26, Try.ntmps26
    go_wp2
    go_loopw [5] (fun t wr => ∃ k q : Nat, t = .int .i64 k ∧ k ≤ xs.length ∧ Hid (xs.take k = ys.take k) ∧ wr = w.drewN q) (fun t _ => xs.length - (intOf t).toNat)
    case atStart => exact ⟨0, 0, rfl, Nat.zero_le _, by simp [Hid], rfl⟩
    case round =>
      obtain ⟨k, q, rfl, hk, ht, rfl⟩ := hrel
      by_cases hlt : k < xs.length
      · have hlt' : k < ys.length := by have := HL.out; omega
        obtain ⟨x, hgx⟩ := get_of_lt hlt
        obtain ⟨y, hgy⟩ := get_of_lt hlt'
        obtain ⟨b, o, rfl, hbw, hcx⟩ := hx.pos hgx
        obtain ⟨b', o', rfl, hbw', hcy⟩ := hy.pos hgy
        have hcellx := hcx k x hgx
        have hcelly := hcy k y hgy
        have HX := Lib.hid hgx
        have HY := Lib.hid hgy
        clear hcx hcy hgx hgy
        by_cases hxy : x = y
        · subst hxy
          go_wp2
          go_quiet (fail)
          go_wp2
          go_roundw
          case rel => exact ⟨k + 1, _, by go_num, by omega, by
            show _ = _
            rw [List.take_add_one, List.take_add_one, ht.out, HX.out, HY.out], rfl⟩
          case measure => simp [intOf] <;> omega
        · have hxy' : ((x : Int) != (y : Int)) = true := by simp; omega
          have hres : decide (xs = ys) = false := by
            simp only [decide_eq_false_iff_not]
            rintro rfl
            have h1 := HX.out
            rw [HY.out] at h1
            injection h1 with h1
            exact hxy h1.symm
          have HR := Lib.hid hres
          clear hres
          go_wp2
          go_quiet (fail)
          go_wp2
          go_ret
          first | exact Quiet.mk (congrArg Value.bool HR.out.symm) _ | exact Quiet.mk2 (congrArg Value.bool HR.out.symm) _ _ | exact Quiet.mk3 (congrArg Value.bool HR.out.symm) _ _ _
      · have hres : decide (xs = ys) = true := by
          have h1 := ht.out
          have h2 := HL.out
          rw [List.take_of_length_le (by omega), List.take_of_length_le (by omega)] at h1
          simpa using h1
        have HR := Lib.hid hres
        clear hres
        go_wp2
        go_ret
        first | exact Quiet.mk (congrArg Value.bool HR.out.symm) _ | exact Quiet.mk2 (congrArg Value.bool HR.out.symm) _ _ | exact Quiet.mk3 (congrArg Value.bool HR.out.symm) _ _ _
  · have hne : ((xs.length : Int) != (ys.length : Int)) = true := by simp; omega
    have hres : decide (xs = ys) = false := by
      simp only [decide_eq_false_iff_not]
      rintro rfl
      exact hlen rfl
    have HR := Lib.hid hres
    clear hres hlen
    go_enter Try.func26, Try.ntmps26
    go_wp2
    go_ret
    exact Quiet.mk0 (congrArg Value.bool HR.out.symm)

set_option maxHeartbeats 800000 in
theorem cmp_any (A B : Option Addr) (n m c d : Nat) (xs ys : List Nat) (w : World) (hn : n = xs.length) (hm : m = ys.length) (hl : n ≤ 70000) (hl' : m ≤ 70000) (hx : Rd .u32 w A xs) (hy : Rd .u32 w B ys)
    (cx : Canon xs) (cy : Canon ys) :
    Calls Try.prog 61 #[.slice A n c, .slice B m d] w (Quiet (.int .i64 (cmpN (val xs) (val ys))) w) := by
  subst hn
  subst hm
  rcases Nat.lt_trichotomy xs.length ys.length with hlt | hlen | hlt
  · have hne : ((xs.length : Int) != (ys.length : Int)) = true := by simp; omega
    have HR := Lib.hid (cmpN_lt (val_lt_of_len cx.1 cy hlt))
    go_enter Try.func61, Try.ntmps61
    go_wp2
    go_ret
    exact Quiet.mk0 (congrArg (Value.int .i64) HR.out.symm)
  · have hne : ((xs.length : Int) != (ys.length : Int)) = false := by simp [hlen]
    have HL := Lib.hid hlen
    have hle1 : xs.length ≤ ys.length := by omega
    have hle2 : ys.length ≤ xs.length := by omega
    clear hlen
    go_enter Try.func61, Try.ntmps61
    go_wp2
    go_loopw [5] (fun t wr => ∃ k q : Nat, t = .int .i64 ((k : Int) - 1) ∧ k ≤ xs.length ∧ Hid (xs.drop k = ys.drop k) ∧ wr = w.drewN q) (fun t _ => (intOf t + 1).toNat)
    case atStart => exact ⟨xs.length, 0, rfl, Nat.le_refl _, by show _ = _; rw [List.drop_of_length_le (Nat.le_refl _), List.drop_of_length_le (by omega)], rfl⟩
    case round =>
      obtain ⟨k, q, rfl, hk, ht, rfl⟩ := hrel
      rcases Nat.eq_zero_or_pos k with rfl | hp
      · have he : xs = ys := by simpa using ht.out
        subst he
        have HR := Lib.hid (cmpN_self (val xs))
        go_wp2
        go_ret
        first | exact Quiet.mk (congrArg (Value.int .i64) HR.out.symm) _ | exact Quiet.mk2 (congrArg (Value.int .i64) HR.out.symm) _ _ | exact Quiet.mk3 (congrArg (Value.int .i64) HR.out.symm) _ _ _
      · obtain ⟨k, rfl⟩ : ∃ j, k = j + 1 := ⟨k - 1, by omega⟩
        have hlt : k < xs.length := by omega
        have hlt' : k < ys.length := by omega
        obtain ⟨x, hgx⟩ := get_of_lt hlt
        obtain ⟨y, hgy⟩ := get_of_lt hlt'
        obtain ⟨b, o, rfl, hbw, hcx⟩ := hx.pos hgx
        obtain ⟨b', o', rfl, hbw', hcy⟩ := hy.pos hgy
        have hcellx := hcx k x hgx
        have hcelly := hcy k y hgy
        have hk1 : (((k + 1 : Nat) : Int) - 1) = (k : Int) := by omega
        rw [hk1]
        have HX := Lib.hid hgx
        have HY := Lib.hid hgy
        clear hcx hcy hgx hgy hk1
        rcases Nat.lt_trichotomy x y with hxy | hxy | hxy
        · have hd : decide ((x : Int) < (y : Int)) = true := by simpa using hxy
          have HR := Lib.hid (cmpN_lt (val_lt_of cx.1 HX.out HY.out ht.out hxy))
          go_wp2
          go_quiet (fail)
          go_wp2
          go_ret
          first | exact Quiet.mk (congrArg (Value.int .i64) HR.out.symm) _ | exact Quiet.mk2 (congrArg (Value.int .i64) HR.out.symm) _ _ | exact Quiet.mk3 (congrArg (Value.int .i64) HR.out.symm) _ _ _
        · subst hxy
          have hd : decide ((x : Int) < (x : Int)) = false := by simp
          go_wp2
          go_quiet (fail)
          go_wp2
          go_quiet (fail)
          go_wp2
          go_roundw
          case rel => exact ⟨k, _, by go_num, by omega, by
            have h1 := HX.out
            have h2 := HY.out
            rw [List.getElem?_eq_getElem hlt] at h1
            rw [List.getElem?_eq_getElem hlt'] at h2
            injection h1 with h1
            injection h2 with h2
            show _ = _
            rw [List.drop_eq_getElem_cons hlt, List.drop_eq_getElem_cons hlt', h1, h2, ht.out], rfl⟩
          case measure => simp [intOf] <;> omega
        · have hd : decide ((x : Int) < (y : Int)) = false := decide_eq_false (by omega)
          have HR := Lib.hid (cmpN_gt (val_lt_of cy.1 HY.out HX.out ht.out.symm hxy))
          go_wp2
          go_quiet (fail)
          go_wp2
          go_quiet (fail)
          go_wp2
          go_ret
          first | exact Quiet.mk (congrArg (Value.int .i64) HR.out.symm) _ | exact Quiet.mk2 (congrArg (Value.int .i64) HR.out.symm) _ _ | exact Quiet.mk3 (congrArg (Value.int .i64) HR.out.symm) _ _ _
  · have hne : ((xs.length : Int) != (ys.length : Int)) = true := by simp; omega
    have HR := Lib.hid (cmpN_gt (val_lt_of_len cy.1 cx hlt))
    go_enter Try.func61, Try.ntmps61
    go_wp2
    go_ret
    exact Quiet.mk0 (congrArg (Value.int .i64) HR.out.symm)
set_option maxHeartbeats 800000 in
theorem refcmp_any (A B : Option Addr) (n m c d : Nat) (xs ys : List Nat) (w : World) (hn : n = xs.length) (hm : m = ys.length) (hl : n ≤ 70000) (hl' : m ≤ 70000) (hx : Rd .u32 w A xs) (hy : Rd .u32 w B ys)
    (cx : Canon xs) (cy : Canon ys) :
    Calls Try.prog 64 #[.slice A n c, .slice B m d] w (Quiet (.int .i64 (cmpN (val xs) (val ys))) w) := by
  subst hn
  subst hm
  rcases Nat.lt_trichotomy xs.length ys.length with hlt | hlen | hlt
  · have hne : ((xs.length : Int) != (ys.length : Int)) = true := by simp; omega
    have HR := Lib.hid (cmpN_lt (val_lt_of_len cx.1 cy hlt))
    go_enter Try.func64, Try.ntmps64
    go_wp2
    go_ret
    exact Quiet.mk0 (congrArg (Value.int .i64) HR.out.symm)
  · have hne : ((xs.length : Int) != (ys.length : Int)) = false := by simp [hlen]
    have HL := Lib.hid hlen
    have hle1 : xs.length ≤ ys.length := by omega
    have hle2 : ys.length ≤ xs.length := by omega
    clear hlen
    go_enter Try.func64, Try.ntmps64
    go_wp2
    go_loopw [5] (fun t wr => ∃ k q : Nat, t = .int .i64 ((k : Int) - 1) ∧ k ≤ xs.length ∧ Hid (xs.drop k = ys.drop k) ∧ wr = w.drewN q) (fun t _ => (intOf t + 1).toNat)
    case atStart => exact ⟨xs.length, 0, rfl, Nat.le_refl _, by show _ = _; rw [List.drop_of_length_le (Nat.le_refl _), List.drop_of_length_le (by omega)], rfl⟩
    case round =>
      obtain ⟨k, q, rfl, hk, ht, rfl⟩ := hrel
      rcases Nat.eq_zero_or_pos k with rfl | hp
      · have he : xs = ys := by simpa using ht.out
        subst he
        have HR := Lib.hid (cmpN_self (val xs))
        go_wp2
        go_ret
        first | exact Quiet.mk (congrArg (Value.int .i64) HR.out.symm) _ | exact Quiet.mk2 (congrArg (Value.int .i64) HR.out.symm) _ _ | exact Quiet.mk3 (congrArg (Value.int .i64) HR.out.symm) _ _ _
      · obtain ⟨k, rfl⟩ : ∃ j, k = j + 1 := ⟨k - 1, by omega⟩
        have hlt : k < xs.length := by omega
        have hlt' : k < ys.length := by omega
        obtain ⟨x, hgx⟩ := get_of_lt hlt
        obtain ⟨y, hgy⟩ := get_of_lt hlt'
        obtain ⟨b, o, rfl, hbw, hcx⟩ := hx.pos hgx
        obtain ⟨b', o', rfl, hbw', hcy⟩ := hy.pos hgy
        have hcellx := hcx k x hgx
        have hcelly := hcy k y hgy
        have hk1 : (((k + 1 : Nat) : Int) - 1) = (k : Int) := by omega
        rw [hk1]
        have HX := Lib.hid hgx
        have HY := Lib.hid hgy
        clear hcx hcy hgx hgy hk1
        rcases Nat.lt_trichotomy x y with hxy | hxy | hxy
        · have hd : decide ((x : Int) < (y : Int)) = true := by simpa using hxy
          have HR := Lib.hid (cmpN_lt (val_lt_of cx.1 HX.out HY.out ht.out hxy))
          go_wp2
          go_quiet (fail)
          go_wp2
          go_ret
          first | exact Quiet.mk (congrArg (Value.int .i64) HR.out.symm) _ | exact Quiet.mk2 (congrArg (Value.int .i64) HR.out.symm) _ _ | exact Quiet.mk3 (congrArg (Value.int .i64) HR.out.symm) _ _ _
        · subst hxy
          have hd : decide ((x : Int) < (x : Int)) = false := by simp
          go_wp2
          go_quiet (fail)
          go_wp2
          go_quiet (fail)
          go_wp2
          go_roundw
          case rel => exact ⟨k, _, by go_num, by omega, by
            have h1 := HX.out
            have h2 := HY.out
            rw [List.getElem?_eq_getElem hlt] at h1
            rw [List.getElem?_eq_getElem hlt'] at h2
            injection h1 with h1
            injection h2 with h2
            show _ = _
            rw [List.drop_eq_getElem_cons hlt, List.drop_eq_getElem_cons hlt', h1, h2, ht.out], rfl⟩
          case measure => simp [intOf] <;> omega
        · have hd : decide ((x : Int) < (y : Int)) = false := decide_eq_false (by omega)
          have HR := Lib.hid (cmpN_gt (val_lt_of cy.1 HY.out HX.out ht.out.symm hxy))
          go_wp2
          go_quiet (fail)
          go_wp2
          go_quiet (fail)
          go_wp2
          go_ret
          first | exact Quiet.mk (congrArg (Value.int .i64) HR.out.symm) _ | exact Quiet.mk2 (congrArg (Value.int .i64) HR.out.symm) _ _ | exact Quiet.mk3 (congrArg (Value.int .i64) HR.out.symm) _ _ _
  · have hne : ((xs.length : Int) != (ys.length : Int)) = true := by simp; omega
    have HR := Lib.hid (cmpN_gt (val_lt_of_len cy.1 cx hlt))
    go_enter Try.func64, Try.ntmps64
    go_wp2
    go_ret
    exact Quiet.mk0 (congrArg (Value.int .i64) HR.out.symm)
end Go.Proofs.Ytfclpieijbgodaa
