/-
  The reference's quotient, bit by bit (Div), and its comparison (ahead).
-/
import Derived.Test.YtfclpieijbgodaaNatU
namespace Go.Proofs.Ytfclpieijbgodaa
set_option linter.unusedVariables false
set_option linter.unusedSimpArgs false
open Go.RowKit

theorem val_top (xs : List Nat) (t : Nat) : val (xs ++ [t]) = val xs + 4294967296 ^ xs.length * t := by rw [val_append]; simp [val]
set_option maxHeartbeats 800000 in
theorem ahead_any (A B : Option Addr) (n m c d : Nat) (xs ys : List Nat) (t : Nat) (w : World) (hn : n = xs.length + 1) (hm : m = xs.length) (hlen : xs.length = ys.length) (hl : n ≤ 70000) (hx : Rd .u32 w A (xs ++ [t])) (hy : Rd .u32 w B ys)
    (lx : Lim 4294967296 xs) (lt : t < 4294967296) (ly : Lim 4294967296 ys) :
    Calls Try.prog 71 #[.slice A n c, .slice B m d] w (Quiet (.bool (decide (val ys ≤ val (xs ++ [t])))) w) := by
  subst hn
  subst hm
  obtain ⟨b, o, rfl, hbw, hcx⟩ := hx.pos (i := xs.length) (x := t) (by simp)
  have hct := hcx xs.length t (by simp)
  have hcx2 : ∀ (i x : Nat), xs[i]? = some x → w.cell? ⟨b, o + i, none⟩ = some (.int .u32 (x : Int)) := fun i x h => hcx i x (by rw [List.getElem?_append_left (List.getElem?_eq_some_iff.1 h).1]; exact h)
  have hvy := val_lt ly
  rw [← hlen] at hvy
  have HV := Lib.hid (val_top xs t)
  have HY := Lib.hid hvy
  have HC := Lib.hid hcx2
  clear hcx hcx2 hvy
  have hle1 : xs.length ≤ ys.length := by omega
  have hle2 : ys.length ≤ xs.length := by omega
  clear hlen
  rcases Nat.eq_zero_or_pos t with h0 | h0
  rotate_left
  · have hR : decide (val ys ≤ val (xs ++ [t])) = true := by
      have := Nat.mul_le_mul_left (4294967296 ^ xs.length) h0
      have h2 := HY.out
      have h3 := HV.out
      simp
      omega
    have HR := Lib.hid hR
    clear hR
    have hd : decide ((0 : Int) < (t : Int)) = true := by simp; omega
    go_enter Try.func71, Try.ntmps71
    go_wp2
    go_ret
    exact Quiet.mk0 (congrArg Value.bool HR.out.symm)
  subst h0
  have hvv := Lib.hid (show val (xs ++ [0]) = val xs by rw [HV.out]; simp)
  rw [hvv.out]
  clear HV HY hvv hx
  go_enter Try.func71, Try.ntmps71
  go_wp2
  go_loopw [5] (fun t wr => ∃ k q : Nat, t = .int .i64 ((k : Int) - 1) ∧ k ≤ xs.length ∧ Hid (xs.drop k = ys.drop k) ∧ wr = w.drewN q) (fun t _ => (intOf t + 1).toNat)
  case atStart => exact ⟨xs.length, 0, rfl, Nat.le_refl _, by show _ = _; rw [List.drop_of_length_le (Nat.le_refl _), List.drop_of_length_le (by omega)], rfl⟩
  case round =>
    obtain ⟨k, q, rfl, hk, ht, rfl⟩ := hrel
    rcases Nat.eq_zero_or_pos k with rfl | hp
    · have he : xs = ys := by simpa using ht.out
      subst he
      have HR := Lib.hid (show decide (val xs ≤ val xs) = true by simp)
      go_wp2
      go_ret
      first | exact Quiet.mk rfl _ | exact Quiet.mk (congrArg Value.bool HR.out.symm) _ | exact Quiet.mk2 (congrArg Value.bool HR.out.symm) _ _ | exact Quiet.mk3 (congrArg Value.bool HR.out.symm) _ _ _
    · obtain ⟨k, rfl⟩ : ∃ j, k = j + 1 := ⟨k - 1, by omega⟩
      have hlt : k < xs.length := by omega
      have hlt' : k < ys.length := by omega
      obtain ⟨x, hgx⟩ := get_of_lt hlt
      obtain ⟨y, hgy⟩ := get_of_lt hlt'
      obtain ⟨b', o', rfl, hbw', hcy⟩ := hy.pos hgy
      have hcellx := HC.out k x hgx
      have hcelly := hcy k y hgy
      have hk1 : (((k + 1 : Nat) : Int) - 1) = (k : Int) := by omega
      rw [hk1]
      have HX := Lib.hid hgx
      have HY := Lib.hid hgy
      have hltn : (k : Int) < (xs.length : Int) + 1 := by omega
      clear hcy hgx hgy hk1
      rcases Nat.lt_trichotomy x y with hxy | hxy | hxy
      · have hne : ((x : Int) != (y : Int)) = true := by simp; omega
        have h1 := val_lt_of lx HX.out HY.out ht.out hxy
        have HR := Lib.hid (show decide (val ys ≤ val xs) = false by simp; omega)
        clear h1
        go_wp2
        go_quiet (fail)
        go_wp2
        go_quiet (fail)
        go_wp2
        go_ret
        exact Quiet.mk3 (congrArg Value.bool (by rw [HR.out]; exact decide_eq_false (by omega))) _ _ _
      · subst hxy
        have hne : ((x : Int) != (x : Int)) = false := by simp
        go_wp2
        go_quiet (fail)
        go_wp2
        go_roundw
        case rel => exact ⟨k, _, by go_num, by omega, by
          have h1 := HX.out
          have h2 := HY.out
          rw [List.getElem?_eq_getElem hlt] at h1
          rw [List.getElem?_eq_getElem hlt'] at h2
          injection h1 with h1
          injection h2 with h2
          show _ = _
          rw [List.drop_eq_getElem_cons hlt, List.drop_eq_getElem_cons hlt', h1, h2, ht.out], rfl⟩
        case measure => simp [intOf] <;> omega
      · have hne : ((x : Int) != (y : Int)) = true := by simp; omega
        have h1 := val_lt_of ly HY.out HX.out ht.out.symm hxy
        have HR := Lib.hid (show decide (val ys ≤ val xs) = true by simp; omega)
        clear h1
        go_wp2
        go_quiet (fail)
        go_wp2
        go_quiet (fail)
        go_wp2
        go_ret
        exact Quiet.mk3 (congrArg Value.bool (by rw [HR.out])) _ _ _
end Go.Proofs.Ytfclpieijbgodaa
