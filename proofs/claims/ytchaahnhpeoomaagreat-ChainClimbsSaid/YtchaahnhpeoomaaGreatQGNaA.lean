/-
  NatA: What the small functions on limbs do: which lists are numbers, cutting noughts off, comparing, and whether two lists are the same.
-/
import Derived.Test.YtchaahnhpeoomaaGreatQGBas
import Derived.Test.YtchaahnhpeoomaaGreatProg
import Derived.WalkKit
import Derived.WalkSpells
import Derived.BigQuiet
import Derived.Deep.QuietTactic
import Derived.Lib.BitFns
import Derived.Test.YtchaahnhpeoomaaGreatQShelf
namespace Go.Proofs.YtchaahnhpeoomaaGreat
set_option linter.unusedVariables false
set_option linter.unusedSimpArgs false
set_option maxRecDepth 20000
open Go.RowKit
set_option maxHeartbeats 400000 in
theorem right_any (A : Option Addr) (n c : Nat) (xs : List Nat) (w : World) (hn : n = xs.length) (hl : n ≤ 9223372036854775807) (hx : Rd .u32 w A xs) :
  Calls Tryz.prog 135 #[.slice A n c] w fun e w' => e = .returned (.bool (isRight xs)) ∧ w = w' := by
 subst hn
 by_cases h1 : xs.length ≤ 256
 ·by_cases h2 : xs.length = 0
  ·have h3 : ((xs.length : Int) == 0) = true := by simpa using h2
   have h4 : isRight xs = true := by
    have : xs = [] := List.eq_nil_of_length_eq_zero h2
    simp [isRight, this]
   have H4 := Lib.hid h4
   have H2 := Lib.hid h2
   clear h4 h2
   go_enter Tryz.func135, Tryz.ntmps135
   go_wp2
   go_ret
   exact ⟨ret_bool H4.out.symm, rfl⟩
  ·have h3 : ((xs.length : Int) == 0) = false := by simpa using h2
   obtain ⟨x, hgx⟩ := get_of_lt (xs := xs) (i := xs.length - 1) (by omega)
   obtain ⟨b, o, rfl, hbw, hc⟩ := hx.pos hgx
   have hcell := hc _ x hgx
   have h4 : isRight xs = ((x : Int) != 0) := by
    have e : xs.getLast? = some x := by rw [List.getLast?_eq_getElem?]; exact hgx
    simp only [isRight, h1, e, decide_true, Bool.true_and]
    rw [Bool.eq_iff_iff]
    simp
   have H4 := Lib.hid h4
   clear h4 hc hgx
   go_enter Tryz.func135, Tryz.ntmps135
   go_wp2
   go_ret
   exact ⟨ret_bool H4.out.symm, rfl⟩
 ·have h4 : isRight xs = false := by simp [isRight, h1]
  have H4 := Lib.hid h4
  clear h4
  go_enter Tryz.func135, Tryz.ntmps135
  go_wp2
  go_ret
  exact ⟨ret_bool H4.out.symm, rfl⟩
set_option maxHeartbeats 400000 in
theorem refRight_any (A : Option Addr) (n c : Nat) (xs : List Nat) (w : World) (hn : n = xs.length) (hl : n ≤ 9223372036854775807) (hx : Rd .u32 w A xs) :
  Calls Tryz.prog 103 #[.slice A n c] w fun e w' => e = .returned (.bool (isRight xs)) ∧ w = w' := by
 subst hn
 by_cases h1 : xs.length ≤ 256
 ·by_cases h2 : xs.length = 0
  ·have h3 : ((xs.length : Int) == 0) = true := by simpa using h2
   have h4 : isRight xs = true := by
    have : xs = [] := List.eq_nil_of_length_eq_zero h2
    simp [isRight, this]
   have H4 := Lib.hid h4
   have H2 := Lib.hid h2
   clear h4 h2
   go_enter Tryz.func103, Tryz.ntmps103
   go_wp2
   go_ret
   exact ⟨ret_bool H4.out.symm, rfl⟩
  ·have h3 : ((xs.length : Int) == 0) = false := by simpa using h2
   obtain ⟨x, hgx⟩ := get_of_lt (xs := xs) (i := xs.length - 1) (by omega)
   obtain ⟨b, o, rfl, hbw, hc⟩ := hx.pos hgx
   have hcell := hc _ x hgx
   have h4 : isRight xs = ((x : Int) != 0) := by
    have e : xs.getLast? = some x := by rw [List.getLast?_eq_getElem?]; exact hgx
    simp only [isRight, h1, e, decide_true, Bool.true_and]
    rw [Bool.eq_iff_iff]
    simp
   have H4 := Lib.hid h4
   clear h4 hc hgx
   go_enter Tryz.func103, Tryz.ntmps103
   go_wp2
   go_ret
   exact ⟨ret_bool H4.out.symm, rfl⟩
 ·have h4 : isRight xs = false := by simp [isRight, h1]
  have H4 := Lib.hid h4
  clear h4
  go_enter Tryz.func103, Tryz.ntmps103
  go_wp2
  go_ret
  exact ⟨ret_bool H4.out.symm, rfl⟩
def TrimPost (A : Option Addr) (n : Nat) (xs : List Nat) (w : World) (e : Ending) (w' : World) : Prop := ∃ m, e = .returned (.slice A m m) ∧ m ≤ n ∧ Hid (xs.take m = limbs (val xs)) ∧ w = w'
set_option maxHeartbeats 400000 in
theorem trim_any (A : Option Addr) (n c : Nat) (xs : List Nat) (w : World) (hn : n = xs.length) (hc : n ≤ c) (hl : c ≤ 9223372036854775807) (hx : Rd .u32 w A xs) (lx : Lim 4294967296 xs) :
  Calls Tryz.prog 134 #[.slice A n c] w (TrimPost A n xs w) := by
 subst hn
 go_enter Tryz.func134, Tryz.ntmps134
 go_wp2
 go_loop [3] (fun t => ∃ k : Nat, t = .int .i64 k ∧ k ≤ xs.length ∧ Hid (∀ i x, k ≤ i → xs[i]? = some x → x = 0)) (fun t => (intOf t).toNat)
 case atStart => exact ⟨xs.length, rfl, Nat.le_refl _, fun i x hi hg => by have := (List.getElem?_eq_some_iff.1 hg).1; omega⟩
 case round =>
  obtain ⟨k, rfl, hk, h0⟩ := hrel
  rcases Nat.eq_zero_or_pos k with rfl | hp
  ·go_wp2
   go_ret
   exact ⟨0, rfl, Nat.zero_le _, take_limbs lx (Nat.zero_le _) h0.out (.inl rfl), rfl⟩
  ·obtain ⟨x, hgx⟩ := get_of_lt (xs := xs) (i := k - 1) (by omega)
   obtain ⟨b, o, rfl, hbw, hcl⟩ := hx.pos hgx
   have hcell := hcl _ x hgx
   have HG := Lib.hid hgx
   clear hcl hgx
   by_cases hx0 : x = 0
   ·subst hx0
    go_wp2
    go_round
    case rel => exact ⟨k - 1, by go_num, by omega, fun i x hi hg => by
     rcases Nat.lt_or_ge i k with h | h
     ·obtain rfl : i = k - 1 := by omega
      have := HG.out
      rw [this] at hg
      injection hg with hg
      exact hg.symm
     ·exact h0.out i x h hg⟩
    case measure => simp [intOf]; omega
   ·have hx1 : ((x : Int) == 0) = false := by simpa using hx0
    go_wp2
    go_ret
    exact ⟨k, rfl, hk, take_limbs lx hk h0.out (.inr (by rw [HG.out]; simpa using hx0)), rfl⟩
end Go.Proofs.YtchaahnhpeoomaaGreat
namespace Go.Proofs.YtchaahnhpeoomaaGreat
set_option linter.unusedVariables false
set_option linter.unusedSimpArgs false
set_option maxRecDepth 20000
open Go.RowKit
set_option maxHeartbeats 800000 in
theorem cmp_any (A B : Option Addr) (n m c d : Nat) (xs ys : List Nat) (w : World) (hn : n = xs.length) (hm : m = ys.length) (hl : n ≤ 70000) (hl' : m ≤ 70000) (hx : Rd .u32 w A xs) (hy : Rd .u32 w B ys)
  (cx : Canon xs) (cy : Canon ys) :
  Calls Tryz.prog 154 #[.slice A n c, .slice B m d] w (Quiet (.int .i64 (cmpN (val xs) (val ys))) w) := by
 subst hn
 subst hm
 rcases Nat.lt_trichotomy xs.length ys.length with hlt | hlen | hlt
 ·have hne : ((xs.length : Int) != (ys.length : Int)) = true := by simp; omega
  have HR := Lib.hid (cmpN_lt (val_lt_of_len cx.1 cy hlt))
  go_enter Tryz.func154, Tryz.ntmps154
  go_wp2
  go_ret
  exact Quiet.mk0 (congrArg (Value.int .i64) HR.out.symm)
 ·have hne : ((xs.length : Int) != (ys.length : Int)) = false := by simp [hlen]
  have HL := Lib.hid hlen
  have hle1 : xs.length ≤ ys.length := by omega
  have hle2 : ys.length ≤ xs.length := by omega
  clear hlen
  go_enter Tryz.func154, Tryz.ntmps154
  go_wp2
  go_loopw [5] (fun t wr => ∃ k q : Nat, t = .int .i64 ((k : Int) - 1) ∧ k ≤ xs.length ∧ Hid (xs.drop k = ys.drop k) ∧ wr = w.drewN q) (fun t _ => (intOf t + 1).toNat)
  case atStart => exact ⟨xs.length, 0, rfl, Nat.le_refl _, by show _ = _; rw [List.drop_of_length_le (Nat.le_refl _), List.drop_of_length_le (by omega)], rfl⟩
  case round =>
   obtain ⟨k, q, rfl, hk, ht, rfl⟩ := hrel
   rcases Nat.eq_zero_or_pos k with rfl | hp
   ·have he : xs = ys := by simpa using ht.out
    subst he
    have HR := Lib.hid (cmpN_self (val xs))
    go_wp2
    go_ret
    first | exact Quiet.mk (congrArg (Value.int .i64) HR.out.symm) _ | exact Quiet.mk2 (congrArg (Value.int .i64) HR.out.symm) _ _ | exact Quiet.mk3 (congrArg (Value.int .i64) HR.out.symm) _ _ _
   ·obtain ⟨k, rfl⟩ : ∃ j, k = j + 1 := ⟨k - 1, by omega⟩
    have hlt : k < xs.length := by omega
    have hlt' : k < ys.length := by omega
    obtain ⟨x, hgx⟩ := get_of_lt hlt
    obtain ⟨y, hgy⟩ := get_of_lt hlt'
    obtain ⟨b, o, rfl, hbw, hcx⟩ := hx.pos hgx
    obtain ⟨b', o', rfl, hbw', hcy⟩ := hy.pos hgy
    have hcellx := hcx k x hgx
    have hcelly := hcy k y hgy
    have hk1 : (((k + 1 : Nat) : Int) - 1) = (k : Int) := by omega
    rw [hk1]
    have HX := Lib.hid hgx
    have HY := Lib.hid hgy
    clear hcx hcy hgx hgy hk1
    rcases Nat.lt_trichotomy x y with hxy | hxy | hxy
    ·have hd : decide ((x : Int) < (y : Int)) = true := by simpa using hxy
     have HR := Lib.hid (cmpN_lt (val_lt_of cx.1 HX.out HY.out ht.out hxy))
     go_wp2
     go_quiet (fail)
     go_wp2
     go_ret
     first | exact Quiet.mk (congrArg (Value.int .i64) HR.out.symm) _ | exact Quiet.mk2 (congrArg (Value.int .i64) HR.out.symm) _ _ | exact Quiet.mk3 (congrArg (Value.int .i64) HR.out.symm) _ _ _
    ·subst hxy
     have hd : decide ((x : Int) < (x : Int)) = false := by simp
     go_wp2
     go_quiet (fail)
     go_wp2
     go_quiet (fail)
     go_wp2
     go_roundw
     case rel => exact ⟨k, _, by go_num, by omega, by
      have h1 := HX.out
      have h2 := HY.out
      rw [List.getElem?_eq_getElem hlt] at h1
      rw [List.getElem?_eq_getElem hlt'] at h2
      injection h1 with h1
      injection h2 with h2
      show _ = _
      rw [List.drop_eq_getElem_cons hlt, List.drop_eq_getElem_cons hlt', h1, h2, ht.out], rfl⟩
     case measure => simp [intOf] <;> omega
    ·have hd : decide ((x : Int) < (y : Int)) = false := decide_eq_false (by omega)
     have HR := Lib.hid (cmpN_gt (val_lt_of cy.1 HY.out HX.out ht.out.symm hxy))
     go_wp2
     go_quiet (fail)
     go_wp2
     go_quiet (fail)
     go_wp2
     go_ret
     first | exact Quiet.mk (congrArg (Value.int .i64) HR.out.symm) _ | exact Quiet.mk2 (congrArg (Value.int .i64) HR.out.symm) _ _ | exact Quiet.mk3 (congrArg (Value.int .i64) HR.out.symm) _ _ _
 ·have hne : ((xs.length : Int) != (ys.length : Int)) = true := by simp; omega
  have HR := Lib.hid (cmpN_gt (val_lt_of_len cy.1 cx hlt))
  go_enter Tryz.func154, Tryz.ntmps154
  go_wp2
  go_ret
  exact Quiet.mk0 (congrArg (Value.int .i64) HR.out.symm)
set_option maxHeartbeats 800000 in
theorem refcmp_any (A B : Option Addr) (n m c d : Nat) (xs ys : List Nat) (w : World) (hn : n = xs.length) (hm : m = ys.length) (hl : n ≤ 70000) (hl' : m ≤ 70000) (hx : Rd .u32 w A xs) (hy : Rd .u32 w B ys)
  (cx : Canon xs) (cy : Canon ys) :
  Calls Tryz.prog 106 #[.slice A n c, .slice B m d] w (Quiet (.int .i64 (cmpN (val xs) (val ys))) w) := by
 subst hn
 subst hm
 rcases Nat.lt_trichotomy xs.length ys.length with hlt | hlen | hlt
 ·have hne : ((xs.length : Int) != (ys.length : Int)) = true := by simp; omega
  have HR := Lib.hid (cmpN_lt (val_lt_of_len cx.1 cy hlt))
  go_enter Tryz.func106, Tryz.ntmps106
  go_wp2
  go_ret
  exact Quiet.mk0 (congrArg (Value.int .i64) HR.out.symm)
 ·have hne : ((xs.length : Int) != (ys.length : Int)) = false := by simp [hlen]
  have HL := Lib.hid hlen
  have hle1 : xs.length ≤ ys.length := by omega
  have hle2 : ys.length ≤ xs.length := by omega
  clear hlen
  go_enter Tryz.func106, Tryz.ntmps106
  go_wp2
  go_loopw [5] (fun t wr => ∃ k q : Nat, t = .int .i64 ((k : Int) - 1) ∧ k ≤ xs.length ∧ Hid (xs.drop k = ys.drop k) ∧ wr = w.drewN q) (fun t _ => (intOf t + 1).toNat)
  case atStart => exact ⟨xs.length, 0, rfl, Nat.le_refl _, by show _ = _; rw [List.drop_of_length_le (Nat.le_refl _), List.drop_of_length_le (by omega)], rfl⟩
  case round =>
   obtain ⟨k, q, rfl, hk, ht, rfl⟩ := hrel
   rcases Nat.eq_zero_or_pos k with rfl | hp
   ·have he : xs = ys := by simpa using ht.out
    subst he
    have HR := Lib.hid (cmpN_self (val xs))
    go_wp2
    go_ret
    first | exact Quiet.mk (congrArg (Value.int .i64) HR.out.symm) _ | exact Quiet.mk2 (congrArg (Value.int .i64) HR.out.symm) _ _ | exact Quiet.mk3 (congrArg (Value.int .i64) HR.out.symm) _ _ _
   ·obtain ⟨k, rfl⟩ : ∃ j, k = j + 1 := ⟨k - 1, by omega⟩
    have hlt : k < xs.length := by omega
    have hlt' : k < ys.length := by omega
    obtain ⟨x, hgx⟩ := get_of_lt hlt
    obtain ⟨y, hgy⟩ := get_of_lt hlt'
    obtain ⟨b, o, rfl, hbw, hcx⟩ := hx.pos hgx
    obtain ⟨b', o', rfl, hbw', hcy⟩ := hy.pos hgy
    have hcellx := hcx k x hgx
    have hcelly := hcy k y hgy
    have hk1 : (((k + 1 : Nat) : Int) - 1) = (k : Int) := by omega
    rw [hk1]
    have HX := Lib.hid hgx
    have HY := Lib.hid hgy
    clear hcx hcy hgx hgy hk1
    rcases Nat.lt_trichotomy x y with hxy | hxy | hxy
    ·have hd : decide ((x : Int) < (y : Int)) = true := by simpa using hxy
     have HR := Lib.hid (cmpN_lt (val_lt_of cx.1 HX.out HY.out ht.out hxy))
     go_wp2
     go_quiet (fail)
     go_wp2
     go_ret
     first | exact Quiet.mk (congrArg (Value.int .i64) HR.out.symm) _ | exact Quiet.mk2 (congrArg (Value.int .i64) HR.out.symm) _ _ | exact Quiet.mk3 (congrArg (Value.int .i64) HR.out.symm) _ _ _
    ·subst hxy
     have hd : decide ((x : Int) < (x : Int)) = false := by simp
     go_wp2
     go_quiet (fail)
     go_wp2
     go_quiet (fail)
     go_wp2
     go_roundw
     case rel => exact ⟨k, _, by go_num, by omega, by
      have h1 := HX.out
      have h2 := HY.out
      rw [List.getElem?_eq_getElem hlt] at h1
      rw [List.getElem?_eq_getElem hlt'] at h2
      injection h1 with h1
      injection h2 with h2
      show _ = _
      rw [List.drop_eq_getElem_cons hlt, List.drop_eq_getElem_cons hlt', h1, h2, ht.out], rfl⟩
     case measure => simp [intOf] <;> omega
    ·have hd : decide ((x : Int) < (y : Int)) = false := decide_eq_false (by omega)
     have HR := Lib.hid (cmpN_gt (val_lt_of cy.1 HY.out HX.out ht.out.symm hxy))
     go_wp2
     go_quiet (fail)
     go_wp2
     go_quiet (fail)
     go_wp2
     go_ret
     first | exact Quiet.mk (congrArg (Value.int .i64) HR.out.symm) _ | exact Quiet.mk2 (congrArg (Value.int .i64) HR.out.symm) _ _ | exact Quiet.mk3 (congrArg (Value.int .i64) HR.out.symm) _ _ _
 ·have hne : ((xs.length : Int) != (ys.length : Int)) = true := by simp; omega
  have HR := Lib.hid (cmpN_gt (val_lt_of_len cy.1 cx hlt))
  go_enter Tryz.func106, Tryz.ntmps106
  go_wp2
  go_ret
  exact Quiet.mk0 (congrArg (Value.int .i64) HR.out.symm)
end Go.Proofs.YtchaahnhpeoomaaGreat
namespace Go.Proofs.YtchaahnhpeoomaaGreat
set_option linter.unusedVariables false
set_option linter.unusedSimpArgs false
set_option maxRecDepth 20000
open Go.RowKit
def Gives2 (k : IntKind) (xs : List Nat) (er : Int) (w : World) (e : Ending) (w' : World) : Prop :=
 ∃ A c, e = .returned (.tuple #[.slice A xs.length c, .int .i64 er]) ∧ xs.length ≤ c ∧ c ≤ maxLen ∧ Own k w' w.heap.size A xs ∧ Below w.heap.size w w'
set_option maxHeartbeats 400000 in
theorem refTrim_any (A : Option Addr) (n c : Nat) (xs : List Nat) (w : World) (hn : n = xs.length) (hc : n ≤ c) (hl : n ≤ 70000) (hx : Rd .u32 w A xs) (lx : Lim 4294967296 xs) :
  Calls Tryz.prog 102 #[.slice A n c] w (Gives .u32 (limbs (val xs)) w) := by
 subst hn
 go_enter Tryz.func102, Tryz.ntmps102
 go_wp2
 go_loop [3] (fun t => ∃ k : Nat, t = .int .i64 k ∧ k ≤ xs.length ∧ Hid (∀ i x, k ≤ i → xs[i]? = some x → x = 0)) (fun t => (intOf t).toNat)
 case atStart => exact ⟨xs.length, rfl, Nat.le_refl _, fun i x hi hg => by have := (List.getElem?_eq_some_iff.1 hg).1; omega⟩
 case round =>
  obtain ⟨k, rfl, hk, h0⟩ := hrel
  rcases Nat.eq_zero_or_pos k with rfl | hp
  ·have ht := Lib.hid (take_limbs lx (Nat.zero_le _) h0.out (.inl rfl))
   go_wp2_with (at_builtin; refine wpList_append_copy _ rfl (.tmp 18) (.tmp 21) _ rfl w 129 .u32 4 Tryz.underlying128 info_u32 _ rfl (World.ownsRow_made w #[] 0 (Nat.le_refl _) (Nat.zero_le _) rfl) _ 0 _ (xs.take 0) rfl (by rw [List.length_take]; omega) ((hx.take _).alloc _) ((Below.refl _ _).alloc (Nat.le_refl _) _) (by omega) (by decide) ?_; intro A' c' w1 hown hc1 hc2 hbel)
   go_ret
   rw [ht.out] at hown
   have hlen : (limbs (val xs)).length = 0 := by rw [← ht.out]; simp
   exact ⟨A', c', by rw [hlen]; rfl, by omega, hc2, hown, hbel⟩
  ·obtain ⟨x, hgx⟩ := get_of_lt (xs := xs) (i := k - 1) (by omega)
   obtain ⟨b, o, rfl, hbw, hcl⟩ := hx.pos hgx
   have hcell := hcl _ x hgx
   have HG := Lib.hid hgx
   clear hcl hgx
   by_cases hx0 : x = 0
   ·subst hx0
    go_wp2
    go_round
    case rel => exact ⟨k - 1, by go_num, by omega, fun i x hi hg => by
     rcases Nat.lt_or_ge i k with h | h
     ·obtain rfl : i = k - 1 := by omega
      have := HG.out
      rw [this] at hg
      injection hg with hg
      exact hg.symm
     ·exact h0.out i x h hg⟩
    case measure => simp [intOf]; omega
   ·have hx1 : ((x : Int) == 0) = false := by simpa using hx0
    have ht := Lib.hid (take_limbs lx hk h0.out (.inr (by rw [HG.out]; simpa using hx0)))
    go_wp2_with (at_builtin; refine wpList_append_copy _ rfl (.tmp 18) (.tmp 21) _ rfl w 129 .u32 4 Tryz.underlying128 info_u32 _ rfl (World.ownsRow_made w #[] 0 (Nat.le_refl _) (Nat.zero_le _) rfl) _ k _ (xs.take k) rfl (by rw [List.length_take]; omega) ((hx.take _).alloc _) ((Below.refl _ _).alloc (Nat.le_refl _) _) (by omega) (by decide) ?_; intro A' c' w1 hown hc1 hc2 hbel)
    go_ret
    rw [ht.out] at hown
    have hlen : (limbs (val xs)).length = k := by rw [← ht.out]; simp; omega
    exact ⟨A', c', by rw [hlen]; rfl, by omega, hc2, hown, hbel⟩
set_option maxHeartbeats 400000 in
theorem answer_ok (A : Option Addr) (n c : Nat) (xs : List Nat) (w w0 : World) (hn : n = xs.length) (hc : n ≤ c) (hl : c ≤ 9223372036854775807) (hx : Own .u32 w w0.heap.size A xs) (lx : Lim 4294967296 xs) (hb : Below w0.heap.size w0 w)
  (h : (limbs (val xs)).length ≤ 256) :
  Calls Tryz.prog 177 #[.slice A n c] w (Gives2 .u32 (limbs (val xs)) 0 w0) := by
 subst hn
 go_enter Tryz.func177, Tryz.ntmps177
 go_wp2_with fail
 refine (trim_any A _ c xs _ rfl hc hl hx.rd lx).mono ?_
 rintro e w' ⟨m, rfl, hm, ht, rfl⟩
 have hlen := Lib.hid (show (limbs (val xs)).length = m by rw [← ht.out]; simp; omega)
 have hm2 : m ≤ 256 := by rw [← hlen.out]; exact h
 clear h
 go_wp2_with fail
 go_ret2
 have hO := hx.take m
 rw [ht.out] at hO
 exact ⟨A, m, by rw [hlen.out]; rfl, by rw [hlen.out]; exact Nat.le_refl _, by simp only [maxLen]; omega, hO, hb⟩
set_option maxHeartbeats 400000 in
theorem answer_big (A : Option Addr) (n c : Nat) (xs : List Nat) (w w0 : World) (hn : n = xs.length) (hc : n ≤ c) (hl : c ≤ 9223372036854775807) (hx : Own .u32 w w0.heap.size A xs) (lx : Lim 4294967296 xs) (hb : Below w0.heap.size w0 w)
  (h : 256 < (limbs (val xs)).length) :
  Calls Tryz.prog 177 #[.slice A n c] w (Gives2 .u32 [] 10 w0) := by
 subst hn
 go_enter Tryz.func177, Tryz.ntmps177
 go_wp2_with fail
 refine (trim_any A _ c xs _ rfl hc hl hx.rd lx).mono ?_
 rintro e w' ⟨m, rfl, hm, ht, rfl⟩
 have hlen := Lib.hid (show (limbs (val xs)).length = m by rw [← ht.out]; simp; omega)
 have hm2 : 256 < m := by rw [← hlen.out]; exact h
 clear h
 go_wp2_with fail
 go_ret2
 exact ⟨none, 0, rfl, Nat.le_refl _, Nat.zero_le _, Own.nil _ _ _ _, hb⟩
set_option maxHeartbeats 400000 in
theorem fits_ok (A : Option Addr) (c : Nat) (xs : List Nat) (w w0 : World) (hc : xs.length ≤ c) (hl : c ≤ maxLen) (hx : Own .u32 w w0.heap.size A xs) (hb : Below w0.heap.size w0 w) (h : xs.length ≤ 256) :
  Calls Tryz.prog 104 #[.slice A xs.length c] w (Gives2 .u32 xs 0 w0) := by
 go_enter Tryz.func104, Tryz.ntmps104
 go_wp2_with fail
 go_ret2
 exact ⟨A, c, rfl, hc, hl, hx, hb⟩
set_option maxHeartbeats 400000 in
theorem fits_big (A : Option Addr) (c : Nat) (xs : List Nat) (w w0 : World) (hc : xs.length ≤ 70000) (hb : Below w0.heap.size w0 w) (h : 256 < xs.length) :
  Calls Tryz.prog 104 #[.slice A xs.length c] w (Gives2 .u32 [] 10 w0) := by
 go_enter Tryz.func104, Tryz.ntmps104
 go_wp2_with fail
 go_ret2
 exact ⟨none, 0, rfl, Nat.le_refl _, Nat.zero_le _, Own.nil _ _ _ _, hb⟩
def fitsOf (v : Nat) : List Nat × Int := if (limbs v).length ≤ 256 then (limbs v, 0) else ([], 10)
theorem fitsOf_ok {v : Nat} (h : (limbs v).length ≤ 256) : fitsOf v = (limbs v, 0) := by simp [fitsOf, h]
theorem fitsOf_big {v : Nat} (h : 256 < (limbs v).length) : fitsOf v = ([], 10) := by simp [fitsOf, show ¬ (limbs v).length ≤ 256 by omega]
theorem answer_any (A : Option Addr) (n c : Nat) (xs : List Nat) (w w0 : World) (hn : n = xs.length) (hc : n ≤ c) (hl : c ≤ 9223372036854775807) (hx : Own .u32 w w0.heap.size A xs) (lx : Lim 4294967296 xs) (hb : Below w0.heap.size w0 w) :
  Calls Tryz.prog 177 #[.slice A n c] w (Gives2 .u32 (fitsOf (val xs)).1 (fitsOf (val xs)).2 w0) := by
 by_cases h : (limbs (val xs)).length ≤ 256
 ·rw [fitsOf_ok h]
  exact answer_ok A n c xs w w0 hn hc hl hx lx hb h
 ·rw [fitsOf_big (by omega)]
  exact answer_big A n c xs w w0 hn hc hl hx lx hb (by omega)
theorem fits_any (A : Option Addr) (c v : Nat) (w w0 : World) (hc : (limbs v).length ≤ c) (hl : c ≤ maxLen) (hx : Own .u32 w w0.heap.size A (limbs v)) (hb : Below w0.heap.size w0 w) (h7 : (limbs v).length ≤ 70000) :
  Calls Tryz.prog 104 #[.slice A (limbs v).length c] w (Gives2 .u32 (fitsOf v).1 (fitsOf v).2 w0) := by
 by_cases h : (limbs v).length ≤ 256
 ·rw [fitsOf_ok h]
  exact fits_ok A c (limbs v) w w0 hc hl hx hb h
 ·rw [fitsOf_big (by omega)]
  exact fits_big A c (limbs v) w w0 h7 hb (by omega)
end Go.Proofs.YtchaahnhpeoomaaGreat
namespace Go.Proofs.YtchaahnhpeoomaaGreat
set_option linter.unusedVariables false
set_option linter.unusedSimpArgs false
set_option maxRecDepth 20000
def valB : List Nat → Nat
 | [] => 0
 | b :: bs => b * 256 ^ bs.length + valB bs
def octs (n v : Nat) : List Nat := (List.range n).map fun j => v / 256 ^ (n - 1 - j) % 256
def nbits (n : Nat) : Nat := if n = 0 then 0 else Nat.log2 n + 1
theorem pow_256 (k : Nat) : (256 : Nat) ^ k = 2 ^ (8 * k) := by rw [Nat.pow_mul]
theorem pow_limb (k : Nat) : (4294967296 : Nat) ^ k = 2 ^ (32 * k) := by rw [Nat.pow_mul]
theorem pow_limb_256 (k : Nat) : (4294967296 : Nat) ^ k = 256 ^ (4 * k) := by rw [pow_limb, pow_256]; congr 1; omega
theorem nbits_eq {n k : Nat} (h1 : 2 ^ k ≤ n) (h2 : n < 2 ^ (k + 1)) : nbits n = k + 1 := by
 have h0 : n ≠ 0 := by have := Nat.two_pow_pos k; omega
 unfold nbits
 rw [if_neg h0, (Nat.log2_eq_iff h0).2 ⟨h1, h2⟩]
theorem nbits_spec {n : Nat} (h : n ≠ 0) : 2 ^ (nbits n - 1) ≤ n ∧ n < 2 ^ nbits n := by
 unfold nbits
 rw [if_neg h]
 exact ⟨Nat.log2_self_le h, Nat.lt_log2_self⟩
theorem nbits_pos {n : Nat} (h : n ≠ 0) : 0 < nbits n := by unfold nbits; rw [if_neg h]; omega
theorem lt_nbits (n : Nat) : n < 2 ^ nbits n := by
 by_cases h : n = 0
 ·subst h; simp [nbits]
 ·exact (nbits_spec h).2
theorem nbits_le_iff (n k : Nat) : nbits n ≤ k ↔ n < 2 ^ k := by
 constructor
 ·intro h
  exact Nat.lt_of_lt_of_le (lt_nbits n) (Nat.pow_le_pow_right (by omega) h)
 ·intro h
  by_cases h0 : n = 0
  ·subst h0; simp [nbits]
  ·have := (nbits_spec h0).1
   rcases Nat.lt_or_ge k (nbits n) with h1 | h1
   ·have h2 : 2 ^ k ≤ 2 ^ (nbits n - 1) := Nat.pow_le_pow_right (by omega) (by omega)
    omega
   ·exact h1
theorem nbits_mono {a b : Nat} (h : a ≤ b) : nbits a ≤ nbits b := (nbits_le_iff _ _).2 (Nat.lt_of_le_of_lt h (lt_nbits b))
theorem nbits_half {n : Nat} (h : n ≠ 0) : nbits n = nbits (n / 2) + 1 := by
 have h1 := nbits_spec h
 have h2 := nbits_pos h
 obtain ⟨k, hk⟩ : ∃ k, nbits n = k + 1 := ⟨nbits n - 1, by omega⟩
 rw [hk] at h1 ⊢
 congr 1
 rcases Nat.eq_zero_or_pos k with rfl | hp
 ·have : n = 1 := by simp at h1; omega
  subst this; rfl
 ·obtain ⟨j, rfl⟩ : ∃ j, k = j + 1 := ⟨k - 1, by omega⟩
  refine (nbits_eq ?_ ?_).symm
  ·have := h1.1
   simp only [Nat.add_sub_cancel, Nat.pow_succ] at this
   omega
  ·have := h1.2
   rw [Nat.pow_succ] at this ⊢
   omega
theorem bitLen_nbits (n : Nat) (h : n < 2 ^ 64) : Lib.bitLen n = nbits n := by
 induction n using Nat.strongRecOn with
 | ind n ih =>
  by_cases h0 : n = 0
  ·subst h0; rfl
  ·rw [Lib.bitLen_half n h0 h, nbits_half h0, ih (n / 2) (by omega) (by omega)]
   omega
theorem nbits_mul_add {m x low : Nat} (hx : x ≠ 0) (hl : low < 2 ^ m) : nbits (low + 2 ^ m * x) = m + nbits x := by
 have h1 := nbits_spec hx
 have h2 := nbits_pos hx
 obtain ⟨k, hk⟩ : ∃ k, nbits x = k + 1 := ⟨nbits x - 1, by omega⟩
 rw [hk] at h1 ⊢
 simp only [Nat.add_sub_cancel] at h1
 rw [show m + (k + 1) = (m + k) + 1 from by omega]
 refine nbits_eq ?_ ?_
 ·rw [Nat.pow_add]
  exact Nat.le_trans (Nat.mul_le_mul_left _ h1.1) (Nat.le_add_left _ _)
 ·have h3 : 2 ^ m * (x + 1) ≤ 2 ^ m * 2 ^ (k + 1) := Nat.mul_le_mul_left _ h1.2
  rw [← Nat.pow_add, ← Nat.add_assoc, Nat.mul_succ] at h3
  omega
theorem nbits_val {xs : List Nat} {x : Nat} (hl : Lim 4294967296 xs) (hx : xs[xs.length - 1]? = some x) (h0 : x ≠ 0) : nbits (val xs) = 32 * (xs.length - 1) + nbits x := by
 have hlt : xs.length - 1 < xs.length := (List.getElem?_eq_some_iff.1 hx).1
 have h1 := val_split xs (xs.length - 1) (by omega)
 rw [val_drop_succ hx] at h1
 have h2 : xs.drop (xs.length - 1 + 1) = [] := List.drop_of_length_le (by omega)
 rw [h2, val] at h1
 simp only [Nat.mul_zero, Nat.add_zero] at h1
 have h3 := val_lt (hl.take (xs.length - 1))
 rw [List.length_take, Nat.min_eq_left (by omega), pow_limb] at h3
 rw [h1, pow_limb]
 exact nbits_mul_add h0 h3
def ofTo (bs : List Nat) (n : Nat) : Nat → List Nat
 | 0 => List.replicate n 0
 | k + 1 => (ofTo bs n k).set (k / 4) ((ofTo bs n k).getD (k / 4) 0 ||| (bs.getD (bs.length - 1 - k) 0 * 2 ^ (8 * (k % 4)) % 4294967296))
theorem ofTo_length (bs : List Nat) (n k : Nat) : (ofTo bs n k).length = n := by
 induction k with
 | zero => simp [ofTo]
 | succ k ih => simp [ofTo, ih]
theorem ofTo_succ {bs : List Nat} {n k x y : Nat} (hx : (ofTo bs n k)[k / 4]? = some x) (hy : bs[bs.length - 1 - k]? = some y) :
  ofTo bs n (k + 1) = (ofTo bs n k).set (k / 4) (x ||| (y * 2 ^ (8 * (k % 4)) % 4294967296)) := by
 rw [ofTo, List.getD_eq_getElem?_getD, List.getD_eq_getElem?_getD, hx, hy]
 rfl
theorem or_shift {x y s : Nat} (hx : x < 2 ^ s) : x ||| y * 2 ^ s = x + y * 2 ^ s := by
 have := Nat.shiftLeft_add_eq_or_of_lt hx y
 rw [Nat.shiftLeft_eq] at this
 rw [Nat.or_comm, ← this]
 omega
theorem shift_small {y k : Nat} (hy : y < 256) : y * 2 ^ (8 * (k % 4)) < 4294967296 := by
 have h1 : k % 4 < 4 := Nat.mod_lt _ (by omega)
 have h2 : 2 ^ (8 * (k % 4)) ≤ 2 ^ 24 := Nat.pow_le_pow_right (by omega) (by omega)
 have h3 : y * 2 ^ (8 * (k % 4)) ≤ 255 * 2 ^ 24 := Nat.mul_le_mul (by omega) h2
 omega
theorem ofTo_ok {bs : List Nat} {n k : Nat} (hb : Lim 256 bs) (hk : k ≤ bs.length) (hn : bs.length ≤ 4 * n) :
  val (ofTo bs n k) = valB (bs.drop (bs.length - k)) ∧ ∀ j x, (ofTo bs n k)[j]? = some x → x < 256 ^ (k - 4 * j) ∧ x < 4294967296 := by
 induction k with
 | zero =>
  refine ⟨by simp [ofTo, val_replicate, valB], fun j x hx => ?_⟩
  rw [ofTo, List.getElem?_replicate] at hx
  split at hx
  ·injection hx with hx; subst hx; simp
  ·cases hx
 | succ k ih =>
  obtain ⟨ih1, ih2⟩ := ih (by omega)
  obtain ⟨x, hx⟩ := get_of_lt (xs := ofTo bs n k) (i := k / 4) (by rw [ofTo_length]; omega)
  obtain ⟨y, hy⟩ := get_of_lt (xs := bs) (i := bs.length - 1 - k) (by omega)
  have hyb := hb.get hy
  have hxb := (ih2 _ _ hx).1
  rw [show k - 4 * (k / 4) = k % 4 from by omega, pow_256] at hxb
  have hs := shift_small (k := k) hyb
  have hset := ofTo_succ hx hy
  rw [Nat.mod_eq_of_lt hs, or_shift hxb] at hset
  have hpw : 4294967296 ^ (k / 4) * 2 ^ (8 * (k % 4)) = 256 ^ k := by
   rw [pow_limb_256, ← pow_256, ← Nat.pow_add]
   congr 1
   omega
  have hmul : 4294967296 ^ (k / 4) * (y * 2 ^ (8 * (k % 4))) = y * 256 ^ k := by rw [← hpw, Nat.mul_left_comm]
  refine ⟨?_, fun j z hz => ?_⟩
  ·rw [hset]
   have h1 := val_set hx (x + y * 2 ^ (8 * (k % 4)))
   rw [Nat.mul_add, hmul, ih1] at h1
   rw [show bs.length - (k + 1) = bs.length - 1 - k from by omega]
   have h2 : bs.drop (bs.length - 1 - k) = y :: bs.drop (bs.length - k) := by
    rw [List.drop_eq_getElem_cons (by omega)]
    rw [List.getElem?_eq_getElem (by omega)] at hy
    injection hy with hy
    rw [hy]
    congr 2
    omega
   rw [h2, valB, List.length_drop, show bs.length - (bs.length - k) = k from by omega]
   omega
  ·rw [hset] at hz
   by_cases e : k / 4 = j
   ·subst e
    rw [List.getElem?_set_self (by rw [ofTo_length]; omega)] at hz
    injection hz with hz
    subst hz
    have h3 : x + y * 2 ^ (8 * (k % 4)) < 256 ^ (k + 1 - 4 * (k / 4)) := by
     rw [show k + 1 - 4 * (k / 4) = k % 4 + 1 from by omega, Nat.pow_succ, pow_256]
     have h4 : y * 2 ^ (8 * (k % 4)) ≤ 255 * 2 ^ (8 * (k % 4)) := Nat.mul_le_mul_right _ (by omega)
     omega
    refine ⟨h3, Nat.lt_of_lt_of_le h3 ?_⟩
    have : (256 : Nat) ^ (k + 1 - 4 * (k / 4)) ≤ 256 ^ 4 := Nat.pow_le_pow_right (by omega) (by omega)
    omega
   ·rw [List.getElem?_set_ne e] at hz
    obtain ⟨h3, h4⟩ := ih2 _ _ hz
    exact ⟨Nat.lt_of_lt_of_le h3 (Nat.pow_le_pow_right (by omega) (by omega)), h4⟩
theorem ofTo_val {bs : List Nat} (hb : Lim 256 bs) : val (ofTo bs ((bs.length + 3) / 4) bs.length) = valB bs := by
 have := (ofTo_ok (n := (bs.length + 3) / 4) hb (Nat.le_refl _) (by omega)).1
 simpa using this
theorem ofTo_lim {bs : List Nat} {n k : Nat} (hb : Lim 256 bs) (hk : k ≤ bs.length) (hn : bs.length ≤ 4 * n) : Lim 4294967296 (ofTo bs n k) := by
 intro x hx
 obtain ⟨j, hj⟩ := List.mem_iff_getElem?.1 hx
 exact ((ofTo_ok hb hk hn).2 j x hj).2
theorem octs_length (n v : Nat) : (octs n v).length = n := by simp [octs]
theorem octs_lim (n v : Nat) : Lim 256 (octs n v) := by
 intro x hx
 simp only [octs, List.mem_map] at hx
 obtain ⟨j, _, rfl⟩ := hx
 exact Nat.mod_lt _ (by omega)
theorem octs_get {n v j : Nat} (h : j < n) : (octs n v)[j]? = some (v / 256 ^ (n - 1 - j) % 256) := by
 simp [octs, List.getElem?_range h]
def octTo (xs : List Nat) (n : Nat) : Nat → List Nat
 | 0 => List.replicate n 0
 | k + 1 => (octTo xs n k).set (n - 1 - k) (xs.getD (k / 4) 0 / 2 ^ (8 * (k % 4)) % 256)
theorem octTo_length (xs : List Nat) (n k : Nat) : (octTo xs n k).length = n := by
 induction k with
 | zero => simp [octTo]
 | succ k ih => simp [octTo, ih]
theorem octTo_succ {xs : List Nat} {n k x : Nat} (hx : xs[k / 4]? = some x) : octTo xs n (k + 1) = (octTo xs n k).set (n - 1 - k) (x / 2 ^ (8 * (k % 4)) % 256) := by
 rw [octTo, List.getD_eq_getElem?_getD, hx]
 rfl
theorem limb_at {xs : List Nat} {i x : Nat} (hl : Lim 4294967296 xs) (hx : xs[i]? = some x) : val xs / 4294967296 ^ i % 4294967296 = x := by
 have hi : i < xs.length := (List.getElem?_eq_some_iff.1 hx).1
 have h1 := val_split xs i (by omega)
 rw [val_drop_succ hx] at h1
 have h3 := val_lt (hl.take i)
 rw [List.length_take, Nat.min_eq_left (by omega)] at h3
 have hxb := hl.get hx
 rw [h1, Nat.add_mul_div_left _ _ (Nat.pow_pos (by omega)), Nat.div_eq_of_lt h3]
 omega
theorem byte_at {xs : List Nat} {i x : Nat} (hl : Lim 4294967296 xs) (hx : xs[i / 4]? = some x) : x / 2 ^ (8 * (i % 4)) % 256 = val xs / 256 ^ i % 256 := by
 have h1 := limb_at hl hx
 have h2 : (256 : Nat) ^ i = 4294967296 ^ (i / 4) * 2 ^ (8 * (i % 4)) := by
  rw [pow_limb_256, ← pow_256, ← Nat.pow_add]
  congr 1
  omega
 rw [h2, ← Nat.div_div_eq_div_mul]
 generalize val xs / 4294967296 ^ (i / 4) = v at h1 ⊢
 have h3 : i % 4 = 0 ∨ i % 4 = 1 ∨ i % 4 = 2 ∨ i % 4 = 3 := by omega
 rcases h3 with h3 | h3 | h3 | h3 <;> rw [h3] <;> simp <;> omega
theorem octTo_get {xs : List Nat} {n k j : Nat} (hl : Lim 4294967296 xs) (hk : k ≤ 4 * xs.length) (hn : k ≤ n) (hj : j < n) :
  (octTo xs n k)[j]? = some (if n - 1 - j < k then val xs / 256 ^ (n - 1 - j) % 256 else 0) := by
 induction k with
 | zero => simp [octTo, hj]
 | succ k ih =>
  obtain ⟨x, hx⟩ := get_of_lt (xs := xs) (i := k / 4) (by omega)
  rw [octTo_succ hx, byte_at hl hx]
  by_cases e : n - 1 - k = j
  ·subst e
   rw [List.getElem?_set_self (by rw [octTo_length]; omega), show n - 1 - (n - 1 - k) = k from by omega, if_pos (by omega)]
  ·rw [List.getElem?_set_ne e, ih (by omega) (by omega)]
   by_cases h : n - 1 - j < k
   ·rw [if_pos h, if_pos (by omega)]
   ·rw [if_neg h, if_neg (by omega)]
theorem octTo_octs {xs : List Nat} {n k : Nat} (hl : Lim 4294967296 xs) (hk : k = min n (4 * xs.length)) : octTo xs n k = octs n (val xs) := by
 apply List.ext_getElem?
 intro j
 rcases Nat.lt_or_ge j n with hj | hj
 ·rw [octTo_get hl (by omega) (by omega) hj, octs_get hj]
  split
  ·rfl
  ·rename_i h
   have h1 := val_lt hl
   rw [pow_limb_256] at h1
   have h2 : (256 : Nat) ^ (4 * xs.length) ≤ 256 ^ (n - 1 - j) := Nat.pow_le_pow_right (by omega) (by omega)
   rw [Nat.div_eq_of_lt (by omega)]
 ·rw [List.getElem?_eq_none (by rw [octTo_length]; exact hj), List.getElem?_eq_none (by rw [octs_length]; exact hj)]
theorem valB_lt {bs : List Nat} (hb : Lim 256 bs) : valB bs < 256 ^ bs.length := by
 induction bs with
 | nil => simp [valB]
 | cons b bs ih =>
  have h1 : b < 256 := hb b (by simp)
  have h2 := ih (fun y hy => hb y (by simp [hy]))
  rw [valB, List.length_cons, Nat.pow_succ]
  have h3 : b * 256 ^ bs.length ≤ 255 * 256 ^ bs.length := Nat.mul_le_mul_right _ (by omega)
  omega
theorem valB_append (zs bs : List Nat) : valB (zs ++ bs) = valB zs * 256 ^ bs.length + valB bs := by
 induction zs with
 | nil => simp [valB]
 | cons a zs ih =>
  simp only [List.cons_append, valB, ih, List.length_append, Nat.pow_add, Nat.add_mul, Nat.mul_assoc]
  omega
theorem octs_succ (n v : Nat) : octs (n + 1) v = octs n (v / 256) ++ [v % 256] := by
 apply List.ext_getElem?
 intro j
 rcases Nat.lt_trichotomy j n with h | h | h
 ·rw [octs_get (by omega), List.getElem?_append_left (by rw [octs_length]; exact h), octs_get h, Nat.div_div_eq_div_mul, ← Nat.pow_add_one']
  congr 4
  omega
 ·subst h
  rw [octs_get (by omega), List.getElem?_append_right (by rw [octs_length]; exact Nat.le_refl _), octs_length]
  simp
 ·rw [List.getElem?_eq_none (by rw [octs_length]; omega), List.getElem?_eq_none (by rw [List.length_append, octs_length]; simp; omega)]
theorem valB_octs (n v : Nat) : valB (octs n v) = v % 256 ^ n := by
 induction n generalizing v with
 | zero => simp [octs, valB, Nat.mod_one]
 | succ n ih =>
  rw [octs_succ, valB_append, ih]
  have h1 : (256 : Nat) ^ (n + 1) = 256 * 256 ^ n := by rw [Nat.pow_succ, Nat.mul_comm]
  rw [h1, Nat.mod_mul]
  simp [valB]
  omega
theorem octs_valB {bs : List Nat} (hb : Lim 256 bs) (far : Nat) : octs (bs.length + far) (valB bs) = List.replicate far 0 ++ bs := by
 apply List.ext_getElem?
 intro j
 rcases Nat.lt_or_ge j (bs.length + far) with hj | hj
 ·rw [octs_get hj]
  rcases Nat.lt_or_ge j far with h | h
  ·rw [List.getElem?_append_left (by simpa using h), List.getElem?_replicate, if_pos h]
   have h1 := valB_lt hb
   have h2 : (256 : Nat) ^ bs.length ≤ 256 ^ (bs.length + far - 1 - j) := Nat.pow_le_pow_right (by omega) (by omega)
   rw [Nat.div_eq_of_lt (by omega)]
  ·rw [List.getElem?_append_right (by simpa using h), List.length_replicate]
   obtain ⟨y, hy⟩ := get_of_lt (xs := bs) (i := j - far) (by omega)
   rw [hy]
   congr 1
   have hyb := hb.get hy
   have hs : bs = bs.take (j - far) ++ (y :: bs.drop (j - far + 1)) := by
    rw [List.getElem?_eq_getElem (by omega)] at hy
    injection hy with hy
    rw [← hy, ← List.drop_eq_getElem_cons (by omega), List.take_append_drop]
   have hd : Lim 256 (bs.drop (j - far + 1)) := hb.drop _
   have hdl := valB_lt hd
   rw [List.length_drop] at hdl
   have e1 : valB bs = (valB (bs.take (j - far)) * 256 + y) * 256 ^ (bs.length - (j - far + 1)) + valB (bs.drop (j - far + 1)) := by
    conv => lhs; rw [hs]
    rw [valB_append, valB, List.length_cons, List.length_drop, Nat.pow_succ, Nat.add_mul, Nat.mul_assoc, Nat.mul_comm 256]
    omega
   rw [e1, show bs.length + far - 1 - j = bs.length - (j - far + 1) from by omega]
   generalize 256 ^ (bs.length - (j - far + 1)) = p at *
   rw [Nat.mul_comm _ p, Nat.mul_add_div (by omega), Nat.div_eq_of_lt hdl]
   omega
 ·rw [List.getElem?_eq_none (by rw [octs_length]; exact hj), List.getElem?_eq_none (by simp; omega)]
theorem nbits_bytes (v n : Nat) : nbits v ≤ 8 * n ↔ v < 256 ^ n := by rw [nbits_le_iff, pow_256]
end Go.Proofs.YtchaahnhpeoomaaGreat
namespace Go.Proofs.YtchaahnhpeoomaaGreat
set_option linter.unusedVariables false
set_option linter.unusedSimpArgs false
set_option maxRecDepth 20000
open Go.RowKit
theorem of_step (x y k : Nat) (hx : x < 4294967296) : bits .or .u32 (x : Int) ((y : Int) * 2 ^ (8 * (k % 4)) % 4294967296) = ((x ||| (y * 2 ^ (8 * (k % 4)) % 4294967296) : Nat) : Int) := by
 have e : ((y : Int) * 2 ^ (8 * (k % 4)) % 4294967296) = ((y * 2 ^ (8 * (k % 4)) % 4294967296 : Nat) : Int) := by simp
 rw [e]
 exact u32_or_nat _ _ hx (Nat.mod_lt _ (by omega))
set_option maxHeartbeats 400000 in
theorem of_any (A : Option Addr) (n c : Nat) (bs : List Nat) (w : World) (hn : n = bs.length) (hl : n ≤ 512) (hx : Rd .u8 w A bs) (lb : Lim 256 bs) :
  Calls Tryz.prog 113 #[.slice A n c] w (Gives2 .u32 (limbs (valB bs)) 0 w) := by
 subst hn
 have HV := Lib.hid (ofTo_val lb)
 have HL := Lib.hid (ofTo_lim (n := (bs.length + 3) / 4) lb (Nat.le_refl _) (by omega))
 go_enter Tryz.func113, Tryz.ntmps113
 go_wp2_with (at_make; refine wpList_make_ints _ rfl _ _ _ rfl .u32 129 4 Tryz.underlying128 info_u32 _ _ ((bs.length + 3) / 4) _ _ rfl rfl (by omega) (by omega) (by omega) (by omega) ?_; intro g w1 hg hw1 hs1 hb1)
 have hgl : w.heap.size ≤ g := by rw [hg.out]; exact Nat.le_refl _
 go_loopw [16] (fun t wr => ∃ k : Nat, t = .int .i64 k ∧ k ≤ bs.length ∧ Blk .u32 wr g (ofTo bs ((bs.length + 3) / 4) k) ∧ Below w.heap.size w wr) (fun t _ => bs.length - (intOf t).toNat)
 case atStart => exact ⟨0, rfl, Nat.zero_le _, hw1.blk, hb1⟩
 case round =>
  obtain ⟨k, rfl, hk, hbr, hbel⟩ := hrel
  by_cases hlt : k < bs.length
  ·obtain ⟨y, hgy⟩ := get_of_lt (xs := bs) (i := bs.length - 1 - k) (by omega)
   obtain ⟨b, o, rfl, hbw, hcl⟩ := ((hx.below hbel).pos hgy)
   have hcell := hcl _ y hgy
   have hdl : k / 4 < (ofTo bs ((bs.length + 3) / 4) k).length := by rw [ofTo_length]; omega
   obtain ⟨x, hgx⟩ := get_of_lt hdl
   have hcx := hbr.cell hgx
   have hfx := hbr.frozen hgx
   have hyb := lb.get hgy
   have hxb := (ofTo_lim (n := (bs.length + 3) / 4) lb (Nat.le_of_lt hlt) (by omega)).get hgx
   have HS := Lib.hid (ofTo_succ hgx hgy)
   have HX := Lib.hid hgx
   clear hcl hgx hgy
   go_wp2
   go_region
   go_wp2
   go_roundw
   case rel =>
    refine ⟨k + 1, by go_num, by omega, ?_, ?_⟩
    ·rw [of_step x y k hxb, HS.out]
     exact (hbr.set HX.out _).drew
    ·exact (hbel.setCell hgl _).drew
   case measure => simp [intOf] <;> omega
  ·obtain rfl : k = bs.length := by omega
   go_wp2_with fail
   refine (trim_any _ _ _ _ _ (by rw [ofTo_length]) (Nat.le_refl _) (by omega) (Rd.of_all hbr) HL.out).mono ?_
   rintro e w' ⟨m, rfl, hm, ht, rfl⟩
   go_wp2_with fail
   go_ret2
   rw [HV.out] at ht
   have hO := (Own.of_blk hbr hgl).take m
   rw [ht.out] at hO
   have hlen : (limbs (valB bs)).length = m := by rw [← ht.out, List.length_take, ofTo_length]; omega
   exact ⟨_, m, by rw [hlen]; rfl, by rw [hlen]; exact Nat.le_refl _, by simp only [maxLen]; omega, hO, hbel⟩
set_option maxHeartbeats 400000 in
theorem refOf_any (A : Option Addr) (n c : Nat) (bs : List Nat) (w : World) (hn : n = bs.length) (hl : n ≤ 512) (hx : Rd .u8 w A bs) (lb : Lim 256 bs) :
  Calls Tryz.prog 71 #[.slice A n c] w (Gives2 .u32 (limbs (valB bs)) 0 w) := by
 subst hn
 have HV := Lib.hid (ofTo_val lb)
 have HL := Lib.hid (ofTo_lim (n := (bs.length + 3) / 4) lb (Nat.le_refl _) (by omega))
 go_enter Tryz.func71, Tryz.ntmps71
 go_wp2_with (at_make; refine wpList_make_ints _ rfl _ _ _ rfl .u32 129 4 Tryz.underlying128 info_u32 _ _ ((bs.length + 3) / 4) _ _ rfl rfl (by omega) (by omega) (by omega) (by omega) ?_; intro g w1 hg hw1 hs1 hb1)
 have hgl : w.heap.size ≤ g := by rw [hg.out]; exact Nat.le_refl _
 go_loopw [5] (fun t wr => ∃ k : Nat, t = .int .i64 k ∧ k ≤ bs.length ∧ Blk .u32 wr g (ofTo bs ((bs.length + 3) / 4) k) ∧ Below w.heap.size w wr) (fun t _ => bs.length - (intOf t).toNat)
 case atStart => exact ⟨0, rfl, Nat.zero_le _, hw1.blk, hb1⟩
 case round =>
  obtain ⟨k, rfl, hk, hbr, hbel⟩ := hrel
  by_cases hlt : k < bs.length
  ·obtain ⟨y, hgy⟩ := get_of_lt (xs := bs) (i := bs.length - 1 - k) (by omega)
   obtain ⟨b, o, rfl, hbw, hcl⟩ := ((hx.below hbel).pos hgy)
   have hcell := hcl _ y hgy
   have hdl : k / 4 < (ofTo bs ((bs.length + 3) / 4) k).length := by rw [ofTo_length]; omega
   obtain ⟨x, hgx⟩ := get_of_lt hdl
   have hcx := hbr.cell hgx
   have hfx := hbr.frozen hgx
   have hyb := lb.get hgy
   have hxb := (ofTo_lim (n := (bs.length + 3) / 4) lb (Nat.le_of_lt hlt) (by omega)).get hgx
   have HS := Lib.hid (ofTo_succ hgx hgy)
   have HX := Lib.hid hgx
   clear hcl hgx hgy
   go_wp2
   go_region
   go_wp2
   go_roundw
   case rel =>
    refine ⟨k + 1, by go_num, by omega, ?_, ?_⟩
    ·rw [of_step x y k hxb, HS.out]
     exact (hbr.set HX.out _).drew
    ·exact (hbel.setCell hgl _).drew
   case measure => simp [intOf] <;> omega
  ·obtain rfl : k = bs.length := by omega
   go_wp2_with fail
   refine (refTrim_any _ _ _ _ _ (by rw [ofTo_length]) (Nat.le_refl _) (by omega) (Rd.of_all hbr) HL.out).mono ?_
   rintro e w' ⟨A', c', rfl, h1, h2, hown, hb2⟩
   go_wp2_with fail
   go_ret2
   rw [HV.out] at h1 hown
   exact ⟨A', c', by rw [HV.out]; rfl, h1, h2, hown.mono hbel.size, hbel.trans (hb2.mono hbel.size)⟩
end Go.Proofs.YtchaahnhpeoomaaGreat
namespace Go.Proofs.YtchaahnhpeoomaaGreat
set_option linter.unusedVariables false
set_option linter.unusedSimpArgs false
set_option maxRecDepth 20000
open Go.RowKit
def bitsOf (xs : List Nat) : Int := if isRight xs = true then (nbits (val xs) : Int) else -1
theorem bitsOf_right {xs : List Nat} (h : isRight xs = true) : bitsOf xs = (nbits (val xs) : Int) := by simp [bitsOf, h]
theorem bitsOf_not {xs : List Nat} (h : isRight xs = false) : bitsOf xs = -1 := by simp [bitsOf, h]
theorem nbits_limb {x : Nat} (h : x < 4294967296) : nbits x ≤ 32 := (nbits_le_iff x 32).2 (by omega)
theorem last_pos {xs : List Nat} {x : Nat} (h : isRight xs = true) (hx : xs[xs.length - 1]? = some x) : x ≠ 0 := by
 simp [isRight] at h
 rintro rfl
 exact h.2 (by rw [List.getLast?_eq_getElem?]; exact hx)
set_option maxHeartbeats 400000 in
theorem bits_any (A : Option Addr) (n c : Nat) (xs : List Nat) (w : World) (hn : n = xs.length) (hl : n ≤ 70000) (hx : Rd .u32 w A xs) (lx : Lim 4294967296 xs) :
  Calls Tryz.prog 143 #[.slice A n c] w fun e w' => e = .returned (.int .i64 (bitsOf xs)) ∧ w = w' := by
 subst hn
 cases hr : isRight xs with
 | false =>
  have HB := Lib.hid (bitsOf_not hr)
  go_enter Tryz.func143, Tryz.ntmps143
  go_wp2_with (go_at_call 135; refine (right_any A _ c xs _ rfl (by omega) hx).mono ?_; rintro e w' ⟨rfl, rfl⟩)
  go_ret
  exact ⟨by rw [HB.out]; rfl, rfl⟩
 | true =>
  have hlen := isRight_len hr
  by_cases h0 : xs.length = 0
  ·have h1 : ((xs.length : Int) == 0) = true := by simpa using h0
   have he : xs = [] := List.eq_nil_of_length_eq_zero h0
   have HB := Lib.hid (show bitsOf xs = 0 by rw [bitsOf_right hr, he]; rfl)
   have HZ := Lib.hid h0
   clear h0 he
   go_enter Tryz.func143, Tryz.ntmps143
   go_wp2_with (go_at_call 135; refine (right_any A _ c xs _ rfl (by omega) hx).mono ?_; rintro e w' ⟨rfl, rfl⟩)
   go_ret
   exact ⟨by rw [HB.out]; rfl, rfl⟩
  ·have h1 : ((xs.length : Int) == 0) = false := by simpa using h0
   obtain ⟨x, hgx⟩ := get_of_lt (xs := xs) (i := xs.length - 1) (by omega)
   obtain ⟨b, o, rfl, hbw, hc⟩ := hx.pos hgx
   have hcell := hc _ x hgx
   have hxb := lx.get hgx
   have hne := last_pos hr hgx
   have HB := Lib.hid (show bitsOf xs = ((32 * (xs.length - 1) + nbits x : Nat) : Int) by rw [bitsOf_right hr, nbits_val lx hgx hne])
   have HE := Lib.hid (bitLen_nbits x (by omega))
   have hnb := nbits_limb hxb
   clear hc hgx hne
   go_enter Tryz.func143, Tryz.ntmps143
   go_wp2_with fail
   refine (right_any _ _ c xs _ rfl (by omega) hx).mono ?_
   rintro e w' ⟨rfl, rfl⟩
   go_wp2_with fail
   refine (Tryz.bits_Len32 x _ (by omega) (by omega)).mono ?_
   rintro e w' ⟨rfl, rfl⟩
   simp only [Int.toNat_natCast]
   rw [HE.out]
   go_wp2_with fail
   go_ret
   exact ⟨ret_int (by rw [HB.out]; go_num), rfl⟩
set_option maxHeartbeats 400000 in
theorem refBits_any (A : Option Addr) (n c : Nat) (xs : List Nat) (w : World) (hn : n = xs.length) (hl : n ≤ 70000) (hx : Rd .u32 w A xs) (lx : Lim 4294967296 xs) :
  Calls Tryz.prog 108 #[.slice A n c] w fun e w' => e = .returned (.int .i64 (bitsOf xs)) ∧ w = w' := by
 subst hn
 cases hr : isRight xs with
 | false =>
  have HB := Lib.hid (bitsOf_not hr)
  go_enter Tryz.func108, Tryz.ntmps108
  go_wp2_with (go_at_call 103; refine (refRight_any A _ c xs _ rfl (by omega) hx).mono ?_; rintro e w' ⟨rfl, rfl⟩)
  go_ret
  exact ⟨by rw [HB.out]; rfl, rfl⟩
 | true =>
  have hlen := isRight_len hr
  by_cases h0 : xs.length = 0
  ·have h1 : ((xs.length : Int) == 0) = true := by simpa using h0
   have he : xs = [] := List.eq_nil_of_length_eq_zero h0
   have HB := Lib.hid (show bitsOf xs = 0 by rw [bitsOf_right hr, he]; rfl)
   have HZ := Lib.hid h0
   clear h0 he
   go_enter Tryz.func108, Tryz.ntmps108
   go_wp2_with (go_at_call 103; refine (refRight_any A _ c xs _ rfl (by omega) hx).mono ?_; rintro e w' ⟨rfl, rfl⟩)
   go_ret
   exact ⟨by rw [HB.out]; rfl, rfl⟩
  ·have h1 : ((xs.length : Int) == 0) = false := by simpa using h0
   obtain ⟨x, hgx⟩ := get_of_lt (xs := xs) (i := xs.length - 1) (by omega)
   obtain ⟨b, o, rfl, hbw, hc⟩ := hx.pos hgx
   have hcell := hc _ x hgx
   have hxb := lx.get hgx
   have hne := last_pos hr hgx
   have HB := Lib.hid (show bitsOf xs = ((32 * (xs.length - 1) + nbits x : Nat) : Int) by rw [bitsOf_right hr, nbits_val lx hgx hne])
   have hnb := nbits_limb hxb
   clear hc hgx hne
   go_enter Tryz.func108, Tryz.ntmps108
   go_wp2_with fail
   refine (refRight_any _ _ c xs _ rfl (by omega) hx).mono ?_
   rintro e w' ⟨rfl, rfl⟩
   go_wp2_with fail
   go_loop [3, 4] (fun a t => ∃ m z : Nat, a = .int .i64 m ∧ t = .int .u32 z ∧ z < 4294967296 ∧ m ≤ 32 * 256 ∧ Hid (m + nbits z = 32 * (xs.length - 1) + nbits x)) (fun _ t => (intOf t).toNat)
   case atStart => exact ⟨32 * (xs.length - 1), x, by go_num, rfl, hxb, by omega, rfl⟩
   case round =>
    obtain ⟨m, z, rfl, rfl, hz, hm, hs⟩ := hrel
    by_cases hz0 : z = 0
    ·subst hz0
     have HS := Lib.hid (show m = 32 * (xs.length - 1) + nbits x by have := hs.out; simpa [nbits] using this)
     go_wp2_with fail
     go_ret
     exact ⟨ret_int (by rw [HB.out, ← HS.out]), rfl⟩
    ·have hzp : 0 < z := by omega
     have hm2 : m + 1 ≤ 32 * 256 := by
      have := hs.out
      have := nbits_pos hz0
      omega
     have HS := Lib.hid (show m + 1 + nbits (z / 2) = 32 * (xs.length - 1) + nbits x by have := hs.out; rw [nbits_half hz0] at this; omega)
     go_wp2_with fail
     go_round
     case rel => exact ⟨m + 1, z / 2, by go_num, by first | rfl | go_num, by omega, hm2, HS.out⟩
     case measure => simp [intOf] <;> omega
set_option maxHeartbeats 400000 in
theorem cmpAny_any (A B : Option Addr) (n m c d : Nat) (xs ys : List Nat) (w : World) (hn : n = xs.length) (hm : m = ys.length) (hl : n ≤ 70000) (hl' : m ≤ 70000) (hx : Rd .u32 w A xs) (hy : Rd .u32 w B ys) (lx : Lim 4294967296 xs) (ly : Lim 4294967296 ys) :
  Calls Tryz.prog 159 #[.slice A n c, .slice B m d] w (Quiet (.int .i64 (if isRight xs = true ∧ isRight ys = true then cmpN (val xs) (val ys) else 0)) w) := by
 subst hn
 subst hm
 cases h1 : isRight xs with
 | false =>
  have HP := Lib.hid (show (if (false = true) ∧ isRight ys = true then cmpN (val xs) (val ys) else (0 : Int)) = 0 by simp)
  generalize (if (false = true) ∧ isRight ys = true then cmpN (val xs) (val ys) else (0 : Int)) = r at *
  go_enter Tryz.func159, Tryz.ntmps159
  go_wp2_with fail
  refine (right_any _ _ c xs _ rfl (by omega) hx).mono ?_
  rintro e w' ⟨rfl, rfl⟩
  go_wp2_with fail
  go_ret
  exact Quiet.mk0 (congrArg (Value.int .i64) HP.out.symm)
 | true =>
  cases h2 : isRight ys with
  | false =>
   have HP := Lib.hid (show (if (true = true) ∧ (false = true) then cmpN (val xs) (val ys) else (0 : Int)) = 0 by simp)
   generalize (if (true = true) ∧ (false = true) then cmpN (val xs) (val ys) else (0 : Int)) = r at *
   go_enter Tryz.func159, Tryz.ntmps159
   go_wp2_with fail
   refine (right_any _ _ c xs _ rfl (by omega) hx).mono ?_
   rintro e w' ⟨rfl, rfl⟩
   go_wp2_with fail
   refine (right_any _ _ d ys _ rfl (by omega) hy).mono ?_
   rintro e w' ⟨rfl, rfl⟩
   go_wp2_with fail
   go_ret
   exact Quiet.mk0 (congrArg (Value.int .i64) HP.out.symm)
  | true =>
   have HP := Lib.hid (show (if (true = true) ∧ (true = true) then cmpN (val xs) (val ys) else (0 : Int)) = cmpN (val xs) (val ys) by simp)
   generalize (if (true = true) ∧ (true = true) then cmpN (val xs) (val ys) else (0 : Int)) = r at *
   have c1 := isRight_canon lx h1
   have c2 := isRight_canon ly h2
   go_enter Tryz.func159, Tryz.ntmps159
   go_wp2_with fail
   refine (right_any _ _ c xs _ rfl (by omega) hx).mono ?_
   rintro e w' ⟨rfl, rfl⟩
   go_wp2_with fail
   refine (right_any _ _ d ys _ rfl (by omega) hy).mono ?_
   rintro e w' ⟨rfl, rfl⟩
   go_wp2_with fail
   refine (cmp_any _ _ _ _ c d xs ys _ rfl rfl hl hl' hx hy c1 c2).mono ?_
   rintro e w' ⟨rfl, q, rfl⟩
   go_wp2_with fail
   go_ret
   exact Quiet.mk (congrArg (Value.int .i64) HP.out.symm) _
theorem oct_step (x k : Nat) : ((x : Int) / 2 ^ (8 * (k % 4)) % 256) = ((x / 2 ^ (8 * (k % 4)) % 256 : Nat) : Int) := by simp
set_option maxHeartbeats 400000 in
theorem octets_any_ok (A : Option Addr) (m c : Nat) (xs : List Nat) (n : Nat) (w : World) (hm : m = xs.length) (hl : m ≤ 70000) (hx : Rd .u32 w A xs) (lx : Lim 4294967296 xs) (hr : isRight xs = true) (hn : n ≤ 1024) (hb : nbits (val xs) ≤ 8 * n) :
  Calls Tryz.prog 117 #[.slice A m c, .int .i64 (n : Int)] w (Gives2 .u8 (octs n (val xs)) 0 w) := by
 subst hm
 have hlen := isRight_len hr
 have HB := Lib.hid (bitsOf_right hr)
 go_enter Tryz.func117, Tryz.ntmps117
 go_wp2_with fail
 refine (right_any _ _ c xs _ rfl (by omega) hx).mono ?_
 rintro e w' ⟨rfl, rfl⟩
 go_wp2_with fail
 refine (bits_any _ _ c xs _ rfl (by omega) hx lx).mono ?_
 rintro e w' ⟨rfl, rfl⟩
 rw [HB.out]
 go_wp2_with (at_make; refine wpList_make_ints _ rfl _ _ _ rfl .u8 5 1 Tryz.underlying22 info_u8 _ _ n _ _ rfl rfl (by omega) (by omega) (by omega) (by omega) ?_; intro g w1 hg hw1 hs1 hb1)
 have hgl : w.heap.size ≤ g := by rw [hg.out]; exact Nat.le_refl _
 go_loopw [7] (fun t wr => ∃ k : Nat, t = .int .i64 k ∧ k ≤ n ∧ k ≤ 4 * xs.length ∧ Blk .u8 wr g (octTo xs n k) ∧ Below w.heap.size w wr) (fun t _ => n - (intOf t).toNat)
 case atStart => exact ⟨0, rfl, Nat.zero_le _, Nat.zero_le _, hw1.blk, hb1⟩
 case round =>
  obtain ⟨k, rfl, hk, hk2, hbr, hbel⟩ := hrel
  by_cases hlt : k < n
  ·by_cases hlt2 : k < 4 * xs.length
   ·obtain ⟨x, hgx⟩ := get_of_lt (xs := xs) (i := k / 4) (by omega)
    obtain ⟨b, o, rfl, hbw, hcl⟩ := ((hx.below hbel).pos hgx)
    have hcell := hcl _ x hgx
    have hdl : n - 1 - k < (octTo xs n k).length := by rw [octTo_length]; omega
    obtain ⟨y, hgy⟩ := get_of_lt hdl
    have hcx := hbr.cell hgy
    have hfx := hbr.frozen hgy
    have hxb := lx.get hgx
    have HS := Lib.hid (octTo_succ (n := n) hgx)
    have HY := Lib.hid hgy
    clear hcl hgx hgy
    go_wp2
    go_roundw
    case rel =>
     refine ⟨k + 1, by go_num, by omega, by omega, ?_, hbel.setCell hgl _⟩
     rw [oct_step, HS.out]
     exact hbr.set HY.out _
    case measure => simp [intOf] <;> omega
   ·have HE := Lib.hid (octTo_octs lx (show k = min n (4 * xs.length) by omega))
    go_wp2
    go_ret2
    rw [HE.out] at hbr
    exact ⟨_, n, by rw [octs_length]; rfl, by rw [octs_length]; exact Nat.le_refl _, by simp only [maxLen]; omega, Own.of_blk hbr hgl, hbel⟩
  ·have HE := Lib.hid (octTo_octs lx (show k = min n (4 * xs.length) by omega))
   go_wp2
   go_ret2
   rw [HE.out] at hbr
   exact ⟨_, n, by rw [octs_length]; rfl, by rw [octs_length]; exact Nat.le_refl _, by simp only [maxLen]; omega, Own.of_blk hbr hgl, hbel⟩
set_option maxHeartbeats 400000 in
theorem refOctets_any_ok (A : Option Addr) (m c : Nat) (xs : List Nat) (n : Nat) (w : World) (hm : m = xs.length) (hl : m ≤ 70000) (hx : Rd .u32 w A xs) (lx : Lim 4294967296 xs) (hr : isRight xs = true) (hn : n ≤ 1024) (hb : nbits (val xs) ≤ 8 * n) :
  Calls Tryz.prog 74 #[.slice A m c, .int .i64 (n : Int)] w (Gives2 .u8 (octs n (val xs)) 0 w) := by
 subst hm
 have hlen := isRight_len hr
 have HB := Lib.hid (bitsOf_right hr)
 go_enter Tryz.func74, Tryz.ntmps74
 go_wp2_with fail
 refine (refRight_any _ _ c xs _ rfl (by omega) hx).mono ?_
 rintro e w' ⟨rfl, rfl⟩
 go_wp2_with fail
 refine (refBits_any _ _ c xs _ rfl (by omega) hx lx).mono ?_
 rintro e w' ⟨rfl, rfl⟩
 rw [HB.out]
 go_wp2_with (at_make; refine wpList_make_ints _ rfl _ _ _ rfl .u8 5 1 Tryz.underlying22 info_u8 _ _ n _ _ rfl rfl (by omega) (by omega) (by omega) (by omega) ?_; intro g w1 hg hw1 hs1 hb1)
 have hgl : w.heap.size ≤ g := by rw [hg.out]; exact Nat.le_refl _
 go_loopw [7] (fun t wr => ∃ k : Nat, t = .int .i64 k ∧ k ≤ n ∧ k ≤ 4 * xs.length ∧ Blk .u8 wr g (octTo xs n k) ∧ Below w.heap.size w wr) (fun t _ => n - (intOf t).toNat)
 case atStart => exact ⟨0, rfl, Nat.zero_le _, Nat.zero_le _, hw1.blk, hb1⟩
 case round =>
  obtain ⟨k, rfl, hk, hk2, hbr, hbel⟩ := hrel
  by_cases hlt : k < n
  ·by_cases hlt2 : k < 4 * xs.length
   ·obtain ⟨x, hgx⟩ := get_of_lt (xs := xs) (i := k / 4) (by omega)
    obtain ⟨b, o, rfl, hbw, hcl⟩ := ((hx.below hbel).pos hgx)
    have hcell := hcl _ x hgx
    have hdl : n - 1 - k < (octTo xs n k).length := by rw [octTo_length]; omega
    obtain ⟨y, hgy⟩ := get_of_lt hdl
    have hcx := hbr.cell hgy
    have hfx := hbr.frozen hgy
    have hxb := lx.get hgx
    have HS := Lib.hid (octTo_succ (n := n) hgx)
    have HY := Lib.hid hgy
    clear hcl hgx hgy
    go_wp2
    go_roundw
    case rel =>
     refine ⟨k + 1, by go_num, by omega, by omega, ?_, hbel.setCell hgl _⟩
     rw [oct_step, HS.out]
     exact hbr.set HY.out _
    case measure => simp [intOf] <;> omega
   ·have HE := Lib.hid (octTo_octs lx (show k = min n (4 * xs.length) by omega))
    go_wp2
    go_ret2
    rw [HE.out] at hbr
    exact ⟨_, n, by rw [octs_length]; rfl, by rw [octs_length]; exact Nat.le_refl _, by simp only [maxLen]; omega, Own.of_blk hbr hgl, hbel⟩
  ·have HE := Lib.hid (octTo_octs lx (show k = min n (4 * xs.length) by omega))
   go_wp2
   go_ret2
   rw [HE.out] at hbr
   exact ⟨_, n, by rw [octs_length]; rfl, by rw [octs_length]; exact Nat.le_refl _, by simp only [maxLen]; omega, Own.of_blk hbr hgl, hbel⟩
end Go.Proofs.YtchaahnhpeoomaaGreat
namespace Go.Proofs.YtchaahnhpeoomaaGreat
set_option linter.unusedVariables false
set_option linter.unusedSimpArgs false
set_option maxRecDepth 20000
open Go.RowKit
def diff32 (x y b : Nat) : Nat := (x + 8589934592 - y - b) % 4294967296
def borrow32 (x y b : Nat) : Nat := if x < y + b then 1 else 0
theorem top_bit (v : Nat) (h : v < 4294967296) : v / 2147483648 = if v.testBit 31 = true then 1 else 0 := by
 rw [Nat.testBit_eq_decide_div_mod_eq]
 simp
 split <;> omega
theorem borrow_eq (x y b : Nat) (hx : x < 4294967296) (hy : y < 4294967296) (hb : b ≤ 1) :
  bits .or .u32 (bits .and .u32 (bits .xor .u32 IntKind.u32.max (x : Int)) (y : Int)) (bits .and .u32 (bits .xor .u32 IntKind.u32.max (bits .xor .u32 (x : Int) (y : Int))) (((x : Int) - y - b) % 4294967296)) / 2147483648 = ((borrow32 x y b : Nat) : Int) := by
 have hm : IntKind.u32.max = ((4294967295 : Nat) : Int) := rfl
 have hd : ((x : Int) - y - b) % 4294967296 = ((diff32 x y b : Nat) : Int) := by unfold diff32; omega
 have hdl : diff32 x y b < 4294967296 := Nat.mod_lt _ (by omega)
 have l1 : 4294967295 ^^^ x < 2 ^ 32 := Nat.xor_lt_two_pow (by omega) (by omega)
 have l2 : x ^^^ y < 2 ^ 32 := Nat.xor_lt_two_pow (by omega) (by omega)
 have l3 : 4294967295 ^^^ (x ^^^ y) < 2 ^ 32 := Nat.xor_lt_two_pow (by omega) (by omega)
 have l4 : (4294967295 ^^^ x) &&& y < 2 ^ 32 := Nat.and_lt_two_pow _ (by omega)
 have l5 : (4294967295 ^^^ (x ^^^ y)) &&& diff32 x y b < 2 ^ 32 := Nat.and_lt_two_pow _ (by omega)
 have l6 : ((4294967295 ^^^ x) &&& y) ||| ((4294967295 ^^^ (x ^^^ y)) &&& diff32 x y b) < 2 ^ 32 := Nat.or_lt_two_pow l4 l5
 rw [hm, hd, u32_xor_nat _ _ (by omega) hx, u32_and_nat _ _ l1 hy, u32_xor_nat _ _ hx hy, u32_xor_nat _ _ (by omega) l2, u32_and_nat _ _ l3 hdl, u32_or_nat _ _ l4 l5]
 have hq := top_bit _ l6
 rw [Nat.testBit_or, Nat.testBit_and, Nat.testBit_and, Nat.testBit_xor, Nat.testBit_xor, Nat.testBit_xor] at hq
 have t0 : (4294967295 : Nat).testBit 31 = true := by decide
 have tx : x.testBit 31 = decide (2147483648 ≤ x) := by rw [Nat.testBit_eq_decide_div_mod_eq]; simp; omega
 have ty : y.testBit 31 = decide (2147483648 ≤ y) := by rw [Nat.testBit_eq_decide_div_mod_eq]; simp; omega
 have td : (diff32 x y b).testBit 31 = decide (2147483648 ≤ diff32 x y b) := by rw [Nat.testBit_eq_decide_div_mod_eq]; simp; omega
 rw [t0, tx, ty, td] at hq
 have e : ((((4294967295 ^^^ x) &&& y) ||| ((4294967295 ^^^ (x ^^^ y)) &&& diff32 x y b) : Nat) : Int) / 2147483648 = (((((4294967295 ^^^ x) &&& y) ||| ((4294967295 ^^^ (x ^^^ y)) &&& diff32 x y b)) / 2147483648 : Nat) : Int) := by simp
 rw [e, hq]
 congr 1
 unfold borrow32
 by_cases h1 : 2147483648 ≤ x <;> by_cases h2 : 2147483648 ≤ y <;> by_cases h3 : x < y + b <;> simp [h1, h2, h3] <;> first | omega | (unfold diff32; omega)
def Sub32Post (x y b : Nat) (w : World) (e : Ending) (w' : World) : Prop :=
 e = .returned (.tuple #[.int .u32 (diff32 x y b : Nat), .int .u32 (borrow32 x y b : Nat)]) ∧ w = w'
set_option maxHeartbeats 400000 in
theorem sub32_any (x y b : Nat) (w : World) (hx : x < 4294967296) (hy : y < 4294967296) (hb : b ≤ 1) :
  Calls Tryz.prog 179 #[.int .u32 (x : Int), .int .u32 (y : Int), .int .u32 (b : Int)] w (Sub32Post x y b w) := by
 have hs : IntKind.u32.signed = false := rfl
 have HB := Lib.hid (borrow_eq x y b hx hy hb)
 have HD := Lib.hid (show ((((x : Int) - y) % 4294967296 - b) % 4294967296) = ((diff32 x y b : Nat) : Int) by unfold diff32; omega)
 go_enter Tryz.func179, Tryz.ntmps179
 go_wp2
 go_ret2
 exact ⟨by rw [← HB.out, ← HD.out]; rfl, rfl⟩
def takeTo (cs : List Nat) (off : Nat) (ys : List Nat) : Nat → List Nat × Nat
 | 0 => (cs, 0)
 | k + 1 =>
  let p := takeTo cs off ys k
  (p.1.set (off + k) (diff32 (p.1.getD (off + k) 0) (ys.getD k 0) p.2), borrow32 (p.1.getD (off + k) 0) (ys.getD k 0) p.2)
theorem takeTo_length (cs : List Nat) (off : Nat) (ys : List Nat) (k : Nat) : (takeTo cs off ys k).1.length = cs.length := by
 induction k with
 | zero => rfl
 | succ k ih => simp [takeTo, ih]
theorem takeTo_lim (cs : List Nat) (off : Nat) (ys : List Nat) (k : Nat) (lc : Lim 4294967296 cs) : Lim 4294967296 (takeTo cs off ys k).1 := by
 induction k with
 | zero => exact lc
 | succ k ih => exact ih.set (Nat.mod_lt _ (by omega))
theorem borrow32_le (x y b : Nat) : borrow32 x y b ≤ 1 := by unfold borrow32; split <;> omega
theorem takeTo_borrow (cs : List Nat) (off : Nat) (ys : List Nat) (k : Nat) : (takeTo cs off ys k).2 ≤ 1 := by
 cases k with
 | zero => exact Nat.zero_le _
 | succ k => exact borrow32_le _ _ _
theorem takeTo_succ {cs : List Nat} {off : Nat} {ys : List Nat} {k y x c : Nat} {ds : List Nat} (hy : ys.getD k 0 = y) (hd : takeTo cs off ys k = (ds, c)) (hx : ds[off + k]? = some x) :
  takeTo cs off ys (k + 1) = (ds.set (off + k) (diff32 x y c), borrow32 x y c) := by
 simp only [takeTo, hd, hy, List.getD_eq_getElem?_getD, hx, Option.getD_some]
theorem takeTo_stay {cs : List Nat} {off : Nat} {ys : List Nat} {k : Nat} {ds : List Nat} (hl : Lim 4294967296 cs) (hd : takeTo cs off ys k = (ds, 0)) (hk : ys.length ≤ k) (j : Nat) (hj : off + k + j ≤ cs.length) : takeTo cs off ys (k + j) = (ds, 0) := by
 induction j with
 | zero => exact hd
 | succ j ih =>
  have h1 := ih (by omega)
  have hlen := takeTo_length cs off ys (k + j)
  rw [h1] at hlen
  obtain ⟨x, hx⟩ := get_of_lt (xs := ds) (i := off + (k + j)) (by simp at hlen; omega)
  have hxb : x < 4294967296 := by have := takeTo_lim cs off ys (k + j) hl; rw [h1] at this; exact this.get hx
  have hy : ys.getD (k + j) 0 = 0 := by rw [List.getD_eq_getElem?_getD, List.getElem?_eq_none (by omega)]; rfl
  have h2 := takeTo_succ hy h1 hx
  rw [← Nat.add_assoc, h2]
  have e1 : diff32 x 0 0 = x := by unfold diff32; omega
  have e2 : borrow32 x 0 0 = 0 := by unfold borrow32; simp
  rw [e1, e2]
  refine Prod.ext ?_ rfl
  show ds.set (off + (k + j)) x = ds
  apply List.ext_getElem?
  intro i
  by_cases e : off + (k + j) = i
  ·subst e; rw [List.getElem?_set_self (List.getElem?_eq_some_iff.1 hx).1, hx]
  ·rw [List.getElem?_set_ne e]
def TakePost (cs ys : List Nat) (g off n : Nat) (w : World) (e : Ending) (w' : World) : Prop :=
 e = .returned (.bool ((takeTo cs off ys n).2 != 0)) ∧ Blk .u32 w' g (takeTo cs off ys n).1 ∧ w.grownBy w' (some g)
set_option maxHeartbeats 800000 in
theorem take_any (cs ys : List Nat) (g off n cap m c : Nat) (A : Option Addr) (w : World) (hb : Blk .u32 w g cs) (hy : Rd .u32 w A ys) (ho : Off A ys g)
  (hm : m = ys.length) (hl : n ≤ 70000) (hmn : m ≤ n) (hoff : off + n ≤ cs.length) (lc : Lim 4294967296 cs) (ly : Lim 4294967296 ys) :
  Calls Tryz.prog 176 #[.slice (some ⟨g, off, none⟩) n cap, .slice A m c] w (TakePost cs ys g off n w) := by
 subst hm
 go_enter Tryz.func176, Tryz.ntmps176
 go_wp2
 go_loopw [5, 10] (fun b i wr => ∃ k cy : Nat, ∃ ds, k ≤ n ∧ i = .int .i64 k ∧ b = .int .u32 cy ∧ cy ≤ 1 ∧ Hid (takeTo cs off ys k = (ds, cy)) ∧ Blk .u32 wr g ds ∧ w.grownBy wr (some g)) (fun _ i _ => n - (intOf i).toNat)
 case atStart => exact ⟨0, 0, cs, Nat.zero_le _, rfl, rfl, by omega, rfl, hb, only_refl _ _⟩
 case round =>
  obtain ⟨k, cy, ds, hk, rfl, rfl, hcy, hf, hbr, hgr⟩ := hrel
  by_cases hlt : k < n
  ·have hdl : off + k < ds.length := by have := takeTo_length cs off ys k; rw [hf.out] at this; simp at this; omega
   obtain ⟨x, hgx⟩ := get_of_lt hdl
   have hxb : x < 4294967296 := by have := takeTo_lim cs off ys k lc; rw [hf.out] at this; exact this.get hgx
   have hcx := hbr.cell hgx
   have hfx := hbr.frozen hgx
   by_cases hly : k < ys.length
   ·obtain ⟨y, hgy⟩ := get_of_lt hly
    have hyb := ly.get hgy
    obtain ⟨b, o, rfl, hbw, hcy0⟩ := (hy.grown hgr (fun _ e => by injection e with e; subst e; exact ho)).pos hgy
    have hcell := hcy0 k y hgy
    have hstep := Lib.hid (takeTo_succ (y := y) (by simp [List.getD_eq_getElem?_getD, hgy]) hf.out hgx)
    have hset := Lib.hid (hbr.set hgx (diff32 x y cy))
    clear hcy0 hgy hgx
    go_wp2_with (go_at_call 179; refine (sub32_any x y cy _ hxb hyb hcy).mono ?_; rintro e w' ⟨rfl, rfl⟩)
    go_roundw
    case rel => exact ⟨k + 1, _, _, by omega, by go_num, rfl, borrow32_le _ _ _, hstep.out, hset.out, only_set hgr (.inl rfl) _⟩
    case measure => simp [intOf] <;> omega
   ·by_cases hc0 : cy = 0
    ·subst hc0
     have HE := Lib.hid (takeTo_stay lc hf.out (by omega) (n - k) (by omega))
     have HN := Lib.hid (show k + (n - k) = n by omega)
     go_wp2_with fail
     go_ret
     have := HE.out
     rw [HN.out] at this
     refine ⟨by rw [this]; rfl, by rw [this]; exact hbr, hgr⟩
    ·have hc1 : ((cy : Int) == 0) = false := by simpa using hc0
     have hstep := Lib.hid (takeTo_succ (y := 0) (by rw [List.getD_eq_getElem?_getD, List.getElem?_eq_none (by omega)]; rfl) hf.out hgx)
     have hset := Lib.hid (hbr.set hgx (diff32 x 0 cy))
     clear hgx hc0
     go_wp2_with (go_at_call 179; refine (sub32_any x 0 cy _ hxb (by omega) hcy).mono ?_; rintro e w' ⟨rfl, rfl⟩)
     go_roundw
     case rel => exact ⟨k + 1, _, _, by omega, by go_num, rfl, borrow32_le _ _ _, hstep.out, hset.out, only_set hgr (.inl rfl) _⟩
     case measure => simp [intOf] <;> omega
  ·obtain rfl : k = n := by omega
   have hend := Lib.hid hf.out
   go_wp2_with fail
   go_ret
   refine ⟨by rw [hend.out]; exact ret_bool (by rw [Bool.eq_iff_iff]; simp), by rw [hend.out]; exact hbr, hgr⟩
end Go.Proofs.YtchaahnhpeoomaaGreat
namespace Go.Proofs.YtchaahnhpeoomaaGreat
set_option linter.unusedVariables false
set_option linter.unusedSimpArgs false
set_option maxRecDepth 20000
theorem diff_borrow (x y b : Nat) (hx : x < 4294967296) (hy : y < 4294967296) (hb : b ≤ 1) : diff32 x y b + y + b = x + 4294967296 * borrow32 x y b := by
 unfold diff32 borrow32
 split <;> omega
theorem takeTo_val {cs ys : List Nat} {off k : Nat} (h : off + k ≤ cs.length) (lc : Lim 4294967296 cs) (ly : Lim 4294967296 ys) :
  val (takeTo cs off ys k).1 + 4294967296 ^ off * val (ys.take k) = val cs + 4294967296 ^ (off + k) * (takeTo cs off ys k).2 := by
 induction k with
 | zero => simp [takeTo, val]
 | succ k ih =>
  have ih := ih (by omega)
  obtain ⟨ds, c, hd⟩ : ∃ ds c, takeTo cs off ys k = (ds, c) := ⟨_, _, rfl⟩
  have hlen := takeTo_length cs off ys k
  have hc := takeTo_borrow cs off ys k
  have hlim := takeTo_lim cs off ys k lc
  rw [hd] at ih hlen hc hlim
  simp only at ih hlen hc hlim
  obtain ⟨x, hx⟩ := get_of_lt (xs := ds) (i := off + k) (by omega)
  rw [takeTo_succ rfl hd hx, val_take_succ rfl]
  simp only
  have hy := getD_lim ly (by omega) k
  generalize ys.getD k 0 = y at *
  have h0 := diff_borrow x y c (hlim.get hx) hy hc
  have h1 := val_set hx (diff32 x y c)
  have h2 : 4294967296 ^ (off + (k + 1)) * borrow32 x y c = 4294967296 ^ (off + k) * (4294967296 * borrow32 x y c) := by
   rw [← Nat.add_assoc, Nat.pow_succ, Nat.mul_assoc]
  have h3 : 4294967296 ^ (off + k) * diff32 x y c + 4294967296 ^ (off + k) * y + 4294967296 ^ (off + k) * c = 4294967296 ^ (off + k) * x + 4294967296 ^ (off + k) * (4294967296 * borrow32 x y c) := by
   rw [← Nat.mul_add, ← Nat.mul_add, ← Nat.mul_add, h0]
  have h4 : 4294967296 ^ off * (val (ys.take k) + 4294967296 ^ k * y) = 4294967296 ^ off * val (ys.take k) + 4294967296 ^ (off + k) * y := by
   rw [Nat.mul_add, Nat.pow_add, Nat.mul_assoc]
  rw [h2, h4]
  omega
theorem takeTo_get {cs ys : List Nat} {off k i : Nat} (h : i < off ∨ off + k ≤ i) : (takeTo cs off ys k).1[i]? = cs[i]? := by
 induction k with
 | zero => rfl
 | succ k ih =>
  simp only [takeTo]
  rw [List.getElem?_set_ne (by omega)]
  exact ih (by omega)
theorem take_ext {xs ys : List Nat} {n : Nat} (h : ∀ i, i < n → xs[i]? = ys[i]?) : xs.take n = ys.take n := by
 apply List.ext_getElem?
 intro i
 rw [List.getElem?_take, List.getElem?_take]
 split
 ·exact h i (by assumption)
 ·rfl
theorem takeTo_sub {cs ys : List Nat} {off n : Nat} (h : off + n = cs.length) (lc : Lim 4294967296 cs) (ly : Lim 4294967296 ys) (hn : ys.length ≤ n) (hle : 4294967296 ^ off * val ys ≤ val cs) :
  (takeTo cs off ys n).2 = 0 ∧ val (takeTo cs off ys n).1 = val cs - 4294967296 ^ off * val ys := by
 have h1 := takeTo_val (cs := cs) (off := off) (k := n) (ys := ys) (by omega) lc ly
 rw [List.take_of_length_le hn] at h1
 have h2 := val_lt (takeTo_lim cs off ys n lc)
 rw [takeTo_length, ← h] at h2
 have h3 := takeTo_borrow cs off ys n
 have h4 : (takeTo cs off ys n).2 = 0 := by
  rcases (show (takeTo cs off ys n).2 = 0 ∨ (takeTo cs off ys n).2 = 1 by omega) with e | e
  ·exact e
  ·rw [e, Nat.mul_one] at h1
   generalize 4294967296 ^ (off + n) = p at *
   generalize 4294967296 ^ off * val ys = q at *
   omega
 rw [h4] at h1
 exact ⟨h4, by omega⟩
def shiftTo (xs : List Nat) (k : Nat) : Nat → List Nat
 | 0 => List.replicate (xs.length + 1) 0
 | i + 1 => ((shiftTo xs k i).set i ((shiftTo xs k i).getD i 0 ||| (xs.getD i 0 * 2 ^ k % 4294967296))).set (i + 1) (xs.getD i 0 * 2 ^ k / 4294967296)
theorem shiftTo_length (xs : List Nat) (k i : Nat) : (shiftTo xs k i).length = xs.length + 1 := by
 induction i with
 | zero => simp [shiftTo]
 | succ i ih => simp [shiftTo, ih]
theorem mod_shift (a k : Nat) (hk : k ≤ 32) : ∃ q, a * 2 ^ k % 4294967296 = q * 2 ^ k := by
 have h : (4294967296 : Nat) = 2 ^ (32 - k) * 2 ^ k := by rw [← Nat.pow_add, show 32 - k + k = 32 from by omega]
 rw [h, Nat.mul_mod_mul_right]
 exact ⟨_, rfl⟩
theorem shiftTo_ok {xs : List Nat} {k : Nat} (lx : Lim 4294967296 xs) (hk : k ≤ 32) {i : Nat} (hi : i ≤ xs.length) :
  val (shiftTo xs k i) = val (xs.take i) * 2 ^ k ∧ Lim 4294967296 (shiftTo xs k i) ∧ (∀ z, (shiftTo xs k i)[i]? = some z → z < 2 ^ k) ∧ ∀ j z, i < j → (shiftTo xs k i)[j]? = some z → z = 0 := by
 induction i with
 | zero =>
  refine ⟨by simp [shiftTo, val_replicate, val], Lim.replicate (by omega), fun z hz => ?_, fun j z _ hz => ?_⟩
  ·rw [shiftTo, List.getElem?_replicate] at hz
   split at hz
   ·injection hz with hz; subst hz; exact Nat.two_pow_pos k
   ·cases hz
  ·rw [shiftTo, List.getElem?_replicate] at hz
   split at hz
   ·injection hz with hz; exact hz.symm
   ·cases hz
 | succ i ih =>
  obtain ⟨h1, h2, h3, h4⟩ := ih (by omega)
  have hlen := shiftTo_length xs k i
  have ha := getD_lim lx (by omega) i
  obtain ⟨z, hz⟩ := get_of_lt (xs := shiftTo xs k i) (i := i) (by omega)
  obtain ⟨z1, hz1⟩ := get_of_lt (xs := shiftTo xs k i) (i := i + 1) (by omega)
  have e1 := h4 _ z1 (by omega) hz1
  subst e1
  have hzb := h3 z hz
  obtain ⟨q, hq⟩ := mod_shift (xs.getD i 0) k hk
  have hor : z ||| (xs.getD i 0 * 2 ^ k % 4294967296) = z + xs.getD i 0 * 2 ^ k % 4294967296 := by rw [hq]; exact or_shift hzb
  have hs : shiftTo xs k (i + 1) = ((shiftTo xs k i).set i (z + xs.getD i 0 * 2 ^ k % 4294967296)).set (i + 1) (xs.getD i 0 * 2 ^ k / 4294967296) := by
   rw [shiftTo, List.getD_eq_getElem?_getD (l := shiftTo xs k i), hz, Option.getD_some, hor]
  have hdiv : xs.getD i 0 * 2 ^ k / 4294967296 < 2 ^ k := by
   rw [Nat.div_lt_iff_lt_mul (by omega), Nat.mul_comm]
   exact Nat.mul_lt_mul_of_pos_left ha (Nat.two_pow_pos k)
  have hpk : (2 : Nat) ^ k ≤ 2 ^ 32 := Nat.pow_le_pow_right (by omega) hk
  have hsum : z + xs.getD i 0 * 2 ^ k % 4294967296 < 4294967296 := by
   have h6 : (4294967296 : Nat) = 2 ^ (32 - k) * 2 ^ k := by rw [← Nat.pow_add, show 32 - k + k = 32 from by omega]
   have h7 : q * 2 ^ k < 2 ^ (32 - k) * 2 ^ k := by rw [← h6, ← hq]; exact Nat.mod_lt _ (by omega)
   have h8 : q < 2 ^ (32 - k) := Nat.lt_of_mul_lt_mul_right h7
   have h9 : (q + 1) * 2 ^ k ≤ 2 ^ (32 - k) * 2 ^ k := Nat.mul_le_mul_right _ h8
   rw [← h6, Nat.add_mul, Nat.one_mul] at h9
   rw [hq]
   omega
  rw [hs]
  refine ⟨?_, (h2.set hsum).set (by omega), fun y hy => ?_, fun j y hj hy => ?_⟩
  ·have h5 := val_set hz (z + xs.getD i 0 * 2 ^ k % 4294967296)
   have hz1' : ((shiftTo xs k i).set i (z + xs.getD i 0 * 2 ^ k % 4294967296))[i + 1]? = some 0 := by rw [List.getElem?_set_ne (by omega)]; exact hz1
   have h6 := val_set hz1' (xs.getD i 0 * 2 ^ k / 4294967296)
   rw [val_take_succ (xs := xs) (k := i) rfl, Nat.add_mul, ← h1]
   have h7 : 4294967296 ^ (i + 1) * (xs.getD i 0 * 2 ^ k / 4294967296) + 4294967296 ^ i * (xs.getD i 0 * 2 ^ k % 4294967296) = 4294967296 ^ i * xs.getD i 0 * 2 ^ k := by
    rw [Nat.pow_succ, Nat.mul_assoc, ← Nat.mul_add, Nat.mul_assoc]
    congr 1
    omega
   rw [Nat.mul_add] at h5
   omega
  ·rw [List.getElem?_set_self (by rw [List.length_set]; omega)] at hy
   injection hy with hy
   omega
  ·rw [List.getElem?_set_ne (by omega), List.getElem?_set_ne (by omega)] at hy
   exact h4 j y (by omega) hy
end Go.Proofs.YtchaahnhpeoomaaGreat
namespace Go.Proofs.YtchaahnhpeoomaaGreat
set_option linter.unusedVariables false
set_option linter.unusedSimpArgs false
set_option maxRecDepth 20000
open Go.RowKit
theorem gives2_none (k : IntKind) (er : Int) (w w' : World) (h : Below w.heap.size w w') : Gives2 k [] er w (.returned (.tuple #[.slice none 0 0, .int .i64 er])) w' :=
 ⟨none, 0, rfl, Nat.le_refl _, Nat.zero_le _, Own.nil _ _ _ _, h⟩
set_option maxHeartbeats 400000 in
theorem refMul_arg (A B : Option Addr) (n m c d : Nat) (xs ys : List Nat) (w : World) (hn : n = xs.length) (hm : m = ys.length) (hl : n ≤ 70000) (hl' : m ≤ 70000) (hx : Rd .u32 w A xs) (hy : Rd .u32 w B ys)
  (h : isRight xs = false ∨ isRight ys = false) :
  Calls Tryz.prog 72 #[.slice A n c, .slice B m d] w (Gives2 .u32 [] 1 w) := by
 subst hn
 subst hm
 cases r1 : isRight xs with
 | false =>
  clear h
  go_enter Tryz.func72, Tryz.ntmps72
  go_wp2_with fail
  refine (refRight_any _ _ c xs _ rfl (by omega) (by first | exact hx | exact hx.alloc _)).mono ?_
  rintro e w' ⟨rfl, rfl⟩
  go_wp2_with fail
  go_ret2
  exact gives2_none _ _ _ _ (by first | exact Below.refl _ _ | exact (Below.refl _ _).alloc (Nat.le_refl _) _)
 | true =>
  have r2 : isRight ys = false := by simpa [r1] using h
  clear h
  go_enter Tryz.func72, Tryz.ntmps72
  go_wp2_with fail
  refine (refRight_any _ _ c xs _ rfl (by omega) (by first | exact hx | exact hx.alloc _)).mono ?_
  rintro e w' ⟨rfl, rfl⟩
  go_wp2_with fail
  refine (refRight_any _ _ d ys _ rfl (by omega) (by first | exact hy | exact hy.alloc _)).mono ?_
  rintro e w' ⟨rfl, rfl⟩
  go_wp2_with fail
  go_ret2
  exact gives2_none _ _ _ _ (by first | exact Below.refl _ _ | exact (Below.refl _ _).alloc (Nat.le_refl _) _)
set_option maxHeartbeats 800000 in
theorem mul_any (A B : Option Addr) (n m c d : Nat) (xs ys : List Nat) (w : World) (hn : n = xs.length) (hm : m = ys.length) (hx : Rd .u32 w A xs) (hy : Rd .u32 w B ys) (lx : Lim 4294967296 xs) (ly : Lim 4294967296 ys)
  (r1 : isRight xs = true) (r2 : isRight ys = true) :
  Calls Tryz.prog 158 #[.slice A n c, .slice B m d] w (Gives2 .u32 (fitsOf (val xs * val ys)).1 (fitsOf (val xs * val ys)).2 w) := by
 subst hn
 subst hm
 have hl := isRight_len r1
 have hl' := isRight_len r2
 go_enter Tryz.func158, Tryz.ntmps158
 go_wp2_with fail
 refine (right_any _ _ c xs _ rfl (by omega) hx).mono ?_
 rintro e w' ⟨rfl, rfl⟩
 go_wp2_with fail
 refine (right_any _ _ d ys _ rfl (by omega) hy).mono ?_
 rintro e w' ⟨rfl, rfl⟩
 go_wp2_with (at_make; refine wpList_make_ints _ rfl _ _ _ rfl .u32 129 4 Tryz.underlying128 info_u32 _ _ (xs.length + ys.length) _ _ rfl rfl (by omega) (by omega) (by omega) (by omega) ?_; intro g w1 hg hw1 hs1 hb1)
 have hgl : w.heap.size ≤ g := by rw [hg.out]; exact Nat.le_refl _
 go_loopw [25] (fun t wr => ∃ i : Nat, t = .int .i64 i ∧ i ≤ xs.length ∧ Blk .u32 wr g (mulTo xs ys i) ∧ Below w.heap.size w wr) (fun t _ => xs.length - (intOf t).toNat)
 case atStart => exact ⟨0, rfl, Nat.zero_le _, hw1.blk, hb1⟩
 case round =>
  obtain ⟨i, rfl, hi, hbr, hbel⟩ := hrel
  by_cases hlt : i < xs.length
  ·obtain ⟨a, hga⟩ := get_of_lt hlt
   obtain ⟨b, o, rfl, hbw, hcl⟩ := ((hx.below hbel).pos hga)
   have hcell := hcl _ a hga
   have hab := lx.get hga
   have hlen := mulTo_length xs ys i
   have hlim := (mulTo_ok lx ly (Nat.le_of_lt hlt)).2.1
   have hfl := foldTo_length (mulTo xs ys i) i ys a ys.length
   obtain ⟨z, hz⟩ := get_of_lt (xs := (foldTo (mulTo xs ys i) i ys a ys.length).1) (i := i + ys.length) (by omega)
   have HS := Lib.hid (mulTo_succ (ys := ys) hga)
   have HZ := Lib.hid hz
   have HL := Lib.hid hlen
   have HFL := Lib.hid hfl
   clear hcl hga hz hlen hfl
   go_wp2_with fail
   refine (fold_any (mulTo xs ys i) ys g i ys.length _ ys.length d _ a _ hbr (hy.below hbel) (Off.new hy hgl) rfl (by omega) (Nat.le_refl _) (by rw [HL.out]; omega) hab hlim ly).mono ?_
   rintro e w2 ⟨rfl, hb2, hg2⟩
   have hbel2 := below_only hbel hg2 hbel.size hgl
   have hc2 := hb2.cell HZ.out
   have hf2 := hb2.frozen HZ.out
   have hs2 := Lib.hid (hb2.set HZ.out (foldTo (mulTo xs ys i) i ys a ys.length).2)
   go_wp2_with fail
   go_roundw
   case rel => exact ⟨i + 1, by go_num, by omega, by rw [HS.out]; exact hs2.out, hbel2.setCell hgl _⟩
   case measure => simp [intOf] <;> omega
  ·obtain rfl : i = xs.length := by omega
   obtain ⟨h1, h2, _⟩ := mulTo_ok lx ly (Nat.le_refl xs.length)
   rw [List.take_length] at h1
   have hlen := mulTo_length xs ys xs.length
   have HV := Lib.hid h1
   have HL := Lib.hid hlen
   clear h1 hlen
   go_wp2_with fail
   have hans := answer_any (some ⟨g, 0, none⟩) (xs.length + ys.length) (xs.length + ys.length) (mulTo xs ys xs.length) _ w HL.out.symm (Nat.le_refl _) (by omega) (Own.of_blk hbr hgl) h2 hbel
   rw [HV.out] at hans
   refine hans.mono ?_
   rintro e w2 ⟨A', c', rfl, q1, q2, q3, q4⟩
   go_wp2_with fail
   go_ret2
   exact ⟨A', c', rfl, q1, q2, q3, q4⟩
end Go.Proofs.YtchaahnhpeoomaaGreat
namespace Go.Proofs.YtchaahnhpeoomaaGreat
set_option linter.unusedVariables false
set_option linter.unusedSimpArgs false
set_option maxRecDepth 20000
open Go.RowKit
theorem shl_bound {a k : Nat} (ha : a < 4294967296) (hk : k < 32) : (a : Int) * 2 ^ k ≤ 18446744073709551615 := by
 have h1 : (2 : Nat) ^ k ≤ 2 ^ 31 := Nat.pow_le_pow_right (by omega) (by omega)
 have h2 : a * 2 ^ k ≤ 4294967295 * 2 ^ 31 := Nat.mul_le_mul (by omega) h1
 have h3 : ((a * 2 ^ k : Nat) : Int) ≤ 18446744073709551615 := by omega
 simpa using h3
theorem shift_or (z a k : Nat) (hz : z < 4294967296) : bits .or .u32 (z : Int) ((a : Int) * 2 ^ k % 4294967296) = ((z ||| (a * 2 ^ k % 4294967296) : Nat) : Int) := by
 have e : ((a : Int) * 2 ^ k % 4294967296) = ((a * 2 ^ k % 4294967296 : Nat) : Int) := by simp
 rw [e]
 exact u32_or_nat _ _ hz (Nat.mod_lt _ (by omega))
theorem shift_div (a k : Nat) : ((a : Int) * 2 ^ k / 4294967296) = ((a * 2 ^ k / 4294967296 : Nat) : Int) := by simp
theorem shiftTo_succ {xs : List Nat} {k i a z : Nat} (ha : xs[i]? = some a) (hz : (shiftTo xs k i)[i]? = some z) :
  shiftTo xs k (i + 1) = ((shiftTo xs k i).set i (z ||| (a * 2 ^ k % 4294967296))).set (i + 1) (a * 2 ^ k / 4294967296) := by
 rw [shiftTo, List.getD_eq_getElem?_getD, List.getD_eq_getElem?_getD, ha, hz]
 rfl
def ShiftPost (xs : List Nat) (k : Nat) (w : World) (e : Ending) (w' : World) : Prop :=
 ∃ g, e = .returned (.slice (some ⟨g, 0, none⟩) (xs.length + 1) (xs.length + 1)) ∧ w.heap.size ≤ g ∧ Blk .u32 w' g (shiftTo xs k xs.length) ∧ Below w.heap.size w w'
set_option maxHeartbeats 800000 in
theorem shift_any (A : Option Addr) (n c k : Nat) (xs : List Nat) (w : World) (hn : n = xs.length) (hl : n ≤ 70000) (hx : Rd .u32 w A xs) (lx : Lim 4294967296 xs) (hk : k < 32) :
  Calls Tryz.prog 156 #[.slice A n c, .int .i64 (k : Int)] w (ShiftPost xs k w) := by
 subst hn
 go_enter Tryz.func156, Tryz.ntmps156
 go_wp2_with (at_make; refine wpList_make_ints _ rfl _ _ _ rfl .u32 129 4 Tryz.underlying128 info_u32 _ _ (xs.length + 1) _ _ rfl rfl (by omega) (by omega) (by omega) (by omega) ?_; intro g w1 hg hw1 hs1 hb1)
 have hgl : w.heap.size ≤ g := by rw [hg.out]; exact Nat.le_refl _
 go_loopw [15] (fun t wr => ∃ i : Nat, t = .int .i64 i ∧ i ≤ xs.length ∧ Blk .u32 wr g (shiftTo xs k i) ∧ Below w.heap.size w wr) (fun t _ => xs.length - (intOf t).toNat)
 case atStart => exact ⟨0, rfl, Nat.zero_le _, hw1.blk, hb1⟩
 case round =>
  obtain ⟨i, rfl, hi, hbr, hbel⟩ := hrel
  by_cases hlt : i < xs.length
  ·obtain ⟨a, hga⟩ := get_of_lt hlt
   obtain ⟨b, o, rfl, hbw, hcl⟩ := ((hx.below hbel).pos hga)
   have hcell := hcl _ a hga
   have hab := lx.get hga
   have hlen := shiftTo_length xs k i
   have hlim := (shiftTo_ok lx (Nat.le_of_lt hk) (Nat.le_of_lt hlt)).2.1
   obtain ⟨z, hz⟩ := get_of_lt (xs := shiftTo xs k i) (i := i) (by omega)
   have hzb := hlim.get hz
   have hcz := hbr.cell hz
   have hfz := hbr.frozen hz
   obtain ⟨z1, hz1⟩ := get_of_lt (xs := shiftTo xs k i) (i := i + 1) (by omega)
   have hcz1 := hbr.cell hz1
   have hfz1 := hbr.frozen hz1
   have HZ := Lib.hid hz
   have HZ1 := Lib.hid hz1
   have HA := Lib.hid hga
   have HL := Lib.hid hlen
   have hak := shl_bound hab hk
   have hak0 : (0 : Int) ≤ (a : Int) * 2 ^ k := Int.mul_nonneg (by omega) (Int.pow_nonneg (by omega))
   have HS := Lib.hid (shiftTo_succ (k := k) hga hz)
   clear hcl hga hz hz1 hlen
   go_wp2
   go_roundw
   case rel =>
    refine ⟨i + 1, by go_num, by omega, ?_, (hbel.setCell hgl _).setCell hgl _⟩
    rw [HS.out, shift_or z a k hzb, shift_div]
    exact (hbr.set HZ.out _).set (by rw [List.getElem?_set_ne (by omega)]; exact HZ1.out) _
   case measure => simp [intOf] <;> omega
  ·obtain rfl : i = xs.length := by omega
   go_wp2
   go_ret
   exact ⟨g, rfl, hgl, hbr, hbel⟩
end Go.Proofs.YtchaahnhpeoomaaGreat
namespace Go.Proofs.YtchaahnhpeoomaaGreat
set_option linter.unusedVariables false
set_option linter.unusedSimpArgs false
set_option maxRecDepth 20000
theorem val_zero_all {xs : List Nat} (h : val xs = 0) : ∀ (i x : Nat), xs[i]? = some x → x = 0 := by
 induction xs with
 | nil => intro i x hx; simp at hx
 | cons y ys ih =>
  rw [val] at h
  intro i x hx
  cases i with
  | zero => simp at hx; omega
  | succ i => exact ih (by omega) i x (by simpa using hx)
theorem val_of_zero {xs : List Nat} (h : ∀ (i x : Nat), xs[i]? = some x → x = 0) : val xs = 0 := by
 induction xs with
 | nil => rfl
 | cons y ys ih =>
  have h1 := h 0 y rfl
  have h2 := ih fun i x hx => h (i + 1) x (by simpa using hx)
  rw [val, h1, h2]
theorem drop_high {xs : List Nat} {m : Nat} (h : val xs < 4294967296 ^ m) : val (xs.take m) = val xs ∧ ∀ (j z : Nat), m ≤ j → xs[j]? = some z → z = 0 := by
 rcases Nat.lt_or_ge m xs.length with hm | hm
 ·have h1 := val_split xs m (by omega)
  have h2 : val (xs.drop m) = 0 := by
   rcases Nat.eq_zero_or_pos (val (xs.drop m)) with h3 | h3
   ·exact h3
   ·have h4 : 4294967296 ^ m * 1 ≤ 4294967296 ^ m * val (xs.drop m) := Nat.mul_le_mul_left _ h3
    omega
  rw [h2] at h1
  refine ⟨by omega, fun j z hj hz => ?_⟩
  exact val_zero_all h2 (j - m) z (by rw [List.getElem?_drop, show m + (j - m) = j from by omega]; exact hz)
 ·refine ⟨by rw [List.take_of_length_le hm], fun j z hj hz => ?_⟩
  have := (List.getElem?_eq_some_iff.1 hz).1
  omega
theorem digit_sub {cs T : List Nat} {off m : Nat} (h : off + m ≤ cs.length) (lc : Lim 4294967296 cs) (lT : Lim 4294967296 T) (hT : T.length ≤ m) (hP : val (cs.drop off) < 4294967296 ^ m) (hle : val T ≤ val (cs.drop off)) :
  (takeTo cs off T m).1.take off = cs.take off ∧ val ((takeTo cs off T m).1.drop off) = val (cs.drop off) - val T := by
 have hlen := takeTo_length cs off T m
 have hlim := takeTo_lim cs off T m lc
 have h0 : (takeTo cs off T m).1.take off = cs.take off := take_ext fun i hi => takeTo_get (.inl hi)
 have h1 := takeTo_val (cs := cs) (off := off) (ys := T) (k := m) h lc lT
 rw [List.take_of_length_le hT] at h1
 have h2 := val_split cs off (by omega)
 have h3 := val_split (takeTo cs off T m).1 off (by omega)
 rw [h0] at h3
 have hb := takeTo_borrow cs off T m
 have hz := (drop_high hP).2
 -- the part that was taken from has no more than m limbs that are not 0
 have h4 : val ((takeTo cs off T m).1.drop off) < 4294967296 ^ m := by
  have h5 : val (((takeTo cs off T m).1.drop off).take m) = val ((takeTo cs off T m).1.drop off) := by
   refine val_take fun i x hi hx => ?_
   rw [List.getElem?_drop, takeTo_get (.inr (by omega))] at hx
   exact hz i x hi (by rw [List.getElem?_drop]; exact hx)
  rw [← h5]
  have h6 := val_lt ((hlim.drop off).take m)
  rw [List.length_take, List.length_drop, hlen, Nat.min_eq_left (by omega)] at h6
  exact h6
 refine ⟨h0, ?_⟩
 have hp : 0 < 4294967296 ^ off := Nat.pow_pos (by omega)
 rw [h2, h3, Nat.pow_add] at h1
 generalize val ((takeTo cs off T m).1.drop off) = a at *
 generalize val (cs.drop off) = b at *
 generalize val T = t at *
 generalize (takeTo cs off T m).2 = c at *
 generalize 4294967296 ^ m = pm at *
 generalize 4294967296 ^ off = p at *
 have h7 : p * (a + t) = p * (b + pm * c) := by
  rw [Nat.mul_add, Nat.mul_add, ← Nat.mul_assoc]
  omega
 have h8 := Nat.eq_of_mul_eq_mul_left hp h7
 rcases (show c = 0 ∨ c = 1 by omega) with rfl | rfl
 ·omega
 ·rw [Nat.mul_one] at h8
  omega
theorem guess_ge {P V u1 u0 v1 m : Nat} (hv : 0 < v1) (hP : P < (u1 * 4294967296 + u0 + 1) * 4294967296 ^ m) (hV : v1 * 4294967296 ^ m ≤ V) (hV0 : 0 < V) :
  P / V ≤ (u1 * 4294967296 + u0) / v1 := by
 rw [Nat.le_div_iff_mul_le hv]
 have h1 : P / V * V ≤ P := Nat.div_mul_le_self P V
 have h2 : P / V * (v1 * 4294967296 ^ m) ≤ P / V * V := Nat.mul_le_mul_left _ hV
 have h3 : P / V * v1 * 4294967296 ^ m < (u1 * 4294967296 + u0 + 1) * 4294967296 ^ m := by rw [Nat.mul_assoc]; omega
 have h4 := Nat.lt_of_mul_lt_mul_right h3
 omega
theorem top_two {ps : List Nat} {n u1 u0 : Nat} (hl : Lim 4294967296 ps) (hn : 0 < n) (h1 : ps[n]? = some u1) (h0 : ps[n - 1]? = some u0) (hP : val ps < 4294967296 ^ (n + 1)) :
  val ps < (u1 * 4294967296 + u0 + 1) * 4294967296 ^ (n - 1) := by
 have hlen : n < ps.length := (List.getElem?_eq_some_iff.1 h1).1
 have h2 := val_split ps (n - 1) (by omega)
 rw [val_drop_succ h0, show n - 1 + 1 = n from by omega, val_drop_succ h1] at h2
 have h3 : val (ps.drop (n + 1)) = 0 := val_of_zero fun i x hx => by
  rw [List.getElem?_drop] at hx
  exact (drop_high hP).2 _ x (by omega) hx
 have h4 := val_lt (hl.take (n - 1))
 rw [List.length_take, Nat.min_eq_left (by omega)] at h4
 rw [h3, Nat.mul_zero, Nat.add_zero] at h2
 generalize 4294967296 ^ (n - 1) = p at *
 have h5 : (u1 * 4294967296 + u0 + 1) * p = p * (u0 + 4294967296 * u1) + p := by
  rw [Nat.add_mul _ 1, Nat.one_mul, Nat.mul_comm _ p]
  congr 2
  omega
 omega
theorem top_one {vs : List Nat} {n v1 : Nat} (h : vs[n - 1]? = some v1) : v1 * 4294967296 ^ (n - 1) ≤ val vs := by
 have hlen : n - 1 < vs.length := (List.getElem?_eq_some_iff.1 h).1
 have h2 := val_split vs (n - 1) (by omega)
 rw [val_drop_succ h, Nat.mul_add] at h2
 rw [Nat.mul_comm]
 omega
theorem digit_start {vs : List Nat} {G : Nat} (hG : G < 4294967296) (lv : Lim 4294967296 vs) :
  val ((foldTo (List.replicate (vs.length + 1) 0) 0 vs G vs.length).1.set vs.length (foldTo (List.replicate (vs.length + 1) 0) 0 vs G vs.length).2) = G * val vs ∧
  Lim 4294967296 ((foldTo (List.replicate (vs.length + 1) 0) 0 vs G vs.length).1.set vs.length (foldTo (List.replicate (vs.length + 1) 0) 0 vs G vs.length).2) := by
 have h0 : Lim 4294967296 (List.replicate (vs.length + 1) 0) := Lim.replicate (by omega)
 have h1 := foldTo_val (cs := List.replicate (vs.length + 1) 0) (off := 0) (ys := vs) (a := G) (k := vs.length) (by simp)
 rw [val_replicate, List.take_length] at h1
 have h2 := foldTo_length (List.replicate (vs.length + 1) 0) 0 vs G vs.length
 obtain ⟨z, hz⟩ := get_of_lt (xs := (foldTo (List.replicate (vs.length + 1) 0) 0 vs G vs.length).1) (i := vs.length) (by rw [h2]; simp)
 have hz0 : z = 0 := by
  rw [foldTo_get (.inr (by omega)), List.getElem?_replicate, if_pos (by omega)] at hz
  injection hz with hz
  exact hz.symm
 subst hz0
 have h3 := val_set hz (foldTo (List.replicate (vs.length + 1) 0) 0 vs G vs.length).2
 refine ⟨?_, (foldTo_lim _ _ _ _ _ h0).set (foldTo_carry _ _ _ _ _ hG h0 lv)⟩
 simp only [Nat.zero_add, Nat.pow_zero, Nat.one_mul, Nat.mul_zero, Nat.add_zero] at h1 h3
 omega
end Go.Proofs.YtchaahnhpeoomaaGreat
