/-
 The document's length of an element: how many bytes the length and the tag have, and how many the body. Holds for all bytes.
-/
import Derived.Test.YtchaahnhpeoomaaGreatPGDer
namespace Go.Proofs.YtchaahnhpeoomaaGreat
set_option linter.unusedVariables false
set_option linter.unusedSimpArgs false
set_option maxRecDepth 20000
open Go.RowKit
def LenPost (o : Option (Nat × Nat)) (w : World) (e : Ending) (w' : World) : Prop :=
 ∃ (f m : Nat) (b : Bool) (q : Nat), e = .returned (.tuple #[.int .i64 (m : Int), .int .i64 (f : Int), .bool b]) ∧ w' = w.drewN q ∧ (match o with | some p => b = true ∧ f = p.1 ∧ m = p.2 | none => b = false)
theorem LenPost.mk {o : Option (Nat × Nat)} {w : World} {f m : Nat} {a c : Int} {b : Bool} (q : Nat) (ha : a = (f : Int)) (hc : c = (m : Int)) (h : match o with | some p => b = true ∧ f = p.1 ∧ m = p.2 | none => b = false) : LenPost o w (.returned (.tuple #[.int .i64 c, .int .i64 a, .bool b])) (w.drewN q) :=
 ⟨f, m, b, q, by rw [ha, hc], rfl, h⟩
set_option maxRecDepth 100000 in
set_option maxHeartbeats 1600000 in
theorem len10_any (A : Option Addr) (n c : Nat) (xs : List Nat) (w : World) (hn : n = xs.length) (hc : n ≤ c) (hx : Rd .u8 w A xs) (lx : Lim 256 xs) :
  Calls Tryz.prog 94 #[.slice A n c] w (LenPost (lenB xs) w) := by
 rcases xs with _ | ⟨t, _ | ⟨l, r⟩⟩
 ·subst hn
  go_enter Tryz.func94, Tryz.ntmps94
  go_wp2
  go_ret3
  exact LenPost.mk (f := 0) (m := 0) 0 rfl rfl rfl
 ·subst hn
  go_enter Tryz.func94, Tryz.ntmps94
  go_wp2
  go_ret3
  exact LenPost.mk (f := 0) (m := 0) 0 rfl rfl rfl
 obtain ⟨b, o, rfl, hb, hcl⟩ := hx.pos (i := 0) (x := t) rfl
 have cl := hcl 1 l rfl
 have hl := lx l (by simp)
 have lr : Lim 256 r := fun x hx => lx x (by simp [hx])
 have hlen : n = r.length + 2 := hn
 have hcr : ∀ (i x : Nat), r[i]? = some x → w.cell? ⟨b, o + 2 + i, none⟩ = some (.int .u8 (x : Int)) := fun i x h => by
  rw [Nat.add_assoc, Nat.add_comm 2 i]
  exact hcl (i + 2) x (by simpa using h)
 have z0 : decide ((n : Int) < 2) = false := decide_eq_false (by omega)
 have z0' : ¬ (n : Int) < 2 := by omega
 have z0a : (1 : Int) < (n : Int) := by omega
 clear hn lx hx hcl
 have HL := Lib.hid hlen
 clear hlen
 by_cases h2 : l < 128
 ·have z2 : decide ((l : Int) < 128) = true := decide_eq_true (by omega)
  have e : lenB (t :: l :: r) = some (2, l) := by simp [lenB, h2]
  have HE := Lib.hid e
  clear e h2
  go_enter Tryz.func94, Tryz.ntmps94
  go_wp2
  go_ret3
  rw [HE.out]
  exact LenPost.mk (f := 2) (m := l) 0 rfl rfl ⟨rfl, rfl, rfl⟩
 have z2 : decide ((l : Int) < 128) = false := decide_eq_false (by omega)
 obtain ⟨k, hk⟩ : ∃ k, k = l - 128 := ⟨_, rfl⟩
 have hk1 : (l : Int) - 128 = (k : Int) := by omega
 have hE : lenB (t :: l :: r) = if k = 0 ∨ 4 < k ∨ r.length < k ∨ r.head? = some 0 then none else if 128 ≤ numB (r.take k) then some (2 + k, numB (r.take k)) else none := by
  rw [hk]
  show (if l < 128 then some (2, l) else _) = _
  rw [if_neg h2]
 rw [hE]
 have hk128 : k < 128 := by omega
 clear hE hk h2
 by_cases h3 : k = 0
 ·subst h3
  rw [if_pos (.inl rfl)]
  have hk1 : (l : Int) - 128 = 0 := hk1
  go_enter Tryz.func94, Tryz.ntmps94
  go_wp2
  go_ret3
  exact LenPost.mk (f := 0) (m := 0) 0 rfl rfl rfl
 have z3 : decide ((k : Int) < 1) = false := decide_eq_false (by omega)
 by_cases h4 : 4 < k
 ·rw [if_pos (.inr (.inl h4))]
  have z4 : decide ((4 : Int) < (k : Int)) = true := decide_eq_true (by omega)
  clear h3 h4
  go_enter Tryz.func94, Tryz.ntmps94
  go_wp2
  go_ret3
  exact LenPost.mk (f := 0) (m := 0) 0 rfl rfl rfl
 have z4 : decide ((4 : Int) < (k : Int)) = false := decide_eq_false (by omega)
 by_cases h5 : r.length < k
 ·rw [if_pos (.inr (.inr (.inl h5)))]
  have z5 : decide ((n : Int) < 2 + (k : Int)) = true := decide_eq_true (by have := HL.out; omega)
  clear h3 h4 h5
  go_enter Tryz.func94, Tryz.ntmps94
  go_wp2
  go_ret3
  exact LenPost.mk (f := 0) (m := 0) 0 rfl rfl rfl
 have z5 : decide ((n : Int) < 2 + (k : Int)) = false := decide_eq_false (by have := HL.out; omega)
 obtain ⟨x, hx0⟩ := get_of_lt (xs := r) (i := 0) (by omega)
 have hh : r.head? = some x := by rw [List.head?_eq_getElem?]; exact hx0
 have cx : w.cell? ⟨b, o + 2, none⟩ = some (.int .u8 (x : Int)) := hcr 0 x hx0
 have hn2 : (2 : Int) < (n : Int) := by have := HL.out; omega
 by_cases h6 : x = 0
 ·subst h6
  rw [if_pos (.inr (.inr (.inr hh)))]
  clear h3 h4 h5 hx0 hh
  go_enter Tryz.func94, Tryz.ntmps94
  go_wp2
  go_ret3
  exact LenPost.mk (f := 0) (m := 0) 0 rfl rfl rfl
 have z6 : ((x : Int) == 0) = false := by simp; omega
 rw [if_neg (by rw [hh]; simp; omega)]
 obtain ⟨E, hE⟩ : ∃ E, E = (if 128 ≤ numB (r.take k) then some (2 + k, numB (r.take k)) else none) := ⟨_, rfl⟩
 rw [← hE]
 have HE := Lib.hid hE
 clear hE
 have hk4 : k ≤ 4 ∧ k ≤ r.length ∧ 1 ≤ k := by omega
 have HK := Lib.hid hk4
 clear h3 h4 h5 hx0 hh hk4
 go_enter Tryz.func94, Tryz.ntmps94
 go_wp2
 go_loopw [6, 7] (fun s v wr => ∃ i : Nat, s = .int .i64 ((numB (r.take i) : Nat) : Int) ∧ v = .int .i64 (i : Int) ∧ i ≤ k ∧ wr = w) (fun _ v _ => k - (intOf v).toNat)
 case atStart => exact ⟨0, rfl, rfl, Nat.zero_le _, rfl⟩
 case round =>
  obtain ⟨i, rfl, rfl, hik, rfl⟩ := hrel
  by_cases hlt : i < k
  ·obtain ⟨y, hy⟩ := get_of_lt (xs := r) (i := i) (by have := HK.out; omega)
   have cy : wr.cell? ⟨b, o + (2 + i), none⟩ = some (.int .u8 (y : Int)) := by rw [← Nat.add_assoc]; exact hcr i y hy
   have cy2 := hcr i y hy
   have hyb := lr.get hy
   have hv := numB_take lr (show i ≤ 3 by have := HK.out; omega)
   have hst := Lib.hid (numB_step hy)
   have hin : (2 : Int) + (i : Int) < (n : Int) := by have := HL.out; have := HK.out; omega
   generalize hN : numB (r.take i) = N at *
   clear hN hy
   go_wp2
   go_roundw
   case rel => exact ⟨i + 1, by rw [hst.out]; simp, by go_num, by omega, trivial⟩
   case measure => simp [intOf]; omega
  ·obtain rfl : i = k := by omega
   go_wp2
   go_ret3
   rw [HE.out]
   refine LenPost.mk (f := 2 + i) (m := numB (r.take i)) 0 (by simp) rfl ?_
   by_cases h : 128 ≤ numB (r.take i)
   ·rw [if_pos h]
    exact ⟨decide_eq_true (by omega), rfl, rfl⟩
   ·rw [if_neg h]
    exact decide_eq_false (by omega)
end Go.Proofs.YtchaahnhpeoomaaGreat
