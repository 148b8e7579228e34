/-
 slices.IndexFunc and slices.ContainsFunc over ints, with whatever function that keeps what it must.
-/
import Derived.Test.YtchaahnhpeoomaaGreatPChB
namespace Go.Proofs.YtchaahnhpeoomaaGreat
set_option linter.unusedVariables false
set_option linter.unusedSimpArgs false
set_option maxRecDepth 20000
open Go.RowKit
def intV (x : Int) : Value := .int .i64 x
def RdI (W : World) (A : Option Addr) (xs : List Int) : Prop := xs = [] ∨ ∃ b o, A = some ⟨b, o, none⟩ ∧ Row W b o (xs.map intV)
theorem RdI.at {W : World} {A : Option Addr} {xs : List Int} (h : RdI W A xs) {k : Nat} {x : Int} (hx : xs[k]? = some x) : ∃ b o, A = some ⟨b, o, none⟩ ∧ W.cell? ⟨b, o + k, none⟩ = some (.int .i64 x) := by
 rcases h with rfl | ⟨b, o, h1, h2⟩
 ·simp at hx
 ·exact ⟨b, o, h1, h2.cell (by simp [hx, intV])⟩
def idxI (p : Int → Bool) (xs : List Int) : Int := match xs.findIdx? p with
 | some i => (i : Int)
 | none => -1
theorem idxI_some {p : Int → Bool} {xs : List Int} {i : Nat} {x : Int} (hc : xs[i]? = some x) (hf : p x = true) (hno : (xs.take i).any p = false) : idxI p xs = (i : Int) := by
 have h : xs.findIdx? p = some i := by
  rw [List.findIdx?_eq_some_iff_getElem]
  obtain ⟨h1, h2⟩ := List.getElem?_eq_some_iff.1 hc
  refine ⟨h1, by rw [h2]; exact hf, fun j hj => ?_⟩
  rw [List.any_eq_false] at hno
  have := hno (xs[j]) (List.mem_take_iff_getElem.2 ⟨j, by omega, rfl⟩)
  simpa using this
 unfold idxI
 rw [h]
theorem idxI_none {p : Int → Bool} {xs : List Int} (hno : xs.any p = false) : idxI p xs = -1 := by
 have h : xs.findIdx? p = none := by
  rw [List.findIdx?_eq_none_iff]
  intro c hc
  rw [List.any_eq_false] at hno
  simpa using hno c hc
 unfold idxI
 rw [h]
theorem idxI_any (p : Int → Bool) (xs : List Int) : decide (0 ≤ idxI p xs) = xs.any p := by
 unfold idxI
 cases h : xs.findIdx? p with
 | none =>
  rw [List.findIdx?_eq_none_iff] at h
  rw [eq_comm]
  simp
  exact h
 | some i =>
  rw [List.findIdx?_eq_some_iff_getElem] at h
  obtain ⟨h1, h2, h3⟩ := h
  rw [eq_comm]
  simp
  exact ⟨_, List.getElem_mem h1, h2⟩
set_option maxRecDepth 100000 in
set_option maxHeartbeats 1600000 in
theorem indexI_any (f : Nat) (cap : Array Value) (hcf : ∀ (vs : Array Value) (w : World), (callFunc f vs).run Tryz.prog w = .ok (.enter f vs) w) (I : World → Prop) (p : Int → Bool) (A : Option Addr) (n c : Nat) (xs : List Int) (hn : n = xs.length) (hl : n ≤ 1000)
  (hx : ∀ U, I U → RdI U A xs) (hcall : ∀ U x, x ∈ xs → I U → Calls Tryz.prog f (#[.int .i64 x] ++ cap) U (fun e U' => e = .returned (.bool (p x)) ∧ I U')) (w : World) (hI : I w) :
  Calls Tryz.prog 55 #[.slice A n c, .func (.func f) #[] cap] w (fun e U' => e = .returned (.int .i64 (idxI p xs)) ∧ I U') := by
 subst hn
 go_enter Tryz.func55, Tryz.ntmps55
 go_wp2_with fail
 go_loopw [8] (fun t wr => ∃ k : Nat, t = .int .i64 (k : Int) ∧ k ≤ xs.length ∧ Hid ((xs.take k).any p = false) ∧ I wr) (fun t _ => xs.length - (intOf t).toNat)
 case atStart => exact ⟨0, rfl, Nat.zero_le _, by simp [Hid], hI⟩
 case round =>
  obtain ⟨k, rfl, hk, h0, hi⟩ := hrel
  by_cases hlt : k < xs.length
  ·obtain ⟨x, hgx⟩ : ∃ x, xs[k]? = some x := ⟨_, List.getElem?_eq_getElem hlt⟩
   obtain ⟨b, o, rfl, hcell⟩ := (hx _ hi).at hgx
   have HG := Lib.hid hgx
   have hcl := hcall wr x (List.mem_of_getElem? hgx) hi
   have z1 : (k : Int) < (xs.length : Int) := by omega
   have HT := Lib.hid (show xs.take (k + 1) = xs.take k ++ [x] by rw [List.take_add_one, hgx]; rfl)
   clear hgx
   cases hF : p x with
   | true =>
    rw [hF] at hcl
    replace hF := Lib.hid hF
    go_wp2_with fail
    refine hcl.mono ?_
    rintro e w' ⟨rfl, hi'⟩
    go_wp2_with fail
    go_ret
    exact ⟨by rw [idxI_some HG.out hF.out h0.out]; rfl, hi'⟩
   | false =>
    rw [hF] at hcl
    replace hF := Lib.hid hF
    go_wp2_with fail
    refine hcl.mono ?_
    rintro e w' ⟨rfl, hi'⟩
    go_wp2_with fail
    go_roundw
    case rel => exact ⟨k + 1, by go_num, by omega, Lib.hid (by rw [HT.out, List.any_append, h0.out]; simp [hF.out]), hi'⟩
    case measure =>
     simp [intOf]
     omega
  ·obtain rfl : k = xs.length := by omega
   go_wp2_with fail
   go_ret
   exact ⟨by rw [idxI_none (by rw [← h0.out, List.take_length])]; rfl, hi⟩
set_option maxRecDepth 100000 in
set_option maxHeartbeats 1600000 in
theorem containsI_any (f : Nat) (cap : Array Value) (hcf : ∀ (vs : Array Value) (w : World), (callFunc f vs).run Tryz.prog w = .ok (.enter f vs) w) (I : World → Prop) (p : Int → Bool) (A : Option Addr) (n c : Nat) (xs : List Int) (hn : n = xs.length) (hl : n ≤ 1000)
  (hx : ∀ U, I U → RdI U A xs) (hcall : ∀ U x, x ∈ xs → I U → Calls Tryz.prog f (#[.int .i64 x] ++ cap) U (fun e U' => e = .returned (.bool (p x)) ∧ I U')) (w : World) (hI : I w) :
  Calls Tryz.prog 52 #[.slice A n c, .func (.func f) #[] cap] w (fun e U' => e = .returned (.bool (xs.any p)) ∧ I U') := by
 have h := indexI_any f cap hcf I p A n c xs hn hl hx hcall w hI
 have hd := Lib.hid (idxI_any p xs)
 clear hcall hx hn
 go_enter Tryz.func52, Tryz.ntmps52
 go_wp2_with fail
 refine h.mono ?_
 clear h
 rintro e w' ⟨rfl, hi⟩
 go_wp2_with fail
 go_ret
 exact ⟨by rw [← hd.out]; rfl, hi⟩
def idxS {α : Type} (p : α → Bool) (xs : List α) : Int := match xs.findIdx? p with
 | some i => (i : Int)
 | none => -1
theorem idxV_some {α : Type} {p : α → Bool} {xs : List α} {i : Nat} {x : α} (hc : xs[i]? = some x) (hf : p x = true) (hno : (xs.take i).any p = false) : xs.findIdx? p = some i := by
 rw [List.findIdx?_eq_some_iff_getElem]
 obtain ⟨h1, h2⟩ := List.getElem?_eq_some_iff.1 hc
 refine ⟨h1, by rw [h2]; exact hf, fun j hj => ?_⟩
 rw [List.any_eq_false] at hno
 have := hno (xs[j]) (List.mem_take_iff_getElem.2 ⟨j, by omega, rfl⟩)
 simpa using this
set_option maxRecDepth 100000 in
set_option maxHeartbeats 1600000 in
theorem indexS_any {α : Type} (v : α → Value) (f : Nat) (cap : Array Value) (hcf : ∀ (vs : Array Value) (w : World), (callFunc f vs).run Tryz.prog w = .ok (.enter f vs) w) (I : World → Prop) (p : α → Bool) (b o n c : Nat) (xs : List α) (hn : n = xs.length) (hl : n ≤ 1000)
  (hx : ∀ U, I U → Row U b o (xs.map v)) (hcall : ∀ U x, x ∈ xs → I U → Calls Tryz.prog f (#[v x] ++ cap) U (fun e U' => e = .returned (.bool (p x)) ∧ I U')) (w : World) (hI : I w) :
  Calls Tryz.prog 50 #[.slice (some ⟨b, o, none⟩) n c, .func (.func f) #[] cap] w (fun e U' => e = .returned (.int .i64 (idxS p xs)) ∧ I U') := by
 subst hn
 go_enter Tryz.func50, Tryz.ntmps50
 go_wp2_with fail
 go_loopw [8] (fun t wr => ∃ k : Nat, t = .int .i64 (k : Int) ∧ k ≤ xs.length ∧ Hid ((xs.take k).any p = false) ∧ I wr) (fun t _ => xs.length - (intOf t).toNat)
 case atStart => exact ⟨0, rfl, Nat.zero_le _, by simp [Hid], hI⟩
 case round =>
  obtain ⟨k, rfl, hk, h0, hi⟩ := hrel
  by_cases hlt : k < xs.length
  ·obtain ⟨x, hgx⟩ : ∃ x, xs[k]? = some x := ⟨_, List.getElem?_eq_getElem hlt⟩
   have hcell : wr.cell? ⟨b, o + k, none⟩ = some (v x) := (hx _ hi).cell (by simp [hgx])
   have HG := Lib.hid hgx
   have hcl := hcall wr x (List.mem_of_getElem? hgx) hi
   have z1 : (k : Int) < (xs.length : Int) := by omega
   have HT := Lib.hid (show xs.take (k + 1) = xs.take k ++ [x] by rw [List.take_add_one, hgx]; rfl)
   clear hgx
   cases hF : p x with
   | true =>
    rw [hF] at hcl
    replace hF := Lib.hid hF
    go_wp2_with fail
    refine hcl.mono ?_
    rintro e w' ⟨rfl, hi'⟩
    go_wp2_with fail
    go_ret
    exact ⟨by unfold idxS; rw [idxV_some HG.out hF.out h0.out]; rfl, hi'⟩
   | false =>
    rw [hF] at hcl
    replace hF := Lib.hid hF
    go_wp2_with fail
    refine hcl.mono ?_
    rintro e w' ⟨rfl, hi'⟩
    go_wp2_with fail
    go_roundw
    case rel => exact ⟨k + 1, by go_num, by omega, Lib.hid (by rw [HT.out, List.any_append, h0.out]; simp [hF.out]), hi'⟩
    case measure =>
     simp [intOf]
     omega
  ·obtain rfl : k = xs.length := by omega
   go_wp2_with fail
   go_ret
   refine ⟨?_, hi⟩
   unfold idxS
   rw [show xs.findIdx? p = none from ?_]
   ·rfl
   ·rw [List.findIdx?_eq_none_iff]
    intro x hx
    have h1 := h0.out
    rw [List.take_length, List.any_eq_false] at h1
    simpa using h1 x hx
end Go.Proofs.YtchaahnhpeoomaaGreat
