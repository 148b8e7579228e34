/-
  Which keys may be: rsa.Sound and the reference's Sound. Holds for every key.
-/
import Derived.Test.YtfclpieijbgodaaMonH
import Derived.Test.YtfclpieijbgodaaRsaA
namespace Go.Proofs.Ytfclpieijbgodaa
set_option linter.unusedVariables false
set_option linter.unusedSimpArgs false
open Go.RowKit

/-- May this key be? -/
def soundB (ns : List Nat) (e : Nat) : Bool :=
  (decide (ns.length = 256) || decide (ns.length = 384) || decide (ns.length = 512)) && decide (128 ≤ ns[0]?.getD 0) && decide (ns[ns.length - 1]?.getD 0 % 2 = 1) && decide (e % 2 = 1) && decide (3 ≤ e) && decide (e < 8589934592)
def soundE (ns : List Nat) (e : Nat) : Int := if soundB ns e then 0 else 11
structure Sounds (ns : List Nat) (e : Nat) : Prop where
  len : ns.length = 256 ∨ ns.length = 384 ∨ ns.length = 512
  top : 128 ≤ ns[0]?.getD 0
  odd : ns[ns.length - 1]?.getD 0 % 2 = 1
  eodd : e % 2 = 1
  e3 : 3 ≤ e
  e33 : e < 8589934592
theorem soundB_iff (ns : List Nat) (e : Nat) : soundB ns e = true ↔ Sounds ns e := by
  unfold soundB
  simp only [Bool.and_eq_true, Bool.or_eq_true, decide_eq_true_eq]
  exact ⟨fun ⟨⟨⟨⟨⟨h1, h2⟩, h3⟩, h4⟩, h5⟩, h6⟩ => ⟨by omega, h2, h3, h4, h5, h6⟩, fun h => ⟨⟨⟨⟨⟨by have := h.len; omega, h.top⟩, h.odd⟩, h.eodd⟩, h.e3⟩, h.e33⟩⟩
theorem soundE_no {ns : List Nat} {e : Nat} (h : ¬ Sounds ns e) : soundE ns e = 11 := by
  unfold soundE
  rw [if_neg (fun k => h ((soundB_iff ns e).1 k))]
theorem soundE_yes {ns : List Nat} {e : Nat} (h : Sounds ns e) : soundE ns e = 0 := by
  unfold soundE
  rw [if_pos ((soundB_iff ns e).2 h)]
/-- The value of a key. -/
def keyVal (A : Option Addr) (n c e : Nat) : Value := .agg #[.slice A n c, .int .u64 (e : Int)]
set_option maxRecDepth 10000 in
set_option maxHeartbeats 1600000 in
theorem sound_any (A : Option Addr) (n c e : Nat) (ns : List Nat) (w : World) (hn : n = ns.length) (hl : n ≤ 9223372036854775807) (hx : Rd .u8 w A ns) (lx : Lim 256 ns) (he : e < 18446744073709551616) :
    Calls Try.prog 46 #[keyVal A n c e] w (fun r w' => r = .returned (.int .i64 (soundE ns e)) ∧ Below w.heap.size w w') := by
  subst hn
  unfold keyVal
  by_cases h0 : ns.length = 256 ∨ ns.length = 384 ∨ ns.length = 512
  · obtain ⟨x, hx0⟩ := get_of_lt (xs := ns) (i := 0) (by omega)
    obtain ⟨y, hy0⟩ := get_of_lt (xs := ns) (i := ns.length - 1) (by omega)
    obtain ⟨b, o, rfl, hbw, hcl⟩ := hx.pos hx0
    have c0 := hcl 0 x hx0
    have c1 := hcl _ y hy0
    rw [Nat.add_zero] at c0
    have hxb := lx.get hx0
    have hyb := lx.get hy0
    have e0 : ns[0]?.getD 0 = x := by rw [hx0]; rfl
    have e1 : ns[ns.length - 1]?.getD 0 = y := by rw [hy0]; rfl
    have HS : Hid (soundE ns e = if 128 ≤ x ∧ y % 2 = 1 ∧ e % 2 = 1 ∧ 3 ≤ e ∧ e < 8589934592 then 0 else 11) := by
      unfold Hid
      split
      · rename_i h
        exact soundE_yes ⟨h0, by rw [e0]; exact h.1, by rw [e1]; exact h.2.1, h.2.2.1, h.2.2.2.1, h.2.2.2.2⟩
      · rename_i h
        exact soundE_no fun k => h ⟨by rw [← e0]; exact k.top, by rw [← e1]; exact k.odd, k.eodd, k.e3, k.e33⟩
    clear hx hcl hx0 hy0 e0 e1
    generalize hm : ns.length = m at *
    clear hl lx hm
    rcases h0 with rfl | rfl | rfl
    all_goals simp only [Nat.reduceSub] at c1
    all_goals go_enter Try.func46, Try.ntmps46
    all_goals go_wp2
    all_goals go_ret
    all_goals refine ⟨?_, (Below.refl _ _).alloc (Nat.le_refl _) _⟩
    all_goals rw [HS.out]
    all_goals first | (rw [if_neg (by clear HS; simp at *; omega)]; rfl) | (rw [if_pos (by clear HS; simp at *; omega)]; rfl)
  · have z1 : ((ns.length : Int) == 256) = false := by simp; omega
    have z2 : ((ns.length : Int) == 384) = false := by simp; omega
    have z3 : ((ns.length : Int) == 512) = false := by simp; omega
    have HS := Lib.hid (soundE_no (e := e) (fun h => h0 h.len))
    have z4 : ((ns.length : Int) != 256) = true := by simp; omega
    have z5 : ((ns.length : Int) != 384) = true := by simp; omega
    have z6 : ((ns.length : Int) != 512) = true := by simp; omega
    clear hx lx hl h0
    generalize ns.length = m at *
    go_enter Try.func46, Try.ntmps46
    go_wp2
    go_ret
    exact ⟨by rw [HS.out]; rfl, (Below.refl _ _).alloc (Nat.le_refl _) _⟩
set_option maxRecDepth 10000 in
set_option maxHeartbeats 1600000 in
theorem refSound_any (A : Option Addr) (n c e : Nat) (ns : List Nat) (w : World) (hn : n = ns.length) (hl : n ≤ 9223372036854775807) (hx : Rd .u8 w A ns) (lx : Lim 256 ns) (he : e < 18446744073709551616) :
    Calls Try.prog 47 #[keyVal A n c e] w (fun r w' => r = .returned (.int .i64 (soundE ns e)) ∧ Below w.heap.size w w') := by
  subst hn
  unfold keyVal
  by_cases h0 : ns.length = 256 ∨ ns.length = 384 ∨ ns.length = 512
  · obtain ⟨x, hx0⟩ := get_of_lt (xs := ns) (i := 0) (by omega)
    obtain ⟨y, hy0⟩ := get_of_lt (xs := ns) (i := ns.length - 1) (by omega)
    obtain ⟨b, o, rfl, hbw, hcl⟩ := hx.pos hx0
    have c0 := hcl 0 x hx0
    have c1 := hcl _ y hy0
    rw [Nat.add_zero] at c0
    have hxb := lx.get hx0
    have hyb := lx.get hy0
    have e0 : ns[0]?.getD 0 = x := by rw [hx0]; rfl
    have e1 : ns[ns.length - 1]?.getD 0 = y := by rw [hy0]; rfl
    have HS : Hid (soundE ns e = if 128 ≤ x ∧ y % 2 = 1 ∧ e % 2 = 1 ∧ 3 ≤ e ∧ e < 8589934592 then 0 else 11) := by
      unfold Hid
      split
      · rename_i h
        exact soundE_yes ⟨h0, by rw [e0]; exact h.1, by rw [e1]; exact h.2.1, h.2.2.1, h.2.2.2.1, h.2.2.2.2⟩
      · rename_i h
        exact soundE_no fun k => h ⟨by rw [← e0]; exact k.top, by rw [← e1]; exact k.odd, k.eodd, k.e3, k.e33⟩
    clear hx hcl hx0 hy0 e0 e1
    generalize hm : ns.length = m at *
    clear hl lx hm
    rcases h0 with rfl | rfl | rfl
    all_goals simp only [Nat.reduceSub] at c1
    all_goals go_enter Try.func47, Try.ntmps47
    all_goals go_wp2
    all_goals go_ret
    all_goals refine ⟨?_, (Below.refl _ _).alloc (Nat.le_refl _) _⟩
    all_goals rw [HS.out]
    all_goals first | (rw [if_neg (by clear HS; simp at *; omega)]; rfl) | (rw [if_pos (by clear HS; simp at *; omega)]; rfl)
  · have z1 : ((ns.length : Int) == 256) = false := by simp; omega
    have z2 : ((ns.length : Int) == 384) = false := by simp; omega
    have z3 : ((ns.length : Int) == 512) = false := by simp; omega
    have HS := Lib.hid (soundE_no (e := e) (fun h => h0 h.len))
    have z4 : ((ns.length : Int) != 256) = true := by simp; omega
    have z5 : ((ns.length : Int) != 384) = true := by simp; omega
    have z6 : ((ns.length : Int) != 512) = true := by simp; omega
    clear hx lx hl h0
    generalize ns.length = m at *
    go_enter Try.func47, Try.ntmps47
    go_wp2
    go_ret
    exact ⟨by rw [HS.out]; rfl, (Below.refl _ _).alloc (Nat.le_refl _) _⟩
end Go.Proofs.Ytfclpieijbgodaa
