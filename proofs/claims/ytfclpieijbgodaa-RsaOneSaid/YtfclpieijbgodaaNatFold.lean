/-
  nat.fold: adds y times a to a row of limbs in place, and tells the carry.
-/
import Derived.Test.YtfclpieijbgodaaBase
import Derived.Test.YtfclpieijbgodaaNumT
import Derived.Test.YtfclpieijbgodaaProg
import Derived.WalkKit
import Derived.WalkSpells
namespace Go.Proofs.Ytfclpieijbgodaa
set_option linter.unusedVariables false
set_option linter.unusedSimpArgs false
open Go.RowKit

set_option maxHeartbeats 400000 in
theorem fold_any (cs ys : List Nat) (g off n cap m c : Nat) (A : Option Addr) (a : Nat) (w : World) (hb : Blk .u32 w g cs) (hy : Rd .u32 w A ys) (ho : Off A ys g)
    (hm : m = ys.length) (hl : m ≤ 70000) (hn : m ≤ n) (hoff : off + m ≤ cs.length) (ha : a < 4294967296) (lc : Lim 4294967296 cs) (ly : Lim 4294967296 ys) :
    Calls Try.prog 66 #[.slice (some ⟨g, off, none⟩) n cap, .slice A m c, .int .u32 (a : Int)] w fun e w' =>
      e = .returned (.int .u32 ((foldTo cs off ys a m).2 : Int)) ∧ Blk .u32 w' g (foldTo cs off ys a m).1 ∧ w.grownBy w' (some g) := by
  subst hm
  go_enter Try.func66, Try.ntmps66
  go_wp2
  go_loopw [7, 13] (fun c i wr => ∃ k cy : Nat, ∃ ds, k ≤ ys.length ∧ i = .int .i64 k ∧ c = .int .u64 cy ∧ Hid (foldTo cs off ys a k = (ds, cy)) ∧ Blk .u32 wr g ds ∧ w.grownBy wr (some g)) (fun _ i _ => ys.length - (intOf i).toNat)
  case atStart => exact ⟨0, 0, cs, Nat.zero_le _, rfl, rfl, rfl, hb, only_refl _ _⟩
  case round =>
    obtain ⟨k, cy, ds, hk, rfl, rfl, hf, hbr, hgr⟩ := hrel
    have hcy : cy < 4294967296 := by have := foldTo_carry cs off ys a k ha lc ly; rwa [hf.out] at this
    by_cases hlt : k < ys.length
    · obtain ⟨y, hgy⟩ := get_of_lt hlt
      have hdl : off + k < ds.length := by have := foldTo_length cs off ys a k; rw [hf.out] at this; simp at this; omega
      obtain ⟨x, hgx⟩ := get_of_lt hdl
      have hyb := ly.get hgy
      have hxb : x < 4294967296 := by have := foldTo_lim cs off ys a k lc; rw [hf.out] at this; exact this.get hgx
      obtain ⟨b, o, rfl, hbw, hcy0⟩ := (hy.grown hgr (fun _ e => by injection e with e; subst e; exact ho)).pos hgy
      have hcell := hcy0 k y hgy
      have hcx := hbr.cell hgx
      have hfx := hbr.frozen hgx
      have hml := mul_lim ha hyb
      have hstep := Lib.hid (foldTo_succ hgy hf.out hgx)
      have hset := Lib.hid (hbr.set hgx ((a * y + x + cy) % 4294967296))
      clear hcy0 hgy hgx
      go_wp2
      go_roundw
      case rel => exact ⟨k + 1, _, _, by omega, by go_num, by go_num, hstep.out, hset.out, only_set hgr (.inl rfl) _⟩
      case measure => simp [intOf]; omega
    · obtain rfl : k = ys.length := by omega
      have hend := Lib.hid hf.out
      go_wp2
      go_ret
      rw [hend.out]
      exact ⟨rfl, hbr, hgr⟩
end Go.Proofs.Ytfclpieijbgodaa
