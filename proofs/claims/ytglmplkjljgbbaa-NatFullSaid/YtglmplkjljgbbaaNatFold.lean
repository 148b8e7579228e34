/-
  nat.fold: adds y times a to a row of limbs in place, and tells the carry.
-/
import Derived.Test.YtglmplkjljgbbaaBase
import Derived.Test.YtglmplkjljgbbaaProg
import Derived.WalkKit
import Derived.WalkSpells
namespace Go.Proofs.Ytglmplkjljgbbaa
set_option linter.unusedVariables false
set_option linter.unusedSimpArgs false
open Go.RowKit

/-- What fold has done to the block behind k limbs: its contents, and the carry. -/
def foldTo (cs : List Nat) (off : Nat) (ys : List Nat) (a : Nat) : Nat → List Nat × Nat
  | 0 => (cs, 0)
  | k + 1 =>
    let p := foldTo cs off ys a k
    let t := a * ys.getD k 0 + p.1.getD (off + k) 0 + p.2
    (p.1.set (off + k) (t % 4294967296), t / 4294967296)

theorem foldTo_length (cs : List Nat) (off : Nat) (ys : List Nat) (a k : Nat) : (foldTo cs off ys a k).1.length = cs.length := by
  induction k with
  | zero => rfl
  | succ k ih => simp [foldTo, ih]
theorem foldTo_lim (cs : List Nat) (off : Nat) (ys : List Nat) (a k : Nat) (lc : Lim 4294967296 cs) : Lim 4294967296 (foldTo cs off ys a k).1 := by
  induction k with
  | zero => exact lc
  | succ k ih => exact ih.set (Nat.mod_lt _ (by omega))
theorem mul_lim {a b : Nat} (ha : a < 4294967296) (hb : b < 4294967296) : a * b ≤ 18446744065119617025 := Nat.mul_le_mul (show a ≤ 4294967295 by omega) (show b ≤ 4294967295 by omega)
theorem getD_lim {b : Nat} {xs : List Nat} (h : Lim b xs) (hb : 0 < b) (i : Nat) : xs.getD i 0 < b := by
  rw [List.getD_eq_getElem?_getD]
  cases hx : xs[i]? with
  | none => simpa using hb
  | some x => simpa using h.get hx
theorem foldTo_carry (cs : List Nat) (off : Nat) (ys : List Nat) (a k : Nat) (ha : a < 4294967296) (lc : Lim 4294967296 cs) (ly : Lim 4294967296 ys) : (foldTo cs off ys a k).2 < 4294967296 := by
  induction k with
  | zero => show 0 < 4294967296; omega
  | succ k ih =>
    have h1 := mul_lim ha (getD_lim ly (by omega) k)
    have h2 := getD_lim (foldTo_lim cs off ys a k lc) (by omega) (off + k)
    show (a * ys.getD k 0 + (foldTo cs off ys a k).1.getD (off + k) 0 + (foldTo cs off ys a k).2) / 4294967296 < 4294967296
    omega
theorem foldTo_succ {cs : List Nat} {off : Nat} {ys : List Nat} {a k y x c : Nat} {ds : List Nat} (hy : ys[k]? = some y) (hd : foldTo cs off ys a k = (ds, c)) (hx : ds[off + k]? = some x) :
    foldTo cs off ys a (k + 1) = (ds.set (off + k) ((a * y + x + c) % 4294967296), (a * y + x + c) / 4294967296) := by
  simp [foldTo, hd, List.getD_eq_getElem?_getD, hy, hx]

set_option maxHeartbeats 400000 in
theorem fold_any (cs ys : List Nat) (g off n cap m c : Nat) (A : Option Addr) (a : Nat) (w : World) (hb : Blk .u32 w g cs) (hy : Rd .u32 w A ys) (ho : Off A ys g)
    (hm : m = ys.length) (hl : m ≤ 70000) (hn : m ≤ n) (hoff : off + m ≤ cs.length) (ha : a < 4294967296) (lc : Lim 4294967296 cs) (ly : Lim 4294967296 ys) :
    Calls Try.prog 40 #[.slice (some ⟨g, off, none⟩) n cap, .slice A m c, .int .u32 (a : Int)] w fun e w' =>
      e = .returned (.int .u32 ((foldTo cs off ys a m).2 : Int)) ∧ Blk .u32 w' g (foldTo cs off ys a m).1 ∧ w.grownBy w' (some g) := by
  subst hm
  go_enter Try.func40, Try.ntmps40
  go_wp2
  go_loopw [7, 13] (fun c i wr => ∃ k cy : Nat, ∃ ds, k ≤ ys.length ∧ i = .int .i64 k ∧ c = .int .u64 cy ∧ Hid (foldTo cs off ys a k = (ds, cy)) ∧ Blk .u32 wr g ds ∧ w.grownBy wr (some g)) (fun _ i _ => ys.length - (intOf i).toNat)
  case atStart => exact ⟨0, 0, cs, Nat.zero_le _, rfl, rfl, rfl, hb, only_refl _ _⟩
  case round =>
    obtain ⟨k, cy, ds, hk, rfl, rfl, hf, hbr, hgr⟩ := hrel
    have hcy : cy < 4294967296 := by have := foldTo_carry cs off ys a k ha lc ly; rwa [hf.out] at this
    by_cases hlt : k < ys.length
    · obtain ⟨y, hgy⟩ := get_of_lt hlt
      have hdl : off + k < ds.length := by have := foldTo_length cs off ys a k; rw [hf.out] at this; simp at this; omega
      obtain ⟨x, hgx⟩ := get_of_lt hdl
      have hyb := ly.get hgy
      have hxb : x < 4294967296 := by have := foldTo_lim cs off ys a k lc; rw [hf.out] at this; exact this.get hgx
      obtain ⟨b, o, rfl, hbw, hcy0⟩ := (hy.grown hgr (fun _ e => by injection e with e; subst e; exact ho)).pos hgy
      have hcell := hcy0 k y hgy
      have hcx := hbr.cell hgx
      have hfx := hbr.frozen hgx
      have hml := mul_lim ha hyb
      have hstep := Lib.hid (foldTo_succ hgy hf.out hgx)
      have hset := Lib.hid (hbr.set hgx ((a * y + x + cy) % 4294967296))
      clear hcy0 hgy hgx
      go_wp2
      go_roundw
      case rel => exact ⟨k + 1, _, _, by omega, by go_num, by go_num, hstep.out, hset.out, only_set hgr (.inl rfl) _⟩
      case measure => simp [intOf]; omega
    · obtain rfl : k = ys.length := by omega
      have hend := Lib.hid hf.out
      go_wp2
      go_ret
      rw [hend.out]
      exact ⟨rfl, hbr, hgr⟩
end Go.Proofs.Ytglmplkjljgbbaa
