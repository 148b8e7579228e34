/-
  A power, errors and all; the reference's products and powers.
-/
import Derived.Test.YtfclpieijbgodaaMonE
namespace Go.Proofs.Ytfclpieijbgodaa
set_option linter.unusedVariables false
set_option linter.unusedSimpArgs false
open Go.RowKit

def expMOf (xs es ms : List Nat) : List Nat × Int := if mayOf xs ms = true ∧ isRight es = true then (limbs (val xs ^ val es % val ms), 0) else ([], 1)
set_option maxHeartbeats 400000 in
theorem mexpNil_any (a b : Value) (w : World) : Calls Try.prog 37 #[.pointer none, a, b] w (fun e w' => e = .returned (.tuple #[.slice none 0 0, .int .i64 2]) ∧ Below w.heap.size w w') := by
  go_enter Try.func37, Try.ntmps37
  go_wp2_with fail
  go_ret2
  exact ⟨rfl, (Below.refl _ _).alloc (Nat.le_refl _) _⟩
set_option maxHeartbeats 800000 in
theorem mexpArg_any (B0 g : Nat) (ms : List Nat) (X Y : Option Addr) (n m c d : Nat) (xs es : List Nat) (w : World) (hO : ModOk w B0 g ms) (hM : MayM ms) (hn : n = xs.length) (hm : m = es.length) (hl : n ≤ 70000) (hl' : m ≤ 30000) (hx : Rd .u32 w X xs) (hy : Rd .u32 w Y es) (lx : Lim 4294967296 xs) (ly : Lim 4294967296 es)
    (h : mayOf xs ms = false ∨ isRight es = false) :
    Calls Try.prog 37 #[.pointer (some ⟨g, 0, none⟩), .slice X n c, .slice Y m d] w (Gives2 .u32 [] 1 w) := by
  subst hn
  subst hm
  have hB1 : Below w.heap.size w (w.alloc (.cells #[.pointer (some ⟨g, 0, none⟩)] 34)) := (Below.refl _ _).alloc (Nat.le_refl _) _
  have hO1 := hO.below hB1
  obtain ⟨ninv, A2, c2, hR, -⟩ := hO1.mrd
  have hmay := Lib.hid (mmay_any g ms ninv X _ c xs _ hR hM.right rfl (by omega) (hx.below hB1) lx hM.lm)
  cases r1 : mayOf xs ms with
  | false =>
    rw [r1] at hmay
    clear h hO hO1
    go_enter Try.func37, Try.ntmps37
    go_wp2_with fail
    refine hmay.out.mono ?_
    rintro e w' ⟨rfl, q, rfl⟩
    go_wp2_with fail
    go_ret2
    exact gives2_arg _ _ _ (below_drewN hB1 q)
  | true =>
    have r2 : isRight es = false := by simpa [r1] using h
    rw [r1] at hmay
    clear h hO hO1
    go_enter Try.func37, Try.ntmps37
    go_wp2_with fail
    refine hmay.out.mono ?_
    rintro e w' ⟨rfl, q, rfl⟩
    go_wp2_with fail
    refine (right_any Y _ d es _ rfl (by omega) (hy.below (below_drewN hB1 q))).mono ?_
    rintro e w' ⟨rfl, rfl⟩
    rw [r2]
    go_wp2_with fail
    go_ret2
    exact gives2_arg _ _ _ (below_drewN hB1 q)
theorem mexp_any (B0 g : Nat) (ms : List Nat) (X Y : Option Addr) (n m c d : Nat) (xs es : List Nat) (w : World) (hO : ModOk w B0 g ms) (hM : MayM ms) (hn : n = xs.length) (hm : m = es.length) (hl : n ≤ 70000) (hl' : m ≤ 30000) (hx : Rd .u32 w X xs) (hy : Rd .u32 w Y es) (lx : Lim 4294967296 xs) (ly : Lim 4294967296 es) :
    Calls Try.prog 37 #[.pointer (some ⟨g, 0, none⟩), .slice X n c, .slice Y m d] w (Gives2 .u32 (expMOf xs es ms).1 (expMOf xs es ms).2 w) := by
  unfold expMOf
  by_cases h : mayOf xs ms = true ∧ isRight es = true
  · rw [if_pos h]
    exact mexpOk_any B0 g ms X Y n m c d xs es w hO hM hn hm hl' hx hy lx ly h.1 h.2
  · rw [if_neg h]
    exact mexpArg_any B0 g ms X Y n m c d xs es w hO hM hn hm hl hl' hx hy lx ly (not_and_bool h)
end Go.Proofs.Ytfclpieijbgodaa
