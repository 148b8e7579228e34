/-
 The statement ChainOthers: who has signed nobody that is reached has no say.
-/
import Derived.Test.YtchaahnhpeoomaaGreatPCnTw
namespace Go.Proofs.YtchaahnhpeoomaaGreat
set_option linter.unusedVariables false
set_option linter.unusedSimpArgs false
set_option maxRecDepth 20000
open Go.RowKit
theorem PoolOk.more {w : World} {lf c : Crt} {cs pl : List Crt} (h : PoolOk w lf cs) (hc : c.ok w) (ht : c.tbs.xs.length ≤ 8192) (hk : c.key.xs.length ≤ 600) (hp : ∀ x ∈ pl, x = c ∨ x ∈ cs) (hl : pl.length ≤ 16) : PoolOk w lf pl := by
 have hm : ∀ x ∈ lf :: pl, x = c ∨ x ∈ lf :: cs := fun x hx => by
  rcases List.mem_cons.1 hx with rfl | hx
  ·exact .inr (by simp)
  ·exact (hp x hx).imp id fun q => List.mem_cons_of_mem _ q
 refine ⟨h.pos, fun x hx => ?_, fun x hx => ?_, fun x hx => ?_, hl⟩ <;> rcases hm x hx with rfl | q
 ·exact hc
 ·exact h.ok x q
 ·exact Nat.le_trans ht (by decide)
 ·exact h.tbs x q
 ·exact Nat.le_trans hk (by decide)
 ·exact h.key x q
end Go.Proofs.YtchaahnhpeoomaaGreat
