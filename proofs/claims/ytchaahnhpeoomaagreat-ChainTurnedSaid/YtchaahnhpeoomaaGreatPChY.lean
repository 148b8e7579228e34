/-
 Rows put behind one another, of whatever records; rows of certificates that a call has made.
-/
import Derived.Test.YtchaahnhpeoomaaGreatPChX
namespace Go.Proofs.YtchaahnhpeoomaaGreat
set_option linter.unusedVariables false
set_option linter.unusedSimpArgs false
set_option maxRecDepth 20000
open Go.RowKit
theorem wpList_append_R {w : World} {ops : Array Oper} {rest : List Oper} {o : Oper} {a : Act} {Q : Exit → Act → World → Prop} (hgd : o.guard = none) (s x : Operand) (t : TypeId) (ho : o.op = .call { callee := .builtin .append, args := #[s, x], argTypes := #[t, t] })
  (B : Nat) (e : TypeId) (z : Value) (size bytes : Nat) (ht : Tryz.prog.underlying t = some (.slice e)) (hinfo : (Tryz.prog.info? e).map (fun i => (i.zero, i.size, i.bytes)) = some (some z, size, bytes)) (hzs : z.cells.size = size) (hsz : 0 < size)
  (v : Value) (n : Nat) (xs : List Value) (hs : a.eval s = v) (hown : w.ownsRow B e size v n xs) (A : Option Addr) (m c : Nat) (news : List Value) (hx : a.eval x = .slice A m c) (hl : news.length = m * size)
  (hnews : (m = 0) ∨ ∃ g off, A = some ⟨g, off, none⟩ ∧ Row w g off news) (h1 : ∀ u ∈ news, u.oneCell' = true) (h63 : n + m ≤ 1000000) (hbytes : bytes ≤ 1000) (hbase : B ≤ w.heap.size)
  (h : ∀ v' w', w'.ownsRow B e size v' (n + m) (xs ++ news) → w.grownBy w' v.ownBlock → wpList Tryz.prog ops Q rest (a.put o.dst v') w') : wpList Tryz.prog ops Q (o :: rest) a w := by
 have hb2 : (n + m) * bytes ≤ 140737488355328 := Nat.le_trans (Nat.mul_le_mul h63 hbytes) (by decide)
 have hm63 : n + m ≤ maxLen := Nat.le_trans h63 (by decide)
 rcases A with _ | ad
 ·have h0 : m = 0 := by
   rcases hnews with h | ⟨b, off, h, _⟩
   ·exact h
   ·cases h
  subst h0
  obtain rfl : news = [] := List.eq_nil_of_length_eq_zero (by simpa using hl)
  obtain ⟨i, hi, hzz⟩ := Option.map_eq_some_iff.1 hinfo
  simp only [Prod.mk.injEq] at hzz
  obtain ⟨hz, hs1, hb⟩ := hzz
  have hrun : (Builtin.append_ #[t, t] o.type #[v, .slice none 0 c]).run Tryz.prog w = .ok v w := by
   rcases hown.2 with ⟨rfl, rfl⟩ | ⟨g, cap, cur, rfl, _, _, hnc, _⟩
   ·simp [Builtin.append_, run_underlying ht, sizeOf, typeInfo, hi, Builtin.lenOf, Builtin.firstCells]
   ·simp [Builtin.append_, run_underlying ht, sizeOf, typeInfo, hi, Builtin.lenOf, Builtin.firstCells, hnc, storeCells]
  refine wpList_plain hgd fun K hK => ?_
  unfold Oper.wp execOp
  simp only [ho, resolve, invoke, builtin, Sem.run_bind, Sem.run_pure, Result.andThen_ok, List.map_toArray, List.map_cons, List.map_nil, hs, hx, hrun]
  exact hK _ _ (h _ _ (by simpa using hown) ⟨rfl, rfl, rfl, Nat.le_refl _, fun _ _ _ => rfl⟩)
 ·refine wpList_append_V hgd s x t ho B e z size bytes ht hinfo hzs hsz v n xs hs hown ad m c news hx hl (fun j u hj => ?_) h1 hm63 hb2 hbase (fun v' w' o1 g1 b1 => h v' w' o1 g1)
  rcases hnews with rfl | ⟨b, off, he, hR⟩
  ·obtain rfl : news = [] := List.eq_nil_of_length_eq_zero (by simpa using hl)
   simp at hj
  ·injection he with he
   subst he
   rw [addr_addC]
   exact hR.2 j u hj
theorem wpList_append_crs {w : World} {ops : Array Oper} {rest : List Oper} {o : Oper} {a : Act} {Q : Exit → Act → World → Prop} (hgd : o.guard = none) (s x : Operand) (ho : o.op = .call { callee := .builtin .append, args := #[s, x], argTypes := #[31, 31] })
  (B : Nat) (v : Value) (l : List Crt) (n : Nat) (hs : a.eval s = v) (hown : w.ownsRow B 30 24 v n (crtCells l)) (A : Option Addr) (m c : Nat) (news : List Crt) (hx : a.eval x = .slice A m c) (hm : m = news.length) (hR : Crs w A news) (hsm : n + m ≤ 1000000) (hB : B ≤ w.heap.size)
  (h : ∀ v' w', w'.ownsRow B 30 24 v' (n + m) (crtCells (l ++ news)) → (∀ A, Below B A w → Below B A w') → wpList Tryz.prog ops Q rest (a.put o.dst v') w') : wpList Tryz.prog ops Q (o :: rest) a w := by
 subst hm
 refine wpList_append_R hgd s x _ ho B 30 (.agg Crt.none.cells.toArray) 24 224 Tryz.underlying31 info_cert rfl (by decide) v n (crtCells l) hs hown A news.length c (crtCells news) hx (crtCells_length news) (hR.imp (fun h => by rw [h]; rfl) id) (crtCells_one news) hsm (by decide) hB (fun v' w' o1 g1 => ?_)
 rw [← crtCells_append] at o1
 refine h v' w' o1 fun A hA => hA.grown g1 hB fun k hk => ?_
 exact (hown.lt k hk).1
theorem own_crs {W : World} {B : Nat} {v : Value} {l : List Crt} {n : Nat} (hn : n = l.length) (h : W.ownsRow B 30 24 v n (crtCells l)) : ∃ A c, v = .slice A l.length c ∧ l.length ≤ c ∧ c ≤ maxLen ∧ Crs W A l := by
 subst hn
 rcases Nat.eq_zero_or_pos l.length with h0 | h0
 ·obtain rfl : l = [] := List.eq_nil_of_length_eq_zero h0
  rcases h.2 with ⟨h1, h2⟩ | ⟨g, cap, cur, h1, hB, h3, h4, h5, h6, h7⟩
  ·exact ⟨none, 0, h1, Nat.le_refl _, Nat.zero_le _, .inl rfl⟩
  ·exact ⟨_, cap, h1, Nat.zero_le _, h5, .inl rfl⟩
 ·obtain ⟨g, c, h1, h2, h3, h4, h5⟩ := own_crt h h0
  exact ⟨_, c, h1, h2, h3, .inr ⟨g, 0, rfl, h5⟩⟩
theorem wiB_mem {c : Crt} {L : List Crt} (h : c ∈ L) : wiB c L = true := by
 unfold wiB
 rw [List.any_eq_true]
 exact ⟨c, h, decide_eq_true rfl⟩
theorem reach_sub {lf : Crt} {cs : List Crt} : ∀ c ∈ (hse lf cs).reach, c ∈ lf :: cs := fun c hc => by
 rw [Chn.reach_mem] at hc
 obtain ⟨k, hk, i, hi, rfl⟩ := hc
 exact atC_mem (spot_lvl hi)
theorem find_lenD {lf : Crt} {cs : List Crt} {tr : Crt → Bool} : (((hse lf cs).find tr).getD []).length ≤ 8 := by
 cases h : (hse lf cs).find tr with
 | none => simp
 | some r =>
  obtain ⟨l, L, h1, h2, rfl, h3, _⟩ := Chn.find_spec (hse lf cs) h
  simp [h3]
  omega
end Go.Proofs.YtchaahnhpeoomaaGreat
