/-
 Arguments that came in, opened: slices of records, and what holds them. Holds without any condition.
-/
import Derived.Test.YtchaahnhpeoomaaGreatPOpn
namespace Go.Proofs.YtchaahnhpeoomaaGreat
set_option linter.unusedVariables false
set_option linter.unusedSimpArgs false
set_option maxRecDepth 20000
open Go.RowKit Go.WideShapes
structure Sls3 (α : Type) where
 A : Option Addr
 c : Nat
 l : List α
def Sls3.val {α : Type} (s : Sls3 α) : Value := .slice s.A s.l.length s.c
structure RowsIn {α : Type} (n : Nat) (f : α → List Value) (Q : α → Prop) (W : World) (s : Sls3 α) : Prop where
 cap : s.l.length ≤ s.c
 max : s.c ≤ 9223372036854775807
 row : s.l = [] ∨ ∃ g o, s.A = some ⟨g, o, none⟩ ∧ Row W g o (s.l.map f).flatten
 each : ∀ x ∈ s.l, Q x
theorem addr_addO (bk off i : Nat) : (⟨bk, off, none⟩ : Addr).add i = ⟨bk, off + i, none⟩ := by unfold Addr.add; split <;> simp_all
theorem flat_at {n : Nat} : ∀ (l : List (List Value)), (∀ x ∈ l, x.length = n) → ∀ i v, l.flatten[i]? = some v → ∃ r j x, l[r]? = some x ∧ j < n ∧ x[j]? = some v ∧ i = r * n + j
 | [], _, i, v, h => by simp at h
 | a :: l, hn, i, v, h => by
  rw [List.flatten_cons] at h
  have ha := hn a (by simp)
  by_cases hi : i < n
  ·rw [List.getElem?_append_left (by omega)] at h
   exact ⟨0, i, a, rfl, hi, h, by omega⟩
  ·rw [List.getElem?_append_right (by omega), ha] at h
   obtain ⟨r, j, x, h1, h2, h3, h4⟩ := flat_at l (fun x hx => hn x (by simp [hx])) _ _ h
   exact ⟨r + 1, j, x, by simpa using h1, h2, h3, by rw [Nat.succ_mul]; omega⟩
theorem opn_rows {α : Type} [Inhabited α] {W : World} {t e : TypeId} {n : Nat} {f : α → List Value} {Q : α → Prop} (hn : 0 < n) (hf : ∀ x, (f x).length = n) (ht : Tryz.prog.underlying t = some (.slice e)) (ce : Tryz.prog.cellsOf e = n) (R : Opn e W f Q) : Opn t W (fun s : Sls3 α => [s.val]) (RowsIn n f Q W) := by
 intro H enc base held fuel cs y h
 rcases Go.Deep.open_slice ht h with ⟨hcs, _⟩ | ⟨a', len', cap', m, k, D, Pl, hcs, _, hl, hm, hmm, _, hr⟩
 ·exact ⟨⟨none, 0, []⟩, by rw [hcs]; rfl, Nat.le_refl _, Nat.zero_le _, .inl rfl, fun z hz => by cases hz⟩
 ·simp only [if_true] at hmm
  have hmm' := hmm.symm
  subst hmm'
  rw [ce] at hr
  have each2 : ∀ r, r < len' → ∃ y : α, (∀ j, j < n → W.cell? ((a'.add (r * n)).add j) = (f y)[j]?) ∧ Q y := by
   intro r hrl
   obtain ⟨cs, h1, h2⟩ := hr r (by omega)
   obtain ⟨_, h3, h4⟩ := World.cells?_some h1
   obtain ⟨z, rfl, hz2⟩ := R h2
   exact ⟨z, h4, hz2⟩
  obtain ⟨g, hg⟩ := Go.Deep.choose_lt each2
  refine ⟨⟨some a', cap', (List.range len').map g⟩, ?_, ?_⟩
  ·rw [hcs]
   simp [Sls3.val]
  ·refine ⟨by simpa using hl, by simpa [maxLen] using hm, ?_, fun z hz => ?_⟩
   ·rcases Nat.eq_zero_or_pos len' with h0 | h0
    ·subst h0
     exact .inl rfl
    ·obtain ⟨hf1, _⟩ := hg 0 h0
     have hfirst := hf1 0 hn
     obtain ⟨u, hu⟩ : ∃ u, (f (g 0))[0]? = some u := ⟨_, List.getElem?_eq_getElem (by rw [hf]; omega)⟩
     rw [hu] at hfirst
     obtain ⟨bk, off, spot⟩ := a'
     have hs : spot = none := by simpa [Addr.add] using World.cell?_spot hfirst
     subst hs
     refine .inr ⟨bk, off, rfl, ?_, fun i v hv => ?_⟩
     ·have := World.block_lt_of_cell? W _ hfirst
      simpa [Addr.add] using this
     ·obtain ⟨r, j, x, h1, h2, h3, rfl⟩ := flat_at (n := n) _ (fun x hx => by
       obtain ⟨z, _, rfl⟩ := List.mem_map.1 hx
       exact hf z) _ _ hv
      rw [List.getElem?_map, Option.map_eq_some_iff] at h1
      obtain ⟨z, hz, rfl⟩ := h1
      rw [List.getElem?_map, Option.map_eq_some_iff] at hz
      obtain ⟨q, hq, rfl⟩ := hz
      obtain ⟨hlt, rfl⟩ := List.getElem?_eq_some_iff.1 hq
      rw [List.getElem_range] at h3
      have h9 := (hg r (by simpa using hlt)).1 j h2
      rw [addr_addO, addr_addO, h3, Nat.add_assoc] at h9
      exact h9
   ·obtain ⟨i, hi, rfl⟩ := List.mem_map.1 hz
    exact (hg i (List.mem_range.1 hi)).2
section
variable {W : World}
theorem opn_certs : Opn 31 W (fun s : Sls3 Crt => [s.val]) (RowsIn 24 Crt.cells (CrtIn W) W) := opn_rows (n := 24) (by decide) Crt.cells_length Tryz.underlying31 (by kernel_rfl) opn_cert
theorem opn_mat : Opn 32 W (fun s : Sls3 Sl => [s.val]) (RowsIn 1 (fun s : Sl => [s.val]) (fun s => s.ok W) W) := opn_rows (n := 1) (by decide) (fun _ => rfl) Tryz.underlying32 (by kernel_rfl) opn_bytes
theorem opn_trust : Opn 34 W (fun t : (Sls3 Sl) => [t.val]) (fun t => RowsIn 1 (fun s : Sl => [s.val]) (fun s => s.ok W) W t) := by
 intro H enc base held fuel cs y h
 obtain ⟨hl, m, hm⟩ := flds Tryz.underlying34 h
 obtain ⟨N, hN, hN2⟩ : ∃ c : Nat, Tryz.prog.cellsOf 34 = c ∧ c = 1 := ⟨_, rfl, by kernel_rfl⟩
 rw [hN, hN2] at hl
 obtain ⟨x0, e0, q0⟩ := fld (n := 1) hm 0 rfl rfl rfl (by kernel_rfl) opn_mat
 have e0 : cs.drop 0 = _ ++ cs.drop 1 := e0
 refine ⟨x0, ?_, q0⟩
 have e0 : cs = _ := e0
 rw [e0, List.drop_eq_nil_of_le (by omega)]
 simp [List.append_assoc]
abbrev CCasec (t : (Crt × Sls3 Crt × Sls3 Sl)) : List Value := t.1.cells ++ [t.2.1.val] ++ [t.2.2.val]
abbrev QCasec (W : World) (t : (Crt × Sls3 Crt × Sls3 Sl)) : Prop := CrtIn W t.1 ∧ RowsIn 24 Crt.cells (CrtIn W) W t.2.1 ∧ RowsIn 1 (fun s : Sl => [s.val]) (fun s => s.ok W) W t.2.2
theorem opn_casec : Opn 36 W CCasec (QCasec W) := by
 intro H enc base held fuel cs y h
 obtain ⟨hl, m, hm⟩ := flds Tryz.underlying36 h
 obtain ⟨N, hN, hN2⟩ : ∃ c : Nat, Tryz.prog.cellsOf 36 = c ∧ c = 26 := ⟨_, rfl, by kernel_rfl⟩
 rw [hN, hN2] at hl
 obtain ⟨x0, e0, q0⟩ := fld (n := 24) hm 0 rfl rfl rfl (by kernel_rfl) opn_cert
 have e0 : cs.drop 0 = _ ++ cs.drop 24 := e0
 obtain ⟨x1, e1, q1⟩ := fld (n := 1) hm 1 rfl rfl rfl (by kernel_rfl) opn_certs
 have e1 : cs.drop 24 = _ ++ cs.drop 25 := e1
 obtain ⟨x2, e2, q2⟩ := fld (n := 1) hm 2 rfl rfl rfl (by kernel_rfl) opn_trust
 have e2 : cs.drop 25 = _ ++ cs.drop 26 := e2
 refine ⟨(x0, x1, x2), ?_, ⟨q0, q1, q2⟩⟩
 have e0 : cs = _ := e0
 rw [e0, e1, e2, List.drop_eq_nil_of_le (by omega)]
 simp [List.append_assoc]
abbrev CRow (t : (Nat × Nat × Int × Int × Bool × Bool × Nat)) : List Value := [.int .u8 (t.1 : Int), .int .u8 (t.2.1 : Int), .int .i64 t.2.2.1, .int .i64 t.2.2.2.1, .bool t.2.2.2.2.1, .bool t.2.2.2.2.2.1, .int .u8 (t.2.2.2.2.2.2 : Int)]
abbrev QRow (W : World) (t : (Nat × Nat × Int × Int × Bool × Bool × Nat)) : Prop := t.1 < 256 ∧ t.2.1 < 256 ∧ (-9223372036854775808 ≤ t.2.2.1 ∧ t.2.2.1 ≤ 9223372036854775807) ∧ (-9223372036854775808 ≤ t.2.2.2.1 ∧ t.2.2.2.1 ≤ 9223372036854775807) ∧ t.2.2.2.2.2.2 < 256
theorem opn_row : Opn 87 W CRow (QRow W) := by
 intro H enc base held fuel cs y h
 obtain ⟨hl, m, hm⟩ := flds Tryz.underlying87 h
 obtain ⟨N, hN, hN2⟩ : ∃ c : Nat, Tryz.prog.cellsOf 87 = c ∧ c = 7 := ⟨_, rfl, by kernel_rfl⟩
 rw [hN, hN2] at hl
 obtain ⟨x0, e0, q0⟩ := fld (n := 1) hm 0 rfl rfl rfl (by kernel_rfl) opn_u8
 have e0 : cs.drop 0 = _ ++ cs.drop 1 := e0
 obtain ⟨x1, e1, q1⟩ := fld (n := 1) hm 1 rfl rfl rfl (by kernel_rfl) opn_u8
 have e1 : cs.drop 1 = _ ++ cs.drop 2 := e1
 obtain ⟨x2, e2, q2⟩ := fld (n := 1) hm 2 rfl rfl rfl (by kernel_rfl) opn_i64
 have e2 : cs.drop 2 = _ ++ cs.drop 3 := e2
 obtain ⟨x3, e3, q3⟩ := fld (n := 1) hm 3 rfl rfl rfl (by kernel_rfl) opn_i64
 have e3 : cs.drop 3 = _ ++ cs.drop 4 := e3
 obtain ⟨x4, e4, q4⟩ := fld (n := 1) hm 4 rfl rfl rfl (by kernel_rfl) opn_bool
 have e4 : cs.drop 4 = _ ++ cs.drop 5 := e4
 obtain ⟨x5, e5, q5⟩ := fld (n := 1) hm 5 rfl rfl rfl (by kernel_rfl) opn_bool
 have e5 : cs.drop 5 = _ ++ cs.drop 6 := e5
 obtain ⟨x6, e6, q6⟩ := fld (n := 1) hm 6 rfl rfl rfl (by kernel_rfl) opn_u8
 have e6 : cs.drop 6 = _ ++ cs.drop 7 := e6
 refine ⟨(x0, x1, x2, x3, x4, x5, x6), ?_, ⟨q0, q1, q2, q3, q6⟩⟩
 have e0 : cs = _ := e0
 rw [e0, e1, e2, e3, e4, e5, e6, List.drop_eq_nil_of_le (by omega)]
 simp [List.append_assoc]
end
end Go.Proofs.YtchaahnhpeoomaaGreat
