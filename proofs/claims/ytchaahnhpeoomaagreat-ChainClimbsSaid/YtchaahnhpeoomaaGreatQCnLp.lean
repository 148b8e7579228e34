/-
  Plain: who may stand where in the ladder of Row.Made, who of it is found and who is reached.
-/
import Derived.Test.YtchaahnhpeoomaaGreatQChY
import Derived.Test.YtchaahnhpeoomaaGreatQGReg
import Derived.Laws.BitsAllLaws
import Derived.Lib.BitFns
namespace Go.Proofs.YtchaahnhpeoomaaGreat
set_option linter.unusedVariables false
set_option linter.unusedSimpArgs false
set_option maxRecDepth 20000
open Go.RowKit
theorem crs_take {W : World} {A : Option Addr} {cs : List Crt} {c k : Nat} (h : Crs W A cs) (hk : k ≤ cs.length) (hc : cs.length ≤ c) (hm : c ≤ 9223372036854775807) : ∃ A', (∀ (z : Int) (U : World), z = (k : Int) → (Instr.sliceAt 31 (.slice A cs.length c) none (some (.int .i64 z)) none).run Tryz.prog U = .ok (.slice A' k c) U) ∧ Crs W A' (cs.take k) := by
 have h1 : (0 : Int) ≤ (k : Int) := by omega
 have h3 : (k : Int) ≤ (c : Int) := by omega
 have h5 : (cs.length : Int) ≤ (c : Int) := by omega
 rcases h with rfl | ⟨g, o, rfl, R⟩
 ·obtain rfl : k = 0 := by simpa using hk
  refine ⟨if c = 0 then A else A.map (·.add (0 * 24)), fun z U hz => ?_, .inl rfl⟩
  subst hz
  go_simp
 ·refine ⟨some ⟨g, o, none⟩, fun z U hz => ?_, .inr ⟨g, o, rfl, R.1, fun i v hv => R.2 i v ?_⟩⟩
  ·subst hz
   have e : (⟨g, o, none⟩ : Addr).add (0 * 24) = ⟨g, o, none⟩ := by rw [addr_addO]; simp
   go_simp
  ·rw [← List.take_append_drop k cs, crtCells_append, List.getElem?_append_left (List.getElem?_eq_some_iff.1 hv).1]
   exact hv
theorem own_form {W : World} {B n size : Nat} {e : TypeId} {v : Value} {xs : List Value} (h : W.ownsRow B e size v n xs) : ∃ A c, v = .slice A n c ∧ n ≤ c ∧ c ≤ 9223372036854775807 ∧ (n = 0 ∨ ∃ g, A = some ⟨g, 0, none⟩ ∧ B ≤ g ∧ Row W g 0 xs) := by
 rcases h.2 with ⟨h1, h2⟩ | ⟨g, cap, cur, h1, hB, h3, h4, h5, h6, h7⟩
 ·subst h2
  exact ⟨none, 0, h1, Nat.le_refl _, Nat.zero_le _, .inl rfl⟩
 ·refine ⟨_, cap, h1, h4, h5, .inr ⟨g, rfl, hB, heap_lt h3, fun i u hu => ?_⟩⟩
  have hi : i < n * size := by rw [← h.1]; exact (List.getElem?_eq_some_iff.1 hu).1
  rw [← h7, List.getElem?_take_of_lt hi] at hu
  rw [Nat.zero_add]
  simp [World.cell?, h3, by simpa using hu]
theorem cf_works (vs : Array Value) (w : World) : (callFunc 22 vs).run Tryz.prog w = .ok (.enter 22 vs) w := by kernel_rfl
theorem st_works {ops : Array Oper} {Q : Exit → Act → World → Prop} {Base : Act → Prop} {dst : Nat → Nat} {tags : Nat → Tg} {w0 : World} {i : Nat} {o : Oper} (hgd : o.guard = none) (ho : o.op = .call { callee := .value (.func 22), args := #[], argTypes := #[] }) (ht : tags i = tv (.bool true)) :
  StepOk Tryz.prog ops Q Base dst (fun i v w => Sp (tags i) v w) (fun w => Below w0.heap.size w0 w) i o :=
 st_call hgd (fun a W => run_call ho cf_works a W) fun a W hb hd hg => by
  have e0 : (#[] : Array Operand).map a.eval = #[] := by simp
  rw [e0]
  refine (works13_any W).mono ?_
  rintro e W' ⟨rfl, q⟩
  exact ⟨_, rfl, q, by rw [ht]; exact Sp.tv rfl⟩
abbrev RIn := Nat × Nat × Int × Int × Bool × Bool × Nat
def rowN (x : RIn) : Nat := 2 + x.1 % 9
def rowA (x : RIn) : Nat := x.2.1 % rowN x
def rowP (x : RIn) : Int := max (-1) (min x.2.2.1 255)
def rowU (x : RIn) : Int := max (-1) (min x.2.2.2.1 511)
def rowT (x : RIn) (i : Nat) : Rung := ⟨[97 + i], 0, !x.2.2.2.2.1, true, if x.2.2.2.2.1 then -1 else rowP x, if rowU x = 0 then -1 else rowU x⟩
def rowR (x : RIn) (i : Nat) : Rung := if i = rowA x then rowT x i else plainOf (97 + i)
def rowL (x : RIn) : List Rung := (List.range (rowN x)).map (rowR x)
def rowK (x : RIn) (i : Nat) : Nat := if x.2.2.2.2.2.1 then rowN x - 2 - (i + x.2.2.2.2.2.2) % (rowN x - 1) else (i + x.2.2.2.2.2.2) % (rowN x - 1)
def rowPool (x : RIn) (cs : List Crt) (lf : Crt) (m : Nat) : List Crt := (List.range m).map fun i => cAt cs lf (1 + rowK x i)
theorem zero_rung : (Tryz.prog.info? 125).map (fun i => i.zero) = some (some (.agg (Rung.cells ⟨[], 0, false, false, 0, 0⟩).toArray)) := by kernel_rfl
theorem rungR_one (r : Rung) : ∀ u ∈ r.cells, u.oneCell' = true := fun u hu => by
 simp only [Rung.cells, List.mem_cons, List.not_mem_nil, or_false] at hu
 rcases hu with rfl | rfl | rfl | rfl | rfl | rfl <;> rfl
theorem sz_rungR (r : Rung) : (Tryz.prog.info? 125).map (·.size) = some r.cells.length := by show _ = some 6; kernel_rfl
def LadOf (l : List Rung) : Prop := ∀ (gl ol lc : Nat) (A kA : Option Addr) (w : World), A = some ⟨gl, ol, none⟩ → Row w gl ol (rungCells l) → Sl.ok w ⟨kA, 1, [1]⟩ → Calls Tryz.prog 68 #[.slice A l.length lc, .agg [.slice kA 1 1, .int .u64 3].toArray] w (LadPost l kA [1] 3 w)
def MadeP (x : RIn) (w : World) (e : Ending) (w' : World) : Prop := ∃ (cs : List Crt) (lf : Crt) (A A' : Option Addr) (c c' : Nat), e = .returned (.tuple #[.slice A cs.length c, .slice A' (rowPool x cs lf (rowN x - 1)).length c']) ∧ cs[0]? = some lf ∧ cs.length = rowN x ∧ cs.length ≤ c ∧ c ≤ maxLen ∧ (rowPool x cs lf (rowN x - 1)).length ≤ c' ∧ c' ≤ maxLen ∧
 Crs w' A cs ∧ Crs w' A' (rowPool x cs lf (rowN x - 1)) ∧ cs.map Crt.say = ladderB (rowL x) [1] 3 ∧ (∀ c ∈ cs, c.ok w') ∧ Below w.heap.size w w'
set_option maxRecDepth 100000 in
set_option maxHeartbeats 12800000 in
theorem row_made (x : RIn) (w : World) (q : QRow w x) (HL : LadOf (rowL x)) : Calls Tryz.prog 43 #[.agg (CRow x).toArray] w (MadeP x w) := by
 obtain ⟨L0, hL0⟩ : ∃ L, L = CRow x := ⟨_, rfl⟩
 rw [← hL0]
 obtain ⟨hN, hA, ⟨hP1, hP2⟩, ⟨hU1, hU2⟩, hY⟩ := q
 obtain ⟨g0, hg0⟩ : ∃ g, g = w.heap.size := ⟨_, rfl⟩
 obtain ⟨w0, hw0⟩ : ∃ u, u = w.alloc (.cells L0.toArray 87) := ⟨_, rfl⟩
 have hE : Below w.heap.size w w0 := by rw [hw0]; exact (Below.refl _ _).alloc (Nat.le_refl _) _
 have B0 : Row w0 g0 0 L0 := by rw [hw0, hg0]; exact row_new _
 replace hL0 := Lib.hid hL0
 go_enter Tryz.func43, Tryz.ntmps43
 go_upto_region 1 with fail
 refine wp_world hw0 ?_
 rw [← hg0]
 clear hw0
 replace hg0 := Lib.hid hg0
 rw [hL0.out] at B0
 obtain ⟨xN, hxN⟩ : ∃ a, a = x.1 := ⟨_, rfl⟩
 obtain ⟨xA, hxA⟩ : ∃ a, a = x.2.1 := ⟨_, rfl⟩
 obtain ⟨xP, hxP⟩ : ∃ a, a = x.2.2.1 := ⟨_, rfl⟩
 obtain ⟨xU, hxU⟩ : ∃ a, a = x.2.2.2.1 := ⟨_, rfl⟩
 obtain ⟨xC, hxC⟩ : ∃ a, a = x.2.2.2.2.1 := ⟨_, rfl⟩
 obtain ⟨xB, hxB⟩ : ∃ a, a = x.2.2.2.2.2.1 := ⟨_, rfl⟩
 obtain ⟨xY, hxY⟩ : ∃ a, a = x.2.2.2.2.2.2 := ⟨_, rfl⟩
 have B1 : Row w0 g0 0 [.int .u8 (xN : Int), .int .u8 (xA : Int), .int .i64 xP, .int .i64 xU, .bool xC, .bool xB, .int .u8 (xY : Int)] := by rw [hxN, hxA, hxP, hxU, hxC, hxB, hxY]; exact B0
 clear B0
 have hg0B0 := B1.1
 rw [← hxN] at hN
 rw [← hxA] at hA
 rw [← hxP] at hP1 hP2
 rw [← hxU] at hU1 hU2
 rw [← hxY] at hY
 have kN : w0.cell? ⟨g0, 0, none⟩ = some (.int .u8 (xN : Int)) := B1.cell (i := 0) rfl
 have kA : w0.cell? ⟨g0, 1, none⟩ = some (.int .u8 (xA : Int)) := B1.cell (i := 1) rfl
 have kP : w0.cell? ⟨g0, 2, none⟩ = some (.int .i64 xP) := B1.cell (i := 2) rfl
 have kU : w0.cell? ⟨g0, 3, none⟩ = some (.int .i64 xU) := B1.cell (i := 3) rfl
 have kC : w0.cell? ⟨g0, 4, none⟩ = some (.bool xC) := B1.cell (i := 4) rfl
 have kB : w0.cell? ⟨g0, 5, none⟩ = some (.bool xB) := B1.cell (i := 5) rfl
 have kY : w0.cell? ⟨g0, 6, none⟩ = some (.int .u8 (xY : Int)) := B1.cell (i := 6) rfl
 clear hL0
 obtain ⟨n, hn⟩ : ∃ n, n = rowN x := ⟨_, rfl⟩
 have hn' : n = 2 + xN % 9 := by rw [hn, hxN]; rfl
 have zn : 2 + (xN : Int) % 9 = (n : Int) := by omega
 obtain ⟨a0, ha0⟩ : ∃ n, n = rowA x := ⟨_, rfl⟩
 have ha' : a0 = xA % n := by rw [ha0, hn, hxA]; rfl
 have n2 : (2 : Int) ≤ (n : Int) := by omega
 have n10 : (n : Int) ≤ 10 := by omega
 obtain ⟨B, hB⟩ : ∃ B, B = w0.heap.size := ⟨_, rfl⟩
 have hg0B : g0 < B := by rw [hB]; exact hg0B0
 have o0 : w0.ownsRow B 125 6 (.slice none 0 0) 0 (rungCells []) := World.ownsRow_nil w0 B 125 6
 have eB : Below B w0 w0 := Below.refl _ _
 replace hB := Lib.hid hB
 replace hxN := Lib.hid hxN
 replace hxA := Lib.hid hxA
 replace hxP := Lib.hid hxP
 replace hxU := Lib.hid hxU
 replace hxC := Lib.hid hxC
 replace hxB := Lib.hid hxB
 replace hxY := Lib.hid hxY
 replace hn := Lib.hid hn
 replace hn' := Lib.hid hn'
 replace ha0 := Lib.hid ha0
 replace ha' := Lib.hid ha'
 go_upto_region 4 with fail
 clear zn
 go_loopw [4, 6, 7] (fun t4 t6 t7 wr => ∃ i : Nat, t6 = .int .i64 (i : Int) ∧ i ≤ n ∧ wr.ownsRow B 125 6 t4 i (rungCells ((List.range i).map (rowR x))) ∧ Below B w0 wr) (fun _ t _ _ => n - (intOf t).toNat)
 case atStart => exact ⟨0, rfl, Nat.zero_le _, o0, eB⟩
 case round =>
  obtain ⟨i, rfl, hi, own, er⟩ := hrel
  have z1 : (i : Int) ≤ 10 := by omega
  by_cases hlt : i < n
  ·have z2 : (i : Int) < (n : Int) := by omega
   have hsz : B ≤ wr.heap.size := by rw [hB.out]; exact er.size
   obtain ⟨ch, hch⟩ : ∃ c, c = 97 + i := ⟨_, rfl⟩
   have zch : 97 + (i : Int) = (ch : Int) := by omega
   have zch2 : (ch : Int) < 256 := by omega
   replace hch := Lib.hid hch
   obtain ⟨u0, hu0⟩ : ∃ u, u = wr.alloc (.cells #[.int .u8 (ch : Int)] 5) := ⟨_, rfl⟩
   have rd0 : Rd .u8 u0 (some ⟨wr.heap.size, 0, none⟩) [ch] := by rw [hu0]; exact Rd.of_all (blk_lit wr _ _ (by simp [ints]))
   have e0 : Below wr.heap.size wr u0 := by rw [hu0]; exact (Below.refl _ _).alloc (Nat.le_refl _) _
   have hcv := conv_str (some ⟨wr.heap.size, 0, none⟩) 1 1 [ch] u0 rfl rd0
   rw [hu0] at hcv
   go_wp2_with fail
   rw [← hu0]
   refine (plain_any [ch] u0).mono ?_
   rintro e1 u1 ⟨rfl, b1⟩
   have f1 := e0.trans (b1.mono e0.size)
   clear hcv rd0 e0 b1 hu0
   go_upto_region 7 with (first
    | ((with_reducible refine wpList_alloc_row ?_ 125 ?_ (Rung.cells ⟨[], 0, false, false, 0, 0⟩) zero_rung ?_); (· rfl); (· rfl); intro g7 u2 hg7 V7 z7 e7)
    | ((with_reducible refine wpList_store_cut ?_ 125 (.tmp 7) (.tmp 27) ?_ g7 0 (Rung.cells ⟨[ch], 0, true, true, -1, -1⟩) _ ?_ ?_ V7 ?_ (sz_rungR _) (rungR_one _) ?_); (· rfl); (· rfl); (· rfl); (· rfl); (· rfl); intro w7 hst7))
   have e27 : Below wr.heap.size wr w7 := by
    refine below_only (f1.trans (e7.mono f1.size)) hst7.1 (f1.trans (e7.mono f1.size)).size ?_
    rw [hg7.out]
    exact f1.size
   have D7 : Cut w7 g7 0 (Rung.cells ⟨[ch], 0, true, true, -1, -1⟩) := hst7.2.2.1
   have hg7r : wr.heap.size ≤ g7 := by rw [hg7.out]; exact f1.size
   clear f1 e7 V7 z7 hst7 hg7
   have eW : Below B w0 w7 := er.trans (e27.mono hsz)
   have hg07 : g0 ≠ g7 := by omega
   have cell7 : ∀ U, Below wr.heap.size wr U → ∀ (j : Nat) (v : Value), w0.cell? ⟨g0, j, none⟩ = some v → U.cell? ⟨g0, j, none⟩ = some v := fun U h j v hv => ((er.trans (h.mono hsz)).cell (p := ⟨g0, j, none⟩) hg0B).trans hv
   have r1 : (xA : Int) % (n : Int) = (a0 : Int) := by rw [ha'.out]; norm_cast
   have r2 : (xA : Int).tmod (n : Int) = (a0 : Int) := by rw [Int.tmod_eq_emod_of_nonneg (by omega)]; exact r1
   have ha0n : a0 < n := by rw [ha'.out]; exact Nat.mod_lt _ (by omega)
   have kA7 := cell7 w7 e27 1 _ kA
   have nz : ¬ n = 0 := by omega
   replace r1 := Lib.hid r1
   go_frame
   go_upto_if 34 with fail
   go_cut [] from 17 to 59 (fun wx => Cut wx g7 0 (rowR x i).cells ∧ Below wr.heap.size wr wx)
   case first =>
    by_cases hia : i = a0
    case neg =>
     have zia : ¬ (i : Int) = (a0 : Int) := by omega
     go_wp2_with fail
     go_meet
     case rel => exact ⟨by unfold rowR; rw [if_neg (by rw [← ha0.out]; exact hia), ← hch.out]; exact D7, e27⟩
    case pos =>
     have zia : (i : Int) = (a0 : Int) := by omega
     have kP7 := cell7 w7 e27 2 _ kP
     have kU7 := cell7 w7 e27 3 _ kU
     have kC7 := cell7 w7 e27 4 _ kC
     obtain ⟨p1, hp1⟩ : ∃ p, p = max (-1) (min xP 255) := ⟨_, rfl⟩
     obtain ⟨u1, hu1⟩ : ∃ p, p = max (-1) (min xU 511) := ⟨_, rfl⟩
     have zp1 := hp1.symm
     have zu1 := hu1.symm
     replace hp1 := Lib.hid hp1
     replace hu1 := Lib.hid hu1
     have kc : w7.cell? ⟨g7, 4, none⟩ = some (.int .i64 (-1)) := by have q := D7.cell (i := 4) (v := .int .i64 (-1)) rfl; rwa [Nat.zero_add] at q
     have kf : w7.frozen? ⟨g7, 4, none⟩ = false := by have q := D7.frozen (i := 4) (v := .int .i64 (-1)) rfl; rwa [Nat.zero_add] at q
     go_upto_region 9 with fail
     obtain ⟨x1, hx1⟩ : ∃ u, u = w7.setCell ⟨g7, 4, none⟩ (.int .i64 p1) := ⟨_, rfl⟩
     have E1 : Cut x1 g7 0 [.string (bstr [ch]), .int .u8 ((0 : Nat) : Int), .bool true, .bool true, .int .i64 p1, .int .i64 (-1)] := by rw [hx1]; have q := D7.set (i := 4) rfl (.int .i64 p1); rw [Nat.zero_add] at q; exact q
     have y1 : Below wr.heap.size wr x1 := by rw [hx1]; exact e27.setCell (p := ⟨g7, 4, none⟩) (by show _ ≤ g7; exact hg7r) _
     refine wp_world hx1 ?_
     clear hx1 kc kf
     have kU8 := cell7 x1 y1 3 _ kU
     have kc : x1.cell? ⟨g7, 5, none⟩ = some (.int .i64 (-1)) := by have q := E1.cell (i := 5) (v := .int .i64 (-1)) rfl; rwa [Nat.zero_add] at q
     have kf : x1.frozen? ⟨g7, 5, none⟩ = false := by have q := E1.frozen (i := 5) (v := .int .i64 (-1)) rfl; rwa [Nat.zero_add] at q
     go_upto_region 10 with fail
     obtain ⟨x2, hx2⟩ : ∃ u, u = x1.setCell ⟨g7, 5, none⟩ (.int .i64 u1) := ⟨_, rfl⟩
     have E2 : Cut x2 g7 0 [.string (bstr [ch]), .int .u8 ((0 : Nat) : Int), .bool true, .bool true, .int .i64 p1, .int .i64 u1] := by rw [hx2]; have q := E1.set (i := 5) rfl (.int .i64 u1); rw [Nat.zero_add] at q; exact q
     have y2 : Below wr.heap.size wr x2 := by rw [hx2]; exact y1.setCell (p := ⟨g7, 5, none⟩) (by show _ ≤ g7; exact hg7r) _
     refine wp_world hx2 ?_
     clear hx2 kc kf
     have kv : x2.cell? ⟨g7, 5, none⟩ = some (.int .i64 u1) := by have q := E2.cell (i := 5) (v := .int .i64 u1) rfl; rwa [Nat.zero_add] at q
     by_cases hu0 : u1 = 0
     case neg =>
      cases xC
      case false =>
       have kC8 := cell7 x2 y2 4 _ kC
       have kc : x2.cell? ⟨g7, 2, none⟩ = some (.bool true) := by have q := E2.cell (i := 2) (v := .bool true) rfl; rwa [Nat.zero_add] at q
       have kf : x2.frozen? ⟨g7, 2, none⟩ = false := by have q := E2.frozen (i := 2) (v := .bool true) rfl; rwa [Nat.zero_add] at q
       go_upto_region 13 with fail
       obtain ⟨x3, hx3⟩ : ∃ u, u = x2.setCell ⟨g7, 2, none⟩ (.bool true) := ⟨_, rfl⟩
       have E3 : Cut x3 g7 0 [.string (bstr [ch]), .int .u8 ((0 : Nat) : Int), .bool true, .bool true, .int .i64 p1, .int .i64 u1] := by rw [hx3]; have q := E2.set (i := 2) rfl (.bool true); rw [Nat.zero_add] at q; exact q
       have y3 : Below wr.heap.size wr x3 := by rw [hx3]; exact y2.setCell (p := ⟨g7, 2, none⟩) (by show _ ≤ g7; exact hg7r) _
       refine wp_world hx3 ?_
       clear hx3 kc kf
       have kC9 := cell7 x3 y3 4 _ kC
       go_wp2_with fail
       go_meet
       case rel => exact ⟨by
        have h1 : rowR x i = rowT x i := by unfold rowR; rw [if_pos (by rw [← ha0.out]; exact hia)]
        rw [h1]
        unfold rowT
        rw [← hxC.out, show rowP x = p1 by unfold rowP; rw [← hxP.out]; exact zp1, show rowU x = u1 by unfold rowU; rw [← hxU.out]; exact zu1, ← hch.out, if_neg hu0]
        exact E3, y3⟩
      case true =>
       have kC8 := cell7 x2 y2 4 _ kC
       have kc : x2.cell? ⟨g7, 2, none⟩ = some (.bool true) := by have q := E2.cell (i := 2) (v := .bool true) rfl; rwa [Nat.zero_add] at q
       have kf : x2.frozen? ⟨g7, 2, none⟩ = false := by have q := E2.frozen (i := 2) (v := .bool true) rfl; rwa [Nat.zero_add] at q
       go_upto_region 13 with fail
       obtain ⟨x4, hx4⟩ : ∃ u, u = x2.setCell ⟨g7, 2, none⟩ (.bool false) := ⟨_, rfl⟩
       have E4 : Cut x4 g7 0 [.string (bstr [ch]), .int .u8 ((0 : Nat) : Int), .bool false, .bool true, .int .i64 p1, .int .i64 u1] := by rw [hx4]; have q := E2.set (i := 2) rfl (.bool false); rw [Nat.zero_add] at q; exact q
       have y4 : Below wr.heap.size wr x4 := by rw [hx4]; exact y2.setCell (p := ⟨g7, 2, none⟩) (by show _ ≤ g7; exact hg7r) _
       refine wp_world hx4 ?_
       clear hx4 kc kf
       have kC9 := cell7 x4 y4 4 _ kC
       have kc : x4.cell? ⟨g7, 4, none⟩ = some (.int .i64 p1) := by have q := E4.cell (i := 4) (v := .int .i64 p1) rfl; rwa [Nat.zero_add] at q
       have kf : x4.frozen? ⟨g7, 4, none⟩ = false := by have q := E4.frozen (i := 4) (v := .int .i64 p1) rfl; rwa [Nat.zero_add] at q
       go_wp2_with fail
       have E9 : Cut (x4.setCell ⟨g7, 4, none⟩ (.int .i64 (-1))) g7 0 [.string (bstr [ch]), .int .u8 ((0 : Nat) : Int), .bool false, .bool true, .int .i64 (-1), .int .i64 u1] := by have q := E4.set (i := 4) rfl (.int .i64 (-1)); rw [Nat.zero_add] at q; exact q
       have y9 : Below wr.heap.size wr (x4.setCell ⟨g7, 4, none⟩ (.int .i64 (-1))) := y4.setCell (p := ⟨g7, 4, none⟩) (by show _ ≤ g7; exact hg7r) _
       go_meet
       case rel => exact ⟨by
        have h1 : rowR x i = rowT x i := by unfold rowR; rw [if_pos (by rw [← ha0.out]; exact hia)]
        rw [h1]
        unfold rowT
        rw [← hxC.out, show rowP x = p1 by unfold rowP; rw [← hxP.out]; exact zp1, show rowU x = u1 by unfold rowU; rw [← hxU.out]; exact zu1, ← hch.out, if_neg hu0]
        exact E9, y9⟩
     case pos =>
      have kf : x2.frozen? ⟨g7, 5, none⟩ = false := by have q := E2.frozen (i := 5) (v := .int .i64 u1) rfl; rwa [Nat.zero_add] at q
      clear kf
      have kc : x2.cell? ⟨g7, 5, none⟩ = some (.int .i64 u1) := by have q := E2.cell (i := 5) (v := .int .i64 u1) rfl; rwa [Nat.zero_add] at q
      have kf : x2.frozen? ⟨g7, 5, none⟩ = false := by have q := E2.frozen (i := 5) (v := .int .i64 u1) rfl; rwa [Nat.zero_add] at q
      go_upto_region 12 with fail
      obtain ⟨x5, hx5⟩ : ∃ u, u = x2.setCell ⟨g7, 5, none⟩ (.int .i64 (-1)) := ⟨_, rfl⟩
      have E5 : Cut x5 g7 0 [.string (bstr [ch]), .int .u8 ((0 : Nat) : Int), .bool true, .bool true, .int .i64 p1, .int .i64 (-1)] := by rw [hx5]; have q := E2.set (i := 5) rfl (.int .i64 (-1)); rw [Nat.zero_add] at q; exact q
      have y5 : Below wr.heap.size wr x5 := by rw [hx5]; exact y2.setCell (p := ⟨g7, 5, none⟩) (by show _ ≤ g7; exact hg7r) _
      refine wp_world hx5 ?_
      clear hx5 kc kf
      cases xC
      case false =>
       have kC8 := cell7 x5 y5 4 _ kC
       have kc : x5.cell? ⟨g7, 2, none⟩ = some (.bool true) := by have q := E5.cell (i := 2) (v := .bool true) rfl; rwa [Nat.zero_add] at q
       have kf : x5.frozen? ⟨g7, 2, none⟩ = false := by have q := E5.frozen (i := 2) (v := .bool true) rfl; rwa [Nat.zero_add] at q
       go_upto_region 13 with fail
       obtain ⟨x6, hx6⟩ : ∃ u, u = x5.setCell ⟨g7, 2, none⟩ (.bool true) := ⟨_, rfl⟩
       have E6 : Cut x6 g7 0 [.string (bstr [ch]), .int .u8 ((0 : Nat) : Int), .bool true, .bool true, .int .i64 p1, .int .i64 (-1)] := by rw [hx6]; have q := E5.set (i := 2) rfl (.bool true); rw [Nat.zero_add] at q; exact q
       have y6 : Below wr.heap.size wr x6 := by rw [hx6]; exact y5.setCell (p := ⟨g7, 2, none⟩) (by show _ ≤ g7; exact hg7r) _
       refine wp_world hx6 ?_
       clear hx6 kc kf
       have kC9 := cell7 x6 y6 4 _ kC
       go_wp2_with fail
       go_meet
       case rel => exact ⟨by
        have h1 : rowR x i = rowT x i := by unfold rowR; rw [if_pos (by rw [← ha0.out]; exact hia)]
        rw [h1]
        unfold rowT
        rw [← hxC.out, show rowP x = p1 by unfold rowP; rw [← hxP.out]; exact zp1, show rowU x = u1 by unfold rowU; rw [← hxU.out]; exact zu1, ← hch.out, if_pos hu0]
        exact E6, y6⟩
      case true =>
       have kC8 := cell7 x5 y5 4 _ kC
       have kc : x5.cell? ⟨g7, 2, none⟩ = some (.bool true) := by have q := E5.cell (i := 2) (v := .bool true) rfl; rwa [Nat.zero_add] at q
       have kf : x5.frozen? ⟨g7, 2, none⟩ = false := by have q := E5.frozen (i := 2) (v := .bool true) rfl; rwa [Nat.zero_add] at q
       go_upto_region 13 with fail
       obtain ⟨x7, hx7⟩ : ∃ u, u = x5.setCell ⟨g7, 2, none⟩ (.bool false) := ⟨_, rfl⟩
       have E7 : Cut x7 g7 0 [.string (bstr [ch]), .int .u8 ((0 : Nat) : Int), .bool false, .bool true, .int .i64 p1, .int .i64 (-1)] := by rw [hx7]; have q := E5.set (i := 2) rfl (.bool false); rw [Nat.zero_add] at q; exact q
       have y7 : Below wr.heap.size wr x7 := by rw [hx7]; exact y5.setCell (p := ⟨g7, 2, none⟩) (by show _ ≤ g7; exact hg7r) _
       refine wp_world hx7 ?_
       clear hx7 kc kf
       have kC9 := cell7 x7 y7 4 _ kC
       have kc : x7.cell? ⟨g7, 4, none⟩ = some (.int .i64 p1) := by have q := E7.cell (i := 4) (v := .int .i64 p1) rfl; rwa [Nat.zero_add] at q
       have kf : x7.frozen? ⟨g7, 4, none⟩ = false := by have q := E7.frozen (i := 4) (v := .int .i64 p1) rfl; rwa [Nat.zero_add] at q
       go_wp2_with fail
       have E9 : Cut (x7.setCell ⟨g7, 4, none⟩ (.int .i64 (-1))) g7 0 [.string (bstr [ch]), .int .u8 ((0 : Nat) : Int), .bool false, .bool true, .int .i64 (-1), .int .i64 (-1)] := by have q := E7.set (i := 4) rfl (.int .i64 (-1)); rw [Nat.zero_add] at q; exact q
       have y9 : Below wr.heap.size wr (x7.setCell ⟨g7, 4, none⟩ (.int .i64 (-1))) := y7.setCell (p := ⟨g7, 4, none⟩) (by show _ ≤ g7; exact hg7r) _
       go_meet
       case rel => exact ⟨by
        have h1 : rowR x i = rowT x i := by unfold rowR; rw [if_pos (by rw [← ha0.out]; exact hia)]
        rw [h1]
        unfold rowT
        rw [← hxC.out, show rowP x = p1 by unfold rowP; rw [← hxP.out]; exact zp1, show rowU x = u1 by unfold rowU; rw [← hxU.out]; exact zu1, ← hch.out, if_pos hu0]
        exact E9, y9⟩
   case rest =>
    obtain ⟨C8, e8⟩ := hcut
    have R8 := Row.of_cut C8
    clear C8 kA7 D7 e27 cell7 eW
    have e9 : Below wc.heap.size wc (wc.alloc (.cells (rowR x i).cells.toArray 125)) := (Below.refl _ _).alloc (Nat.le_refl _) _
    have own9 := row_below (row_below own e8) e9
    have hs9 : B ≤ (wc.alloc (.cells (rowR x i).cells.toArray 125)).heap.size := Nat.le_trans (Nat.le_trans hsz e8.size) e9.size
    go_wp2_with (first
     | ((with_reducible refine wpList_load_mid ?_ 125 (.tmp 7) ?_ g7 0 ?_ (rowR x i).cells _ R8.rng Tryz.underlying125 ?_ (sz_rungR _) ?_); (· rfl); (· rfl); (· rfl); (· rfl))
     | (refine wpList_build_rung rfl (.tmp 57) rfl (rowR x i) rfl ?_)
     | (at_builtin; refine wpList_append_R rfl (.tmp 56) (.tmp 58) 123 rfl B 125 (.agg #[.string ⟨#[]⟩, .int .u8 0, .bool false, .bool false, .int .i64 0, .int .i64 0]) 6 40 Tryz.underlying123 info_rung rfl (by decide) u4 i (rungCells ((List.range i).map (rowR x))) rfl own9 (some ⟨wc.heap.size, 0, none⟩) 1 1 (rowR x i).cells rfl rfl (.inr ⟨wc.heap.size, 0, rfl, row_new _⟩) (rungR_one _) (by omega) (by decide) hs9 ?_; intro v10 w10 o10 gr10))
    have e10 : Below B w0 w10 := ((er.trans (e8.mono hsz)).trans (e9.mono (Nat.le_trans hsz e8.size))).grown gr10 hs9 (fun j hj => (own9.lt j hj).1)
    have o10' : w10.ownsRow B 125 6 v10 (i + 1) (rungCells ((List.range (i + 1)).map (rowR x))) := by
     rw [List.range_succ, List.map_append, List.map_cons, List.map_nil, rungCells_snoc]
     exact o10
    go_roundw
    case rel => exact ⟨i + 1, by go_num, by omega, o10', e10⟩
    case measure =>
     simp [intOf]
     omega
  ·have z2 : ¬ (i : Int) < (n : Int) := by omega
   obtain rfl : i = n := by omega
   obtain ⟨A4, c4, rfl, n4, m4, F4⟩ := own_form own
   obtain ⟨g4, rfl, hg4, R4⟩ := F4.resolve_left (by omega)
   clear own F4 z1 z2
   have hlL : (rowL x).length = i := by unfold rowL; rw [List.length_map, List.length_range]; exact hn.out.symm
   replace R4 : Row wr g4 0 (rungCells (rowL x)) := by
    have e : rowL x = (List.range i).map (rowR x) := by unfold rowL; rw [← hn.out]
    rw [e]
    exact R4
   go_upto_region 16 with fail
   obtain ⟨wk, hwk⟩ : ∃ u, u = wr.alloc (.cells #[.int .u8 1] 5) := ⟨_, rfl⟩
   have rk : Sl.ok wk ⟨some ⟨wr.heap.size, 0, none⟩, 1, [1]⟩ := by rw [hwk]; exact rd_1 wr
   have ek : Below wr.heap.size wr wk := by rw [hwk]; exact (Below.refl _ _).alloc (Nat.le_refl _) _
   have hq := HL g4 0 c4 (some ⟨g4, 0, none⟩) (some ⟨wr.heap.size, 0, none⟩) wk rfl (R4.below ek) rk
   rw [hlL] at hq
   go_wp2_with fail
   rw [← hwk]
   refine Calls.mono hq ?_
   clear hq rk R4 hwk
   rintro e6 w6 ⟨cs, v, rfl, own, hl, hsay, hok, -, b6⟩
   rw [hlL] at hl
   have hsz : B ≤ wk.heap.size := by rw [hB.out]; exact Nat.le_trans er.size ek.size
   replace er := (er.trans (ek.mono (by rw [hB.out]; exact er.size))).trans (b6.mono hsz)
   clear ek b6 hsz
   obtain ⟨A5, c5, rfl, n5, m5, C5⟩ := own_crs (by rw [hlL, hl]) own
   clear own
   obtain ⟨g5, o5, rfl, R5⟩ := C5.resolve_left (by rintro rfl; simp at hl; omega)
   obtain ⟨lf, hlf⟩ : ∃ c, cs[0]? = some c := ⟨_, List.getElem?_eq_getElem (by omega)⟩
   obtain ⟨B3, hB3⟩ : ∃ b, b = w6.heap.size := ⟨_, rfl⟩
   have o6 : w6.ownsRow B3 30 24 (.slice none 0 0) 0 (crtCells []) := World.ownsRow_nil w6 B3 30 24
   have e6 : Below B3 w6 w6 := Below.refl _ _
   replace hB3 := Lib.hid hB3
   replace hlL := Lib.hid hlL
   replace hl := Lib.hid hl
   go_upto_region 19 with fail
   go_loopw [9, 10, 11] (fun t9 t10 t11 wr => ∃ j : Nat, t10 = .int .i64 (j : Int) ∧ j ≤ i - 1 ∧ wr.ownsRow B3 30 24 t9 j (crtCells (rowPool x cs lf j)) ∧ Below B3 w6 wr) (fun _ t _ _ => i - 1 - (intOf t).toNat)
   case atStart => exact ⟨0, rfl, Nat.zero_le _, o6, e6⟩
   case round =>
    obtain ⟨j, rfl, hj, own, ez⟩ := hrel
    have z1 : (j : Int) ≤ 10 := by omega
    have ex : Below B w0 wr := er.trans (ez.mono (by rw [hB.out, hB3.out]; exact er.size))
    by_cases hlt : j < i - 1
    ·have z2 : (j : Int) < (i : Int) - 1 := by omega
     have cellx : ∀ (k : Nat) (v : Value), w0.cell? ⟨g0, k, none⟩ = some v → wr.cell? ⟨g0, k, none⟩ = some v := fun k v hv => (ex.cell (p := ⟨g0, k, none⟩) hg0B).trans hv
     have kYx := cellx 6 _ kY
     have kBx := cellx 5 _ kB
     obtain ⟨k0, hk0⟩ : ∃ k, k = (j + xY) % (i - 1) := ⟨_, rfl⟩
     have hk0l : k0 < i - 1 := by rw [hk0]; exact Nat.mod_lt _ (by omega)
     have r1 : ((j : Int) + (xY : Int)) % ((i : Int) - 1) = (k0 : Int) := by
      rw [hk0, show (i : Int) - 1 = ((i - 1 : Nat) : Int) by omega]
      norm_cast
     have r2 : ((j : Int) + (xY : Int)).tmod ((i : Int) - 1) = (k0 : Int) := by rw [Int.tmod_eq_emod_of_nonneg (by omega)]; exact r1
     have hz1 : ¬ (i : Int) - 1 = 0 := by omega
     have zk0 : (k0 : Int) ≤ 10 := by omega
     have zk1 : (k0 : Int) < (i : Int) - 1 := by omega
     replace hk0 := Lib.hid hk0
     cases xB
     case false =>
      have hkx : rowK x j = k0 := by
       unfold rowK
       rw [← hxB.out, ← hxY.out, ← hn.out, ← hk0.out]
       rfl
      have hkl : 1 + k0 < i := by omega
      obtain ⟨d, hd⟩ : ∃ d, d = cAt cs lf (1 + k0) := ⟨_, rfl⟩
      have hdc : cs[1 + k0]? = some d := by rw [hd]; exact cAt_lt (by rw [hl.out]; exact hkl)
      have hps : rowPool x cs lf (j + 1) = rowPool x cs lf j ++ [d] := by unfold rowPool; rw [List.range_succ, List.map_append, List.map_cons, List.map_nil, hkx, ← hd]
      replace hps := Lib.hid hps
      replace hd := Lib.hid hd
      replace hkx := Lib.hid hkx
      have sz3 : B3 ≤ wr.heap.size := by rw [hB3.out]; exact ez.size
      have Rd' := (crt_row R5 hdc).below (by rw [← hB3.out]; exact ez : Below w6.heap.size w6 wr)
      have zi : 1 + (k0 : Int) = ((1 + k0 : Nat) : Int) := by omega
      have zl : ((1 + k0 : Nat) : Int) < (cs.length : Int) := by rw [hl.out]; omega
      obtain ⟨kx, hkk⟩ : ∃ k, k = 1 + k0 := ⟨_, rfl⟩
      rw [← hkk] at zi zl Rd'
      replace hkk := Lib.hid hkk
      go_wp2_with (first
       | ((with_reducible refine wpList_load_mid ?_ 30 (.tmp 88) ?_ g5 (o5 + kx * 24) ?_ d.cells _ Rd'.rng Tryz.underlying30 ?_ (sz_crt _) ?_); (· rfl); (· rfl); (· rfl); (· rfl))
       | (refine wpList_build_certV rfl (.tmp 89) rfl d rfl ?_; intro gN wN hgN RN eN)
       | (at_builtin; refine wpList_append_crs rfl (.tmp 84) (.tmp 90) rfl B3 u9 (rowPool x cs lf j) j rfl (row_below own eN) (some ⟨gN, 0, none⟩) 1 1 [d] rfl rfl (.inr ⟨gN, 0, rfl, by simpa [crtCells] using RN⟩) (by omega) (Nat.le_trans sz3 eN.size) ?_; intro v12 w12 o12 h12))
      have e12 := h12 w6 (ez.trans (eN.mono sz3))
      rw [← hps.out] at o12
      go_roundw
      case rel => exact ⟨j + 1, by go_num, by omega, o12, e12⟩
      case measure =>
       simp [intOf]
       omega
     case true =>
      have hkx : rowK x j = (i - 2 - k0) := by
       unfold rowK
       rw [← hxB.out, ← hxY.out, ← hn.out, ← hk0.out]
       rfl
      have hkl : 1 + (i - 2 - k0) < i := by omega
      obtain ⟨d, hd⟩ : ∃ d, d = cAt cs lf (1 + (i - 2 - k0)) := ⟨_, rfl⟩
      have hdc : cs[1 + (i - 2 - k0)]? = some d := by rw [hd]; exact cAt_lt (by rw [hl.out]; exact hkl)
      have hps : rowPool x cs lf (j + 1) = rowPool x cs lf j ++ [d] := by unfold rowPool; rw [List.range_succ, List.map_append, List.map_cons, List.map_nil, hkx, ← hd]
      replace hps := Lib.hid hps
      replace hd := Lib.hid hd
      replace hkx := Lib.hid hkx
      have sz3 : B3 ≤ wr.heap.size := by rw [hB3.out]; exact ez.size
      have Rd' := (crt_row R5 hdc).below (by rw [← hB3.out]; exact ez : Below w6.heap.size w6 wr)
      have zi : 1 + ((i : Int) - 2 - (k0 : Int)) = ((1 + (i - 2 - k0) : Nat) : Int) := by omega
      have zl : ((1 + (i - 2 - k0) : Nat) : Int) < (cs.length : Int) := by rw [hl.out]; omega
      obtain ⟨kx, hkk⟩ : ∃ k, k = 1 + (i - 2 - k0) := ⟨_, rfl⟩
      rw [← hkk] at zi zl Rd'
      replace hkk := Lib.hid hkk
      go_wp2_with (first
       | ((with_reducible refine wpList_load_mid ?_ 30 (.tmp 88) ?_ g5 (o5 + kx * 24) ?_ d.cells _ Rd'.rng Tryz.underlying30 ?_ (sz_crt _) ?_); (· rfl); (· rfl); (· rfl); (· rfl))
       | (refine wpList_build_certV rfl (.tmp 89) rfl d rfl ?_; intro gN wN hgN RN eN)
       | (at_builtin; refine wpList_append_crs rfl (.tmp 84) (.tmp 90) rfl B3 u9 (rowPool x cs lf j) j rfl (row_below own eN) (some ⟨gN, 0, none⟩) 1 1 [d] rfl rfl (.inr ⟨gN, 0, rfl, by simpa [crtCells] using RN⟩) (by omega) (Nat.le_trans sz3 eN.size) ?_; intro v12 w12 o12 h12))
      have e12 := h12 w6 (ez.trans (eN.mono sz3))
      rw [← hps.out] at o12
      go_roundw
      case rel => exact ⟨j + 1, by go_num, by omega, o12, e12⟩
      case measure =>
       simp [intOf]
       omega
    ·have z2 : ¬ (j : Int) < (i : Int) - 1 := by omega
     obtain rfl : j = i - 1 := by omega
     obtain ⟨A9, c9, rfl, n9, m9, C9⟩ := own_crs (by simp [rowPool]) own
     have hjl : (rowPool x cs lf (rowN x - 1)).length = i - 1 := by simp [rowPool, ← hn.out]
     go_wp2_with fail
     go_ret2
     refine ⟨cs, lf, some ⟨g5, o5, none⟩, A9, c5, c9, ?_, hlf, by rw [hl.out]; exact hn.out, n5, m5, ?_, m9, .inr ⟨g5, o5, rfl, R5.below (by rw [← hB3.out]; exact ez)⟩, ?_, hsay, fun c hc => (hok c hc).below (by rw [← hB3.out]; exact ez), hE.trans ((by rw [← hB.out]; exact ex : Below w0.heap.size w0 wr).mono hE.size)⟩
     ·rw [← hn.out]; rfl
     ·rw [← hn.out]; exact n9
     ·rw [← hn.out]; exact C9
theorem rowL_len (x : RIn) : (rowL x).length = rowN x := by simp [rowL]
theorem rowL_at {x : RIn} {i : Nat} {r : Rung} (h : (rowL x)[i]? = some r) : i < rowN x ∧ r = rowR x i := by
 have hi : i < rowN x := by rw [← rowL_len x]; exact (List.getElem?_eq_some_iff.1 h).1
 refine ⟨hi, ?_⟩
 unfold rowL at h
 rw [List.getElem?_map, List.getElem?_range hi] at h
 exact (Option.some.inj h).symm
theorem rowL_letters (x : RIn) : Letters (rowL x) := fun i r h => by
 obtain ⟨_, rfl⟩ := rowL_at h
 unfold rowR
 split <;> rfl
theorem rowN_range (x : RIn) : 2 ≤ rowN x ∧ rowN x ≤ 10 := by unfold rowN; omega
theorem turns : ((List.range 10).all fun m => (List.range m).all fun r => ((List.range m).map fun i => (i + r) % m).isPerm (List.range m) && ((List.range m).map fun i => m - 1 - (i + r) % m).isPerm (List.range m)) = true := by decide +kernel
theorem rowK_perm (x : RIn) : ((List.range (rowN x - 1)).map (rowK x)).Perm (List.range (rowN x - 1)) := by
 have hn := rowN_range x
 obtain ⟨m, hm⟩ : ∃ m, m = rowN x - 1 := ⟨_, rfl⟩
 have hm0 : 0 < m := by omega
 have h1 := List.all_eq_true.1 turns m (List.mem_range.2 (by omega))
 have h2 := List.all_eq_true.1 h1 (x.2.2.2.2.2.2 % m) (List.mem_range.2 (Nat.mod_lt _ hm0))
 rw [Bool.and_eq_true] at h2
 rw [← hm]
 have e : ∀ i, (i + x.2.2.2.2.2.2 % m) % m = (i + x.2.2.2.2.2.2) % m := fun i => Nat.add_mod_mod _ _ _
 cases hb : x.2.2.2.2.2.1 with
 | false =>
  refine List.Perm.trans (List.Perm.of_eq (List.map_congr_left fun i _ => ?_)) (List.isPerm_iff.1 h2.1)
  unfold rowK
  rw [hb, ← hm, e]
  rfl
 | true =>
  refine List.Perm.trans (List.Perm.of_eq (List.map_congr_left fun i _ => ?_)) (List.isPerm_iff.1 h2.2)
  unfold rowK
  rw [hb, ← hm, e, if_pos rfl]
  omega
theorem pool_perm {x : RIn} {cs : List Crt} {lf : Crt} (hl : cs.length = rowN x) : (rowPool x cs lf (rowN x - 1)).Perm (cs.drop 1) := by
 have h := (rowK_perm x).map fun k => cAt cs lf (k + 1)
 rw [List.map_map] at h
 rw [drop_map (lf := lf), hl]
 refine List.Perm.trans (List.Perm.of_eq (List.map_congr_left fun i _ => ?_)) h
 show cAt cs lf (1 + rowK x i) = cAt cs lf (rowK x i + 1)
 rw [Nat.add_comm]
def rowMay (x : RIn) : Bool := decide (rowA x = 0) || (!x.2.2.2.2.1 && (decide (rowU x ≤ 0) || decide (rowU x / 32 % 2 = 1)) && (decide (rowP x < 0) || decide ((rowA x : Int) - 1 ≤ rowP x)))
theorem zero_row : (Tryz.prog.info? 87).map (fun i => i.zero) = some (some (.agg (CRow (0, 0, 0, 0, false, false, 0)).toArray)) := by kernel_rfl
theorem sz_rowC (x : RIn) : (Tryz.prog.info? 87).map (·.size) = some (CRow x).length := by show _ = some 7; kernel_rfl
theorem row_oneC (x : RIn) : ∀ u ∈ CRow x, u.oneCell' = true := fun u hu => by
 simp only [CRow, List.mem_cons, List.not_mem_nil, or_false] at hu
 rcases hu with rfl | rfl | rfl | rfl | rfl | rfl | rfl <;> rfl
set_option maxRecDepth 100000 in
set_option maxHeartbeats 12800000 in
theorem row_may (x : RIn) (w : World) (q : QRow w x) : Calls Tryz.prog 44 #[.agg (CRow x).toArray, .int .i64 ((rowN x : Nat) : Int)] w (RetW (rowMay x) w) := by
 obtain ⟨hN, hA, ⟨hP1, hP2⟩, ⟨hU1, hU2⟩, hY⟩ := q
 obtain ⟨a0, ha0⟩ : ∃ a, a = rowA x := ⟨_, rfl⟩
 obtain ⟨p1, hp1⟩ : ∃ a, a = rowP x := ⟨_, rfl⟩
 obtain ⟨u1, hu1⟩ : ∃ a, a = rowU x := ⟨_, rfl⟩
 obtain ⟨n, hn⟩ : ∃ a, a = rowN x := ⟨_, rfl⟩
 obtain ⟨L0, hL0⟩ : ∃ L, L = CRow x := ⟨_, rfl⟩
 have hv0 : rowMay x = (decide (a0 = 0) || (!x.2.2.2.2.1 && (decide (u1 ≤ 0) || decide (u1 / 32 % 2 = 1)) && (decide (p1 < 0) || decide ((a0 : Int) - 1 ≤ p1)))) := by unfold rowMay; rw [ha0, hp1, hu1]
 obtain ⟨xA, hxA⟩ : ∃ a, a = x.2.1 := ⟨_, rfl⟩
 obtain ⟨xP, hxP⟩ : ∃ a, a = x.2.2.1 := ⟨_, rfl⟩
 obtain ⟨xU, hxU⟩ : ∃ a, a = x.2.2.2.1 := ⟨_, rfl⟩
 obtain ⟨xC, hxC⟩ : ∃ a, a = x.2.2.2.2.1 := ⟨_, rfl⟩
 obtain ⟨bv, hbv⟩ : ∃ b, b = rowMay x := ⟨_, rfl⟩
 have hn2 := rowN_range x
 rw [← hn] at hn2 ⊢
 rw [← hbv, ← hL0]
 rw [← hbv, ← hxC] at hv0
 have ha' : a0 = xA % n := by rw [ha0, hn, hxA]; rfl
 have zp : max (-1) (min xP 255) = p1 := by rw [hp1, hxP]; rfl
 have zu : max (-1) (min xU 511) = u1 := by rw [hu1, hxU]; rfl
 have r1 : (xA : Int) % (n : Int) = (a0 : Int) := by rw [ha']; norm_cast
 have r2 : (xA : Int).tmod (n : Int) = (a0 : Int) := by rw [Int.tmod_eq_emod_of_nonneg (by omega)]; exact r1
 have nz : ¬ n = 0 := by omega
 have hlt : a0 < n := by rw [ha']; exact Nat.mod_lt _ (by omega)
 have za : (a0 : Int) ≤ 10 := by omega
 have zn : (n : Int) ≤ 10 := by omega
 have zn2 : (2 : Int) ≤ (n : Int) := by omega
 have hu512 : -1 ≤ u1 ∧ u1 ≤ 511 := by omega
 have hp256 : -1 ≤ p1 ∧ p1 ≤ 255 := by omega
 rw [← hxA] at hA
 have hcs : L0 = [.int .u8 (x.1 : Int), .int .u8 (xA : Int), .int .i64 xP, .int .i64 xU, .bool xC, .bool x.2.2.2.2.2.1, .int .u8 (x.2.2.2.2.2.2 : Int)] := by rw [hL0, hxA, hxP, hxU, hxC]
 have lsz : (Tryz.prog.info? 87).map (·.size) = some L0.length := by rw [hL0]; exact sz_rowC x
 have lone : ∀ u ∈ L0, u.oneCell' = true := by rw [hL0]; exact row_oneC x
 clear hP1 hP2 hU1 hU2 hN hY
 replace ha0 := Lib.hid ha0
 replace hp1 := Lib.hid hp1
 replace hu1 := Lib.hid hu1
 replace hn := Lib.hid hn
 replace hL0 := Lib.hid hL0
 replace hxA := Lib.hid hxA
 replace hxP := Lib.hid hxP
 replace hxU := Lib.hid hxU
 replace hxC := Lib.hid hxC
 replace hbv := Lib.hid hbv
 replace hv0 := Lib.hid hv0
 replace ha' := Lib.hid ha'
 replace hcs := Lib.hid hcs
 obtain ⟨g0, hg0⟩ : ∃ g, g = w.heap.size := ⟨_, rfl⟩
 obtain ⟨w0, hw0⟩ : ∃ u, u = w.alloc (.cells L0.toArray 87) := ⟨_, rfl⟩
 have hE : Below w.heap.size w w0 := by rw [hw0]; exact (Below.refl _ _).alloc (Nat.le_refl _) _
 have B0 : Row w0 g0 0 L0 := by rw [hw0, hg0]; exact row_new _
 go_enter Tryz.func44, Tryz.ntmps44
 go_upto_region 1 with fail
 refine wp_world hw0 ?_
 rw [← hg0]
 clear hw0
 replace hg0 := Lib.hid hg0
 have kA : w0.cell? ⟨g0, 1, none⟩ = some (.int .u8 (xA : Int)) := by have q := B0.cell (i := 1) (v := .int .u8 (xA : Int)) (by rw [hcs.out]; rfl); rwa [Nat.zero_add] at q
 go_upto_region 3 with (first
  | ((with_reducible refine wpList_load_mid ?_ 87 (.tmp 2) ?_ g0 0 ?_ L0 _ B0.rng Tryz.underlying87 ?_ lsz ?_); (· rfl); (· rfl); (· rfl); (· rfl))
  | ((with_reducible refine wpList_alloc_row ?_ 87 ?_ (CRow (0, 0, 0, 0, false, false, 0)) zero_row ?_); (· rfl); (· rfl); intro g6 u2 hg6 V6 z6 e6)
  | ((with_reducible refine wpList_store_cut ?_ 87 (.tmp 6) (.tmp 14) ?_ g6 0 L0 _ ?_ ?_ V6 ?_ lsz lone ?_); (· rfl); (· rfl); (· rfl); (· rfl); (· (first | rfl | (rw [hcs.out]; rfl))); intro w6 hst6))
 have e66 : Below w0.heap.size w0 w6 := below_only e6 hst6.1 e6.size (by rw [hg6.out]; exact Nat.le_refl _)
 have D6 : Cut w6 g6 0 L0 := hst6.2.2.1
 clear V6 z6 e6 hst6 hg6 kA B0
 replace hE := hE.trans (e66.mono hE.size)
 clear e66
 rw [hcs.out] at D6
 have kP : w6.cell? ⟨g6, 2, none⟩ = some (.int .i64 xP) := by have q := D6.cell (i := 2) (v := .int .i64 xP) rfl; rwa [Nat.zero_add] at q
 have kU : w6.cell? ⟨g6, 3, none⟩ = some (.int .i64 xU) := by have q := D6.cell (i := 3) (v := .int .i64 xU) rfl; rwa [Nat.zero_add] at q
 have kC : w6.cell? ⟨g6, 4, none⟩ = some (.bool xC) := by have q := D6.cell (i := 4) (v := .bool xC) rfl; rwa [Nat.zero_add] at q
 clear D6
 by_cases h0 : a0 = 0
 case neg =>
  have z0 : ¬ (a0 : Int) = 0 := by omega
  cases xC
  case true =>
   have hb : bv = false := by rw [hv0.out]; simp [h0]
   go_wp2_with fail
   go_ret
   exact ⟨by first | rfl | (rw [hb]; rfl), hE⟩
  case false =>
   by_cases hu : u1 ≤ 0
   case neg =>
    have zu2 : ¬ u1 ≤ 0 := hu
    have hand : bits .and .i64 (u1 / 32) 1 = u1 / 32 % 2 := i64_and1 _
    obtain ⟨s, hs⟩ : ∃ s, s = u1 / 32 % 2 := ⟨_, rfl⟩
    rw [← hs] at hand
    replace hs := Lib.hid hs
    by_cases hs1 : s = 1
    case neg =>
     have zs : (s == 1) = false := by simpa using hs1
     have hb : bv = false := by rw [hv0.out]; simp [h0, hu, hs.out ▸ hs1]
     go_wp2_with fail
     go_ret
     exact ⟨by first | rfl | (rw [hb]; rfl), hE⟩
    case pos =>
     have zs : (s == 1) = true := by simpa using hs1
     by_cases hp : p1 < 0
     case neg =>
      have zp2 : ¬ p1 < 0 := hp
      by_cases hq : (a0 : Int) - 1 ≤ p1
      case neg =>
       have zq2 : ¬ (a0 : Int) - 1 ≤ p1 := hq
       have hb : bv = false := by rw [hv0.out]; simp [hu, hs.out ▸ hs1, hp, hq, h0]
       go_wp2_with fail
       go_ret
       exact ⟨by first | rfl | (rw [hb]; rfl), hE⟩
      case pos =>
       have hb : bv = true := by rw [hv0.out]; simp [hu, hs.out ▸ hs1, hp, hq, h0]
       go_wp2_with fail
       go_ret
       exact ⟨by first | rfl | (rw [hb]; rfl), hE⟩
     case pos =>
      have hb : bv = true := by rw [hv0.out]; simp [hu, hs.out ▸ hs1, hp, h0]
      go_wp2_with fail
      go_ret
      exact ⟨by first | rfl | (rw [hb]; rfl), hE⟩
   case pos =>
    by_cases hp : p1 < 0
    case neg =>
     have zp2 : ¬ p1 < 0 := hp
     by_cases hq : (a0 : Int) - 1 ≤ p1
     case neg =>
      have zq2 : ¬ (a0 : Int) - 1 ≤ p1 := hq
      have hb : bv = false := by rw [hv0.out]; simp [hu, hp, hq, h0]
      go_wp2_with fail
      go_ret
      exact ⟨by first | rfl | (rw [hb]; rfl), hE⟩
     case pos =>
      have hb : bv = true := by rw [hv0.out]; simp [hu, hp, hq, h0]
      go_wp2_with fail
      go_ret
      exact ⟨by first | rfl | (rw [hb]; rfl), hE⟩
    case pos =>
     have hb : bv = true := by rw [hv0.out]; simp [hu, hp, h0]
     go_wp2_with fail
     go_ret
     exact ⟨by first | rfl | (rw [hb]; rfl), hE⟩
 case pos =>
  have z0 : (a0 : Int) = 0 := by omega
  have hb : bv = true := by rw [hv0.out]; simp [h0]
  go_wp2_with fail
  go_ret
  exact ⟨by first | rfl | (rw [hb]; rfl), hE⟩
section
variable {l : List Rung} {cs : List Crt} {ks : List Nat} {ke : Nat}
theorem lad_shortW (hs : cs.map Crt.say = ladderB l ks ke) (hl : ∀ r ∈ l, RungW r) (hk : ks.length ≤ 1000 ∧ Lim 256 ks) : ∀ c ∈ cs, c.tbs.xs.length ≤ 8000 ∧ c.key.xs.length ≤ 1000 := by
 intro c hc
 obtain ⟨i, hi⟩ := List.mem_iff_getElem?.1 hc
 obtain ⟨r, K, E, hr, hcs, h0, h1⟩ := lad_len hs i c hi
 have ct : c.tbs.xs = tbsB (rungSay r ((l[i + 1]?).getD r) K E) := congrArg Say.tbs hcs
 have ck : c.key.xs = K := congrArg Say.key hcs
 have hK : K.length ≤ 1000 ∧ Lim 256 K := by
  cases i with
  | zero => rw [(h0 rfl).1]; exact hk
  | succ j =>
   obtain ⟨q, hq⟩ : ∃ q, cs[j]? = some q := ⟨_, List.getElem?_eq_getElem (by have := (List.getElem?_eq_some_iff.1 hi).1; omega)⟩
   rw [(h1 j q rfl hq).1]
   exact ⟨by rw [forKey_len]; decide, forKey_lim _⟩
 have rO := hl r (List.mem_of_getElem? hr)
 have uO : RungW ((l[i + 1]?).getD r) := by
  cases hu : l[i + 1]? with
  | none => exact rO
  | some u => exact hl u (List.mem_of_getElem? hu)
 generalize (l[i + 1]?).getD r = u at *
 have hserL : Lim 256 [1, r.serial] := fun x hx => by
  have := rO.serial
  simp at hx
  omega
 have hso : SayW (rungSay r u K E) := ⟨rO.code, rO.path, rO.usage, ⟨by show 2 ≤ 1000; omega, hserL⟩, ⟨Nat.le_trans (nameB_len (by have := uO.name.1; omega)) (by omega), nameB_lim uO.name.2 (by have := uO.name.1; omega)⟩, ⟨Nat.le_trans (nameB_len (by have := rO.name.1; omega)) (by omega), nameB_lim rO.name.2 (by have := rO.name.1; omega)⟩, hK, t2020_ok, t2060_ok⟩
 exact ⟨by rw [ct]; exact (tbsB_told hso).1, by rw [ck]; exact hK.1⟩
end
theorem rowL_W (x : RIn) : ∀ r ∈ rowL x, RungW r := fun r hr => by
 have hn := rowN_range x
 unfold rowL at hr
 obtain ⟨i, hi, rfl⟩ := List.mem_map.1 hr
 have hi := List.mem_range.1 hi
 unfold rowR
 split
 ·refine ⟨⟨by simp [rowT], fun y hy => by simp [rowT] at hy; omega⟩, by show 0 < 256; decide, rfl, ?_, ?_⟩
  ·show (if x.2.2.2.2.1 then (-1 : Int) else rowP x) ≤ 255
   unfold rowP
   split <;> omega
  ·show (if rowU x = 0 then (-1 : Int) else rowU x) ≤ 511
   unfold rowU
   split <;> omega
 ·exact ⟨⟨by simp [plainOf], fun y hy => by simp [plainOf] at hy; omega⟩, by show 0 < 256; decide, rfl, by show (-1 : Int) ≤ 255; decide, by show (-1 : Int) ≤ 511; decide⟩
theorem bit5 : ((List.range 512).all fun u => (bits .and .i64 (u : Int) 32 == 0) == !decide ((u : Int) / 32 % 2 = 1)) = true := by decide +kernel
theorem bit5_at {u : Int} (h0 : 0 ≤ u) (h1 : u ≤ 511) : (bits .and .i64 u 32 == 0) = !decide (u / 32 % 2 = 1) := by
 have h := List.all_eq_true.1 bit5 u.toNat (List.mem_range.2 (by omega))
 rw [Int.toNat_of_nonneg h0] at h
 exact eq_of_beq h
def rowM (x : RIn) : Nat := if rowMay x then rowN x else rowA x
theorem rowA_lt (x : RIn) : rowA x < rowN x := Nat.mod_lt _ (by have := rowN_range x; omega)
theorem rowM_range (x : RIn) : 0 < rowM x ∧ rowM x ≤ rowN x := by
 have h1 := rowN_range x
 have h2 := rowA_lt x
 unfold rowM
 split
 ·omega
 ·rename_i h
  have : rowA x ≠ 0 := fun e => h (by unfold rowMay; rw [e]; rfl)
  omega
section
variable {x : RIn} {cs pool : List Crt} {lf : Crt}
theorem row_place (hs : cs.map Crt.say = ladderB (rowL x) [1] 3) {j : Nat} {c : Crt} (hc : cs[j]? = some c) : (j ≠ rowA x → mayC c = true ∧ fitC c j = true) ∧ (j = rowA x → j ≠ 0 → (mayC c && fitC c j) = rowMay x) := by
 obtain ⟨r, K, E, hr, hcs, _, _⟩ := lad_len hs j c hc
 have e1 : c.ca = r.ca := congrArg Say.ca hcs
 have e2 : c.path = r.path := congrArg Say.path hcs
 have e3 : c.usage = r.usage := congrArg Say.usage hcs
 obtain ⟨hj, rfl⟩ := rowL_at hr
 unfold mayC fitC
 rw [e1, e2, e3]
 constructor
 ·intro h
  unfold rowR
  rw [if_neg h]
  simp [plainOf]
 ·intro h h0
  unfold rowR
  rw [if_pos h]
  unfold rowMay rowT
  rw [decide_eq_false (show ¬ rowA x = 0 by omega), Bool.false_or, h]
  have hu : -1 ≤ rowU x ∧ rowU x ≤ 511 := by unfold rowU; omega
  have hp : -1 ≤ rowP x ∧ rowP x ≤ 255 := by unfold rowP; omega
  cases hC : x.2.2.2.2.1 with
  | true => simp
  | false =>
   simp only [Bool.not_false, Bool.true_and, Bool.false_eq_true, if_false]
   congr 1
   by_cases h1 : rowU x = 0
   ·rw [if_pos h1, h1]
    rfl
   ·rw [if_neg h1]
    by_cases h2 : rowU x < 0
    ·rw [decide_eq_true h2, decide_eq_true (show rowU x ≤ 0 by omega)]
     rfl
    ·rw [decide_eq_false h2, decide_eq_false (show ¬ rowU x ≤ 0 by omega), bit5_at (by omega) hu.2, Bool.not_not]
theorem row_lv (hs : cs.map Crt.say = ladderB (rowL x) [1] 3) (hl : cs.length = rowN x) (h0 : cs[0]? = some lf) (hp : pool.Perm (cs.drop 1)) : ∀ k, (hse lf pool).lv k = if k < rowM x then [cAt cs lf k] else [] := by
 have hm := rowM_range x
 refine lad_lv hs (by simp) (rowL_letters x) h0 hp hm.1 (by omega) (fun j c h1 h2 hc => ?_) (fun c hc => ?_)
 ·obtain ⟨p1, p2⟩ := row_place hs hc
  by_cases e : j = rowA x
  ·have q := p2 e (by omega)
   have hmay : rowMay x = true := by
    cases hb : rowMay x with
    | true => rfl
    | false =>
     unfold rowM at h2
     rw [hb] at h2
     simp at h2
     omega
   rw [hmay, Bool.and_eq_true] at q
   exact q
  ·exact p1 e
 ·have hlt : rowM x < cs.length := (List.getElem?_eq_some_iff.1 hc).1
  have hb : rowMay x = false := by
   cases hb : rowMay x with
   | false => rfl
   | true =>
    unfold rowM at hlt
    rw [hb] at hlt
    simp at hlt
    omega
  have hM : rowM x = rowA x := by unfold rowM; rw [hb]; rfl
  have q := (row_place hs hc).2 hM (by omega)
  rw [hb] at q
  exact Bool.and_eq_false_iff.1 q
theorem row_reach (hs : cs.map Crt.say = ladderB (rowL x) [1] 3) (hl : cs.length = rowN x) (h0 : cs[0]? = some lf) (hp : pool.Perm (cs.drop 1)) : (hse lf pool).reach = cs.take (min 8 (rowM x)) :=
 lad_reach hs (rowL_letters x) (row_lv hs hl h0 hp) (rowM_range x).1 (by rw [hl]; exact (rowM_range x).2)
theorem row_find (hs : cs.map Crt.say = ladderB (rowL x) [1] 3) (hl : cs.length = rowN x) (h0 : cs[0]? = some lf) (hp : pool.Perm (cs.drop 1)) {last : Crt} (hlast : cs[cs.length - 1]? = some last) :
  (hse lf pool).find (trB [last.raw]) = if cs.length ≤ 8 ∧ rowMay x = true then some cs else none := by
 have hn := rowN_range x
 have hsh := lad_shortW hs (rowL_W x) ⟨by decide, fun y hy => by simp at hy; omega⟩
 have tr : ∀ (i : Nat) (c : Crt), cs[i]? = some c → i ≠ cs.length - 1 → trB [last.raw] c = false := fun i c hc hi => by
  have h : ¬ last.raw.xs = c.raw.xs := fun h => hi (lad_raw hs (rowL_letters x) (fun c hc => Nat.le_trans (hsh c hc).1 (by decide)) hc hlast h.symm)
  simp [trB, h]
 have lv := row_lv hs hl h0 hp
 have hm := rowM_range x
 by_cases h : cs.length ≤ 8 ∧ rowMay x = true
 ·rw [if_pos h]
  have hM : rowM x = cs.length := by unfold rowM; rw [h.2, hl]; rfl
  have q := lad_find (tr := trB [last.raw]) (j := cs.length - 1) lv (by omega) (by omega) (by omega) (fun c hc => by
   rw [hlast] at hc
   obtain rfl := Option.some.inj hc
   simp [trB]) (fun i c hi hc => tr i c hc (by omega))
  rw [q, show cs.length - 1 + 1 = cs.length by omega, List.take_length]
 ·rw [if_neg h]
  refine lad_none lv (by omega) (fun i c h8 him hc => tr i c hc ?_)
  intro e
  refine h ⟨by omega, ?_⟩
  cases hb : rowMay x with
  | true => rfl
  | false =>
   have hM : rowM x = rowA x := by unfold rowM; rw [hb]; rfl
   have := rowA_lt x
   omega
end
end Go.Proofs.YtchaahnhpeoomaaGreat
