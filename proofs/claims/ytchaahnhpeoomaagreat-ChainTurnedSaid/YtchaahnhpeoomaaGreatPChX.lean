/-
 lintellaw13.within: does a certificate stand among others?
-/
import Derived.Test.YtchaahnhpeoomaaGreatPChW
namespace Go.Proofs.YtchaahnhpeoomaaGreat
set_option linter.unusedVariables false
set_option linter.unusedSimpArgs false
set_option maxRecDepth 20000
open Go.RowKit
theorem sl_mid (g off n c i : Nat) (h : i < n) (h2 : n ≤ c) (hc : c ≤ maxLen) (W : World) : (Instr.sliceAt 31 (.slice (some ⟨g, off, none⟩) n c) (some (.int .i64 (i : Int))) (some (.int .i64 ((i : Int) + 1))) none).run Tryz.prog W = .ok (.slice (some ⟨g, off + i * 24, none⟩) 1 (c - i)) W := by
 have hm : maxLen = 9223372036854775807 := rfl
 have h1 : (0 : Int) ≤ (i : Int) := by omega
 have h3 : (i : Int) ≤ (i : Int) + 1 := by omega
 have h4 : (i : Int) + 1 ≤ (c : Int) := by omega
 have h5 : (n : Int) ≤ (c : Int) := by omega
 have h6 : ((i : Int) + 1).toNat = i + 1 := by omega
 have h7 : ¬ c - i = 0 := by omega
 have h8 : i + 1 - i = 1 := by omega
 have h9 : ¬ c = i := by omega
 go_simp
section
variable {ops : Array Oper} {Q : Exit → Act → World → Prop} {Base : Act → Prop} {dst : Nat → Nat} {tags : Nat → Tg} {i : Nat} {o : Oper}
theorem st_add {G : World → Prop} {m n : Int} (hgd : o.guard = none) (x y : Operand) (ho : o.op = .binOp .add 3 x y 3) (ht : tags i = tv (.int .i64 (m + n))) (hx : Src o Base dst tags G x (tv (.int .i64 m))) (hy : Src o Base dst tags G y (tv (.int .i64 n))) (hr : -9223372036854775808 ≤ m + n ∧ m + n ≤ 9223372036854775807) :
  StepOk Tryz.prog ops Q Base dst (fun i v w => Sp (tags i) v w) G i o :=
 st_run hgd fun a w hba hd hg => by
  have h1 : a.eval x = .int .i64 m := (hx a w hba hd hg).now
  have h2 : a.eval y = .int .i64 n := (hy a w hba hd hg).now
  have hc : IntKind.i64.wrap (m + n) = m + n := IntWalk.i64_in _ (by omega)
  refine ⟨.int .i64 (m + n), w, ?_, Sub.refl w, hg, by rw [ht]; exact Sp.tv rfl⟩
  unfold execOp
  simp only [ho, h1, h2]
  go_simp
end
def wiB (c : Crt) (L : List Crt) : Bool := L.any fun d => decide (c.say = d.say)
def wiT (g0 gl ol n cl ix : Nat) (c d : Crt) (p : Bool) : Nat → Tg
 | 0 => tv c.val
 | 1 => tCr [c]
 | 2 => tv (.slice (some ⟨gl, ol, none⟩) n cl)
 | 3 => tv (.int .i64 (ix : Int))
 | 4 => tv (.int .i64 (ix : Int))
 | 5 => tv (.int .i64 ((ix : Int) + 1))
 | 6 => tCr [d]
 | _ => tv (.bool p)
theorem rg20 : List.range 20 = [0, 1, 2, 3, 4, 5, 6, 7, 8, 9, 10, 11, 12, 13, 14, 15, 16, 17, 18, 19] := rfl
set_option maxRecDepth 100000 in
set_option maxHeartbeats 6400000 in
theorem within_any {W : World} {A : Option Addr} {cl : Nat} {c : Crt} {L : List Crt} (hA : Crs W A L) (h1 : L.length ≤ cl) (h2 : cl ≤ maxLen) (hc : c.ok W) (hL : ∀ d ∈ L, d.ok W) (hl : L.length ≤ 1000000) :
  Calls Tryz.prog 27 #[c.val, .slice A L.length cl] W (RetW (wiB c L) W) := by
 obtain ⟨g0, hg0⟩ : ∃ g, g = W.heap.size := ⟨_, rfl⟩
 obtain ⟨w0, hw0⟩ : ∃ u, u = W.alloc (.cells c.cells.toArray 30) := ⟨_, rfl⟩
 have hE : Below W.heap.size W w0 := by rw [hw0]; exact (Below.refl _ _).alloc (Nat.le_refl _) _
 have B0 : Row w0 g0 0 c.cells := by rw [hw0, hg0]; exact row_new _
 replace hA := hA.below hE
 replace hc := hc.below hE
 replace hL := fun d hd => (hL d hd).below hE
 obtain ⟨bs, hbs⟩ : ∃ b, b = wiB c L := ⟨_, rfl⟩
 rw [← hbs]
 replace hbs := Lib.hid hbs
 unfold Crt.val
 go_enter Tryz.func27, Tryz.ntmps27
 go_upto_region 1 with fail
 refine wp_world hw0 ?_
 rw [← hg0]
 clear hw0
 replace hg0 := Lib.hid hg0
 go_wp2_with fail
 go_loopw [5] (fun t wr => ∃ ix : Nat, t = .int .i64 (ix : Int) ∧ ix ≤ L.length ∧ wiB c (L.take ix) = false ∧ Below w0.heap.size w0 wr) (fun t _ => L.length - (intOf t).toNat)
 case atStart => exact ⟨0, rfl, Nat.zero_le _, rfl, Below.refl _ _⟩
 case round =>
  obtain ⟨ix, rfl, hi, hno, er⟩ := hrel
  replace hno := Lib.hid hno
  have z6 : (ix : Int) ≤ 1000000 := by omega
  by_cases hlt : ix < L.length
  ·have z1 : (ix : Int) < (L.length : Int) := by omega
   obtain ⟨d, hd⟩ : ∃ d, L[ix]? = some d := ⟨_, List.getElem?_eq_getElem hlt⟩
   obtain ⟨gl, ol, rfl, RL⟩ := hA.resolve_left (by rintro rfl; simp at hlt)
   have Rd' := crt_row RL hd
   have do' := hL d (List.mem_of_getElem? hd)
   go_upto_region 4 with fail
   obtain ⟨p, hp⟩ : ∃ p, p = decide ([c].map Crt.say = [d].map Crt.say) := ⟨_, rfl⟩
   replace hp := Lib.hid hp
   have hd0 : Below wr.heap.size wr wr.drew := below_drewN (Below.refl _ _) 1
   refine wp_region_steps (by kernel_rfl) (fun i => 12 + i) (fun i v W => Sp ((wiT g0 gl ol L.length cl ix c d p) i) v W) (fun W => Below wr.heap.size wr W) (by kernel_rfl) (by kernel_rfl) ?inj ?lt (fun i v W W' h hs => h.mono hs) hd0 ⟨?s0, ?s1, ?s2, ?s3, ?s4, ?s5, ?s6, ?s7, trivial⟩ ?fin
   case inj =>
    intro i j hi hj h
    have h40 : i < 8 ∧ j < 8 := ⟨hi, hj⟩
    have h : 12 + i = 12 + j := h
    omega
   case lt =>
    intro i hi
    have h40 : i < 8 := hi
    show 12 + i < 20
    omega
   case s0 => exact (st_loadR (b := g0) (off := 0) rfl rfl rfl (src_base (fun i hi => by have hi : i < 8 := hi; show 12 + i ≠ _; omega) rfl) Tryz.underlying30 rfl (sz_crt _) (fun W h => (B0.below (er.trans (h.mono er.size))).rng))
   case s1 => exact (st_cert1 rfl (.tmp 12) rfl rfl (src_dep (j := 0) (e := ⟨0, .data⟩) (by simp) rfl rfl rfl))
   case s2 => exact (st_move rfl (.inl rfl) (src_base (fun i hi => by have hi : i < 8 := hi; show 12 + i ≠ _; omega) rfl))
   case s3 => exact (st_move rfl (.inl rfl) (src_base (fun i hi => by have hi : i < 8 := hi; show 12 + i ≠ _; omega) rfl))
   case s4 => exact (st_move rfl (.inl rfl) (src_base (fun i hi => by have hi : i < 8 := hi; show 12 + i ≠ _; omega) rfl))
   case s5 => exact (st_add rfl (.tmp 16) (.const (.int .i64 1)) rfl rfl (src_dep (j := 4) (e := ⟨4, .data⟩) (by simp) rfl rfl rfl) src_const (by omega))
   case s6 => exact (st_run rfl fun a U hba hdp hg => by
     have h1' : a.eval (.tmp 14) = .slice (some ⟨gl, ol, none⟩) L.length cl := (hdp ⟨2, .data⟩ (by simp) rfl).now
     have h2' : a.eval (.tmp 15) = .int .i64 (ix : Int) := (hdp ⟨3, .data⟩ (by simp) rfl).now
     have h3' : a.eval (.tmp 17) = .int .i64 ((ix : Int) + 1) := (hdp ⟨5, .data⟩ (by simp) rfl).now
     have hrun := sl_mid gl ol L.length cl ix hlt h1 h2 U
     refine ⟨.slice (some ⟨gl, ol + ix * 24, none⟩) 1 (cl - ix), U, ?_, Sub.refl U, hg, Sp.tCr (L := [d]) (by show 1 ≤ _; omega) (by omega) (.inr ⟨gl, ol + ix * 24, rfl, ?_⟩)⟩
     ·have h4' : (some (Operand.tmp 15)).map a.eval = some (.int .i64 (ix : Int)) := by rw [Option.map_some, h2']
      have h5' : (some (Operand.tmp 17)).map a.eval = some (.int .i64 ((ix : Int) + 1)) := by rw [Option.map_some, h3']
      unfold execOp
      simp only [h1', h4', h5', Option.map_none]
      first | exact congrArg _ hrun | (simp only [Sem.run_bind, hrun]; rfl) | go_simp
     ·have hR := Rd'.below (er.trans (hg.mono er.size))
      simpa [crtCells] using hR)
   case s7 => exact (st_same (cs := [c]) (ds := [d]) rfl (.tmp 13) (.tmp 18) _ rfl p hp.out.symm rfl (src_dep (j := 1) (e := ⟨1, .data⟩) (by simp) rfl rfl rfl) (src_dep (j := 6) (e := ⟨6, .data⟩) (by simp) rfl rfl rfl) (fun x hx => by rw [List.mem_singleton.1 hx]; exact hc.below er) (fun x hx => by rw [List.mem_singleton.1 hx]; exact do'.below er) (by simp))
   case fin =>
    intro a W2 h1 h2 h3 h4 h5
    have b19 : a.tmps.getD 19 undef = .bool p := (h4 7 (by show 7 < 8; omega)).now
    have hz : a.tmps.size = 20 := h2
    have hdf : a.defers = [] := h1
    have b0 : a.tmps.getD 0 undef = .agg c.cells.toArray := h3 0 (fun i (h : i < 8) => by show (12 + i) ≠ 0; omega)
    have b1 : a.tmps.getD 1 undef = .slice (some ⟨gl, ol, none⟩) L.length cl := h3 1 (fun i (h : i < 8) => by show (12 + i) ≠ 1; omega)
    have b2 : a.tmps.getD 2 undef = .pointer (some ⟨g0, 0, none⟩) := h3 2 (fun i (h : i < 8) => by show (12 + i) ≠ 2; omega)
    have b3 : a.tmps.getD 3 undef = undef := h3 3 (fun i (h : i < 8) => by show (12 + i) ≠ 3; omega)
    have b4 : a.tmps.getD 4 undef = u4 := h3 4 (fun i (h : i < 8) => by show (12 + i) ≠ 4; omega)
    have b5 : a.tmps.getD 5 undef = .int .i64 (ix : Int) := h3 5 (fun i (h : i < 8) => by show (12 + i) ≠ 5; omega)
    have b6 : a.tmps.getD 6 undef = .int .i64 (ix : Int) := h3 6 (fun i (h : i < 8) => by show (12 + i) ≠ 6; omega)
    have b7 : a.tmps.getD 7 undef = .slice (some ⟨gl, ol, none⟩) L.length cl := h3 7 (fun i (h : i < 8) => by show (12 + i) ≠ 7; omega)
    have b8 : a.tmps.getD 8 undef = .int .i64 (L.length : Int) := h3 8 (fun i (h : i < 8) => by show (12 + i) ≠ 8; omega)
    have b9 : a.tmps.getD 9 undef = .bool true := h3 9 (fun i (h : i < 8) => by show (12 + i) ≠ 9; omega)
    rw [act_eq hz hdf]
    simp only [rg20, List.map_cons, List.map_nil, b0, b1, b2, b3, b4, b5, b6, b7, b8, b9, b19]
    clear b0 b1 b2 b3 b4 b5 b6 b7 b8 b9 b19 hz hdf h1 h2 h3 h4
    have er2 := er.trans (h5.mono er.size)
    have HT := Lib.hid (show L.take (ix + 1) = L.take ix ++ [d] by rw [List.take_add_one, hd]; rfl)
    have hps : p = decide (c.say = d.say) := by rw [hp.out]; simp
    replace hps := Lib.hid hps
    cases p
    case false =>
     go_wp2_with fail
     go_roundw
     case rel => exact ⟨ix + 1, by go_num, by omega, by rw [HT.out]; have q := hno.out; unfold wiB at *; rw [List.any_append, q]; simp [of_decide_eq_false hps.out.symm], er2⟩
     case measure =>
      simp [intOf]
      omega
    case true =>
     have hy : bs = true := by
      rw [hbs.out]
      unfold wiB
      rw [List.any_eq_true]
      exact ⟨d, List.mem_of_getElem? hd, hps.out.symm⟩
     replace hy := Lib.hid hy
     go_wp2_with fail
     go_ret
     exact ⟨by rw [hy.out]; rfl, hE.trans (er2.mono hE.size)⟩
  ·have z1 : ¬ (ix : Int) < (L.length : Int) := by omega
   have hy : bs = false := by
    obtain rfl : ix = L.length := by omega
    rw [hbs.out]
    have q := hno.out
    rwa [List.take_length] at q
   replace hy := Lib.hid hy
   go_wp2_with fail
   go_ret
   exact ⟨by rw [hy.out]; rfl, hE.trans (er.mono hE.size)⟩
end Go.Proofs.YtchaahnhpeoomaaGreat
