/-
  bytes.Repeat of one byte, walked: so many bytes, in memory of their own.
-/
import Derived.Test.YtfclpieijbgodaaPost
import Derived.Test.YtfclpieijbgodaaArr
import Derived.Test.YtfclpieijbgodaaShelf
import Derived.Shelf.Bytes.SlJoin
import Derived.Deep.RegionLaw
import Derived.StillTailTactics
namespace Go.Proofs.Ytfclpieijbgodaa
set_option linter.unusedVariables false
set_option linter.unusedSimpArgs false
open Go.RowKit

/-- A buffer of the call's own whose first bp bytes are x. -/
structure Rp (w0 wr : World) (h N bp x : Nat) : Prop where
  below : Below h w0 wr
  size : h < wr.heap.size
  there : ∀ j, j < N → (wr.cell? ⟨h, j, none⟩).isSome = true
  free : ∀ j, j < N → wr.frozen? ⟨h, j, none⟩ = false
  holds : ∀ j, j < bp → wr.cell? ⟨h, j, none⟩ = some (.int .u8 (x : Int))
theorem rp_start (w : World) (cs : Array Value) (e : TypeId) (N q x : Nat) (hN : N ≤ cs.size) : Rp w ((w.alloc (.cells cs e)).drewN q) w.heap.size N 0 x := by
  have h := Lib.Buf.start w cs e N q hN
  exact ⟨h.below, by simp, h.there, h.free, fun j hj => by omega⟩
theorem rp_copy {w0 wr : World} {h N bp x m slen scap : Nat} (a : Addr) (t ty e : TypeId) (hu : Try.prog.underlying t = some (.slice e)) (hs : (Try.prog.info? e).map (·.size) = some 1)
    (hb : Rp w0 wr h N bp x) (hbp : bp < N) (hm : m = Nat.min slen (N - bp)) (hsrc : ∀ j, j < m → wr.cell? (a.add j) = some (.int .u8 (x : Int))) :
    ∃ wr', (Builtin.copy_ #[t, t] ty #[.slice (some ⟨h, bp, none⟩) (N - bp) (N - bp), .slice (some a) slen scap]).run Try.prog wr = .ok (.int .i64 (m : Int)) wr' ∧ Rp w0 wr' h N (bp + m) x := by
  have hmN : bp + m ≤ N := by
    have : m ≤ N - bp := by rw [hm]; exact Nat.min_le_right _ _
    omega
  have hl : (List.replicate m (Value.int .u8 (x : Int))).length = m := by simp
  have hr := run_copy_cells (P := Try.prog) wr t t ty e h bp (N - bp) (N - bp) a slen scap (List.replicate m (.int .u8 (x : Int))) hu hs (by rw [hl, hm])
    (fun j u hj => by
      have hj' := (List.getElem?_eq_some_iff.1 hj).1
      rw [hl] at hj'
      rw [List.getElem?_replicate, if_pos hj'] at hj
      injection hj with hj
      rw [← hj]
      exact hsrc j hj')
    (fun j hj => by rw [hl] at hj; exact hb.there _ (by omega)) (fun j hj => by rw [hl] at hj; exact hb.free _ (by omega))
    (fun u hu' => by rw [List.eq_of_mem_replicate hu']; rfl)
  rw [hl] at hr
  refine ⟨_, hr, ?_⟩
  have hin := World.cell?_setCells_in h (List.replicate m (Value.int .u8 (x : Int))) bp wr (fun j hj => by rw [hl] at hj; exact hb.there _ (by omega))
  have hout := World.cell?_setCells_out h (List.replicate m (Value.int .u8 (x : Int))) bp wr
  have hall : ∀ j, bp ≤ j → j < bp + m → (wr.setCells h bp (List.replicate m (Value.int .u8 (x : Int)))).cell? ⟨h, j, none⟩ = some (.int .u8 (x : Int)) := fun j h1 h2 => by
    obtain ⟨d, rfl⟩ : ∃ d, j = bp + d := ⟨j - bp, by omega⟩
    rw [hin d (by rw [hl]; omega)]
    simp
  refine ⟨Lib.below_setCells h (Nat.le_refl _) _ _ hb.below, by rw [size_setCells]; exact hb.size, fun j hj => ?_, fun j hj => by rw [World.frozen?_setCells]; exact hb.free j hj, fun j hj => ?_⟩
  · by_cases h1 : bp ≤ j ∧ j < bp + m
    · rw [hall j h1.1 h1.2]; rfl
    · rw [hout ⟨h, j, none⟩ (fun _ _ => by rw [hl]; show j < _ ∨ _ ≤ j; omega)]
      exact hb.there j hj
  · by_cases h1 : bp ≤ j
    · exact hall j h1 hj
    · rw [hout ⟨h, j, none⟩ (fun _ _ => Or.inl (by show j < bp; omega))]
      exact hb.holds j (by omega)
theorem Rp.drewN {w0 wr : World} {h N bp x : Nat} (hb : Rp w0 wr h N bp x) (n : Nat) : Rp w0 (wr.drewN n) h N bp x :=
  ⟨below_drewN hb.below n, hb.size, fun j hj => by rw [World.cell?_drewN]; exact hb.there j hj, fun j hj => by rw [World.frozen?_drewN]; exact hb.free j hj, fun j hj => by rw [World.cell?_drewN]; exact hb.holds j hj⟩
theorem Rp.drew {w0 wr : World} {h N bp x : Nat} (hb : Rp w0 wr h N bp x) : Rp w0 wr.drew h N bp x :=
  ⟨⟨hb.below.os, hb.below.tape, hb.below.output, hb.below.size, hb.below.block⟩, hb.size, hb.there, hb.free, hb.holds⟩
theorem step_copy_run {ops : Array Oper} {o : Oper} {a : Act} {w : World} {K : Act → World → Prop} {Q : Exit → Act → World → Prop} {E : Prop} (hgd : o.guard = none) (d s : Operand) (t t' : TypeId)
    (ho : o.op = .call { callee := .builtin .copy, args := #[d, s], argTypes := #[t, t'] }) (v u : Value) (hd : a.eval d = v) (hs : a.eval s = u) {v' : Value} {w' : World}
    (hr : (Builtin.copy_ #[t, t'] o.type #[v, u]).run Try.prog w = .ok v' w') (h : K (a.put o.dst v') w') : if Region.wanted o (yielded ops a.tmps) = true then Oper.wp Try.prog o a w K Q else E := by
  have hw : Region.wanted o (yielded ops a.tmps) = true := by simp [Region.wanted, hgd]
  rw [if_pos hw]
  exact Lib.wp_copy_run w d s t t' ho v u hd hs hr h
theorem Rp.blk {w0 wr : World} {h N x : Nat} (hb : Rp w0 wr h N N x) : Blk .u8 wr h (List.replicate N x) := ⟨hb.size, fun i y hy => by
  have hi := (List.getElem?_eq_some_iff.1 hy).1
  rw [List.length_replicate] at hi
  rw [List.getElem?_replicate, if_pos hi] at hy
  injection hy with hy
  subst hy
  exact ⟨hb.holds i hi, hb.free i hi⟩⟩
theorem size_u8 : (Try.prog.info? 5).map (·.size) = some 1 := by kernel_rfl
set_option maxRecDepth 100000 in
set_option maxHeartbeats 1600000 in
theorem repeat_any (g c n x : Nat) (w : World) (hn : 0 < n) (hl : n ≤ 512) (hx : w.cell? ⟨g, 0, none⟩ = some (.int .u8 (x : Int))) (hgl : g < w.heap.size) :
    Calls Try.prog 83 #[.slice (some ⟨g, 0, none⟩) 1 c, .int .i64 (n : Int)] w (Gives .u8 (List.replicate n x) w) := by
  have z1 : ((n : Int) == 0) = false := by simp; omega
  have z2 : (1 * n / 18446744073709551616 : Nat) = 0 := by omega
  have z3 : (1 * n % 18446744073709551616 : Nat) = n := by omega
  have hMul := Lib.hid (Try.bits_Mul 1 n (by omega) (by omega) w)
  rw [z2, z3] at hMul
  obtain ⟨cs, hrunM, hle, _⟩ := Lib.run_makeNoZero (P := Try.prog) w #[3] 50 5 Try.underlying50 n (by omega)
  have hcall : (callFunc 100 #[.int .i64 (n : Int)]).run Try.prog w = .ok (.value (.slice (some ⟨w.heap.size, 0, none⟩) n cs.size)) ((w.alloc (.cells cs 5)).drewN 2) := by
    rw [run_callFunc_extern Try.func100 (by kernel_rfl) (by kernel_rfl) (by kernel_rfl) (e := Extern.BytealgMakeNoZero.makeNoZero #[3] #[50]) (by kernel_rfl), hrunM]
    rfl
  clear hrunM
  have i1 : (n : Int) ≤ (cs.size : Int) := by omega
  have B0 := rp_start w cs 5 n 2 x hle
  have hx0 : ((w.alloc (.cells cs 5)).drewN 2).cell? ⟨g, 0, none⟩ = some (.int .u8 (x : Int)) := by rw [B0.below.cell hgl]; exact hx
  obtain ⟨w1, hr1, B1⟩ := rp_copy (m := 1) (slen := 1) (scap := c) ⟨g, 0, none⟩ 50 3 5 Try.underlying50 size_u8 B0 hn (by show 1 = min 1 (n - 0); omega) (by intro j hj; rw [show j = 0 by omega]; exact hx0)
  rw [Nat.sub_zero] at hr1
  have HB := Lib.hid B1
  clear B0 B1
  generalize hh : w.heap.size = h at *
  go_enter Try.func83, Try.ntmps83
  go_wp2_with fail
  refine hMul.out.mono ?_
  rintro e w9 ⟨rfl, rfl⟩
  go_wp2_with (at_builtin; refine Lib.wpList_copy_run _ rfl _ _ 50 50 rfl _ _ rfl rfl hr1 ?_)
  go_loopw [10] (fun t wr => ∃ bp : Nat, t = .int .i64 (bp : Int) ∧ 0 < bp ∧ bp ≤ n ∧ Hid (Rp w9 wr h n bp x)) (fun t _ => n - (intOf t).toNat)
  case atStart => exact ⟨1, rfl, by omega, by omega, HB⟩
  case round =>
    clear HB hr1 hcall
    obtain ⟨bp, rfl, hb0, hbn, HB⟩ := hrel
    by_cases hlt : bp < n
    · obtain ⟨m, hm⟩ : ∃ m, m = Nat.min bp (n - bp) := ⟨_, rfl⟩
      have hm1 : 0 < m ∧ bp + m ≤ n := by rw [hm]; simp only [Nat.min_def]; split <;> omega
      obtain ⟨w2, hr2, B2⟩ := rp_copy (scap := n) ⟨h, 0, none⟩ 50 3 5 Try.underlying50 size_u8 HB.out.drew hlt hm (fun j hj => by
        have e : (⟨h, 0, none⟩ : Addr).add j = ⟨h, j, none⟩ := by
          have := Lib.add_plain2 h 0 j
          rwa [Nat.zero_add] at this
        rw [e]
        have : m ≤ bp := by rw [hm]; exact Nat.min_le_left _ _
        exact HB.out.drew.holds j (by omega))
      have hmin : min (bp : Int) (n : Int) = (bp : Int) := by omega
      have HB2 := Lib.hid B2
      clear B2 hm HB
      have i2 : (bp : Int) ≤ (n : Int) := by omega
      have i3 : (0 : Int) ≤ (bp : Int) := by omega
      have hwr : IntKind.i64.wrap ((bp : Int) + (m : Int)) = ((bp + m : Nat) : Int) := by
        rw [IntKind.wrap_i64]
        omega
      have HM := Lib.hid hm1.2
      have q1 : (n = bp) = False := by simp; omega
      go_wp2_with fail
      go_region_law (refine step_copy_run rfl (.tmp 70) (.tmp 73) 50 50 rfl (.slice (some ⟨h, bp, none⟩) (n - bp) (n - bp)) (.slice (some ⟨h, 0, none⟩) bp n) (by kernel_rfl) (by kernel_rfl) hr2 ?_)
      go_simp
      go_wp2
      go_roundw
      case rel => exact ⟨bp + m, by go_num, by omega, HM.out, HB2⟩
      case measure =>
        have := HM.out
        simp [intOf]
        omega
    · obtain rfl : bp = n := by omega
      have hL : (List.replicate bp x).length = bp := by simp
      go_wp2_with fail
      go_ret
      refine ⟨some ⟨h, 0, none⟩, bp, by rw [hL]; rfl, by rw [hL]; exact Nat.le_refl _, by simp only [maxLen]; omega, Own.of_blk HB.out.blk (by rw [hh]; exact Nat.le_refl _), by rw [hh]; exact HB.out.below⟩
end Go.Proofs.Ytfclpieijbgodaa
