/-
  RsaA: bytes.Repeat of one byte, walked: so many bytes, in memory of their own.
-/
import Derived.Test.YtchaahnhpeoomaaGreatQGBas
import Derived.Test.YtchaahnhpeoomaaGreatQShelf
import Derived.Shelf.Bytes.SlJoin
import Derived.Deep.RegionLaw
import Derived.StillTailTactics
import Derived.Test.YtchaahnhpeoomaaGreatQGNaA
import Derived.Lib.SlParts
namespace Go.Proofs.YtchaahnhpeoomaaGreat
set_option linter.unusedVariables false
set_option linter.unusedSimpArgs false
set_option maxRecDepth 20000
open Go.RowKit
structure Rp (w0 wr : World) (h N bp x : Nat) : Prop where
  below : Below h w0 wr
  size : h < wr.heap.size
  there : ∀ j, j < N → (wr.cell? ⟨h, j, none⟩).isSome = true
  free : ∀ j, j < N → wr.frozen? ⟨h, j, none⟩ = false
  holds : ∀ j, j < bp → wr.cell? ⟨h, j, none⟩ = some (.int .u8 (x : Int))
theorem rp_start (w : World) (cs : Array Value) (e : TypeId) (N q x : Nat) (hN : N ≤ cs.size) : Rp w ((w.alloc (.cells cs e)).drewN q) w.heap.size N 0 x := by
  have h := Lib.Buf.start w cs e N q hN
  exact ⟨h.below, by simp, h.there, h.free, fun j hj => by omega⟩
theorem rp_copy {w0 wr : World} {h N bp x m slen scap : Nat} (a : Addr) (t ty e : TypeId) (hu : Tryz.prog.underlying t = some (.slice e)) (hs : (Tryz.prog.info? e).map (·.size) = some 1)
    (hb : Rp w0 wr h N bp x) (hbp : bp < N) (hm : m = Nat.min slen (N - bp)) (hsrc : ∀ j, j < m → wr.cell? (a.add j) = some (.int .u8 (x : Int))) :
    ∃ wr', (Builtin.copy_ #[t, t] ty #[.slice (some ⟨h, bp, none⟩) (N - bp) (N - bp), .slice (some a) slen scap]).run Tryz.prog wr = .ok (.int .i64 (m : Int)) wr' ∧ Rp w0 wr' h N (bp + m) x := by
  have hmN : bp + m ≤ N := by
    have : m ≤ N - bp := by rw [hm]; exact Nat.min_le_right _ _
    omega
  have hl : (List.replicate m (Value.int .u8 (x : Int))).length = m := by simp
  have hr := run_copy_cells (P := Tryz.prog) wr t t ty e h bp (N - bp) (N - bp) a slen scap (List.replicate m (.int .u8 (x : Int))) hu hs (by rw [hl, hm])
    (fun j u hj => by
      have hj' := (List.getElem?_eq_some_iff.1 hj).1
      rw [hl] at hj'
      rw [List.getElem?_replicate, if_pos hj'] at hj
      injection hj with hj
      rw [← hj]
      exact hsrc j hj')
    (fun j hj => by rw [hl] at hj; exact hb.there _ (by omega)) (fun j hj => by rw [hl] at hj; exact hb.free _ (by omega))
    (fun u hu' => by rw [List.eq_of_mem_replicate hu']; rfl)
  rw [hl] at hr
  refine ⟨_, hr, ?_⟩
  have hin := World.cell?_setCells_in h (List.replicate m (Value.int .u8 (x : Int))) bp wr (fun j hj => by rw [hl] at hj; exact hb.there _ (by omega))
  have hout := World.cell?_setCells_out h (List.replicate m (Value.int .u8 (x : Int))) bp wr
  have hall : ∀ j, bp ≤ j → j < bp + m → (wr.setCells h bp (List.replicate m (Value.int .u8 (x : Int)))).cell? ⟨h, j, none⟩ = some (.int .u8 (x : Int)) := fun j h1 h2 => by
    obtain ⟨d, rfl⟩ : ∃ d, j = bp + d := ⟨j - bp, by omega⟩
    rw [hin d (by rw [hl]; omega)]
    simp
  refine ⟨Lib.below_setCells h (Nat.le_refl _) _ _ hb.below, by rw [size_setCells]; exact hb.size, fun j hj => ?_, fun j hj => by rw [World.frozen?_setCells]; exact hb.free j hj, fun j hj => ?_⟩
  · by_cases h1 : bp ≤ j ∧ j < bp + m
    · rw [hall j h1.1 h1.2]; rfl
    · rw [hout ⟨h, j, none⟩ (fun _ _ => by rw [hl]; show j < _ ∨ _ ≤ j; omega)]
      exact hb.there j hj
  · by_cases h1 : bp ≤ j
    · exact hall j h1 hj
    · rw [hout ⟨h, j, none⟩ (fun _ _ => Or.inl (by show j < bp; omega))]
      exact hb.holds j (by omega)
theorem Rp.drew {w0 wr : World} {h N bp x : Nat} (hb : Rp w0 wr h N bp x) : Rp w0 wr.drew h N bp x :=
  ⟨⟨hb.below.os, hb.below.tape, hb.below.output, hb.below.size, hb.below.block⟩, hb.size, hb.there, hb.free, hb.holds⟩
theorem step_copy_run {ops : Array Oper} {o : Oper} {a : Act} {w : World} {K : Act → World → Prop} {Q : Exit → Act → World → Prop} {E : Prop} (hgd : o.guard = none) (d s : Operand) (t t' : TypeId)
    (ho : o.op = .call { callee := .builtin .copy, args := #[d, s], argTypes := #[t, t'] }) (v u : Value) (hd : a.eval d = v) (hs : a.eval s = u) {v' : Value} {w' : World}
    (hr : (Builtin.copy_ #[t, t'] o.type #[v, u]).run Tryz.prog w = .ok v' w') (h : K (a.put o.dst v') w') : if Region.wanted o (yielded ops a.tmps) = true then Oper.wp Tryz.prog o a w K Q else E := by
  have hw : Region.wanted o (yielded ops a.tmps) = true := by simp [Region.wanted, hgd]
  rw [if_pos hw]
  exact Lib.wp_copy_run w d s t t' ho v u hd hs hr h
theorem Rp.blk {w0 wr : World} {h N x : Nat} (hb : Rp w0 wr h N N x) : Blk .u8 wr h (List.replicate N x) := ⟨hb.size, fun i y hy => by
  have hi := (List.getElem?_eq_some_iff.1 hy).1
  rw [List.length_replicate] at hi
  rw [List.getElem?_replicate, if_pos hi] at hy
  injection hy with hy
  subst hy
  exact ⟨hb.holds i hi, hb.free i hi⟩⟩
theorem size_u8 : (Tryz.prog.info? 5).map (·.size) = some 1 := by kernel_rfl
set_option maxRecDepth 100000 in
set_option maxHeartbeats 1600000 in
theorem repeat_any (g c n x : Nat) (w : World) (hn : 0 < n) (hl : n ≤ 512) (hx : w.cell? ⟨g, 0, none⟩ = some (.int .u8 (x : Int))) (hgl : g < w.heap.size) :
    Calls Tryz.prog 118 #[.slice (some ⟨g, 0, none⟩) 1 c, .int .i64 (n : Int)] w (Gives .u8 (List.replicate n x) w) := by
  have z1 : ((n : Int) == 0) = false := by simp; omega
  have z2 : (1 * n / 18446744073709551616 : Nat) = 0 := by omega
  have z3 : (1 * n % 18446744073709551616 : Nat) = n := by omega
  have hMul := Lib.hid (Tryz.bits_Mul 1 n (by omega) (by omega) w)
  rw [z2, z3] at hMul
  obtain ⟨cs, hrunM, hle, _⟩ := Lib.run_makeNoZero (P := Tryz.prog) w #[3] 22 5 Tryz.underlying22 n (by omega)
  have hcall : (callFunc 145 #[.int .i64 (n : Int)]).run Tryz.prog w = .ok (.value (.slice (some ⟨w.heap.size, 0, none⟩) n cs.size)) ((w.alloc (.cells cs 5)).drewN 2) := by
    rw [run_callFunc_extern Tryz.func145 (by kernel_rfl) (by kernel_rfl) (by kernel_rfl) (e := Extern.BytealgMakeNoZero.makeNoZero #[3] #[22]) (by kernel_rfl), hrunM]
    rfl
  clear hrunM
  have i1 : (n : Int) ≤ (cs.size : Int) := by omega
  have B0 := rp_start w cs 5 n 2 x hle
  have hx0 : ((w.alloc (.cells cs 5)).drewN 2).cell? ⟨g, 0, none⟩ = some (.int .u8 (x : Int)) := by rw [B0.below.cell hgl]; exact hx
  obtain ⟨w1, hr1, B1⟩ := rp_copy (m := 1) (slen := 1) (scap := c) ⟨g, 0, none⟩ 22 3 5 Tryz.underlying22 size_u8 B0 hn (by show 1 = min 1 (n - 0); omega) (by intro j hj; rw [show j = 0 by omega]; exact hx0)
  rw [Nat.sub_zero] at hr1
  have HB := Lib.hid B1
  clear B0 B1
  generalize hh : w.heap.size = h at *
  go_enter Tryz.func118, Tryz.ntmps118
  go_wp2_with fail
  refine hMul.out.mono ?_
  rintro e w9 ⟨rfl, rfl⟩
  go_wp2_with (at_builtin; refine Lib.wpList_copy_run _ rfl _ _ 22 22 rfl _ _ rfl rfl hr1 ?_)
  go_loopw [10] (fun t wr => ∃ bp : Nat, t = .int .i64 (bp : Int) ∧ 0 < bp ∧ bp ≤ n ∧ Hid (Rp w9 wr h n bp x)) (fun t _ => n - (intOf t).toNat)
  case atStart => exact ⟨1, rfl, by omega, by omega, HB⟩
  case round =>
    clear HB hr1 hcall
    obtain ⟨bp, rfl, hb0, hbn, HB⟩ := hrel
    by_cases hlt : bp < n
    · obtain ⟨m, hm⟩ : ∃ m, m = Nat.min bp (n - bp) := ⟨_, rfl⟩
      have hm1 : 0 < m ∧ bp + m ≤ n := by rw [hm]; simp only [Nat.min_def]; split <;> omega
      obtain ⟨w2, hr2, B2⟩ := rp_copy (scap := n) ⟨h, 0, none⟩ 22 3 5 Tryz.underlying22 size_u8 HB.out.drew hlt hm (fun j hj => by
        have e : (⟨h, 0, none⟩ : Addr).add j = ⟨h, j, none⟩ := by
          have := Lib.add_plain2 h 0 j
          rwa [Nat.zero_add] at this
        rw [e]
        have : m ≤ bp := by rw [hm]; exact Nat.min_le_left _ _
        exact HB.out.drew.holds j (by omega))
      have hmin : min (bp : Int) (n : Int) = (bp : Int) := by omega
      have HB2 := Lib.hid B2
      clear B2 hm HB
      have i2 : (bp : Int) ≤ (n : Int) := by omega
      have i3 : (0 : Int) ≤ (bp : Int) := by omega
      have hwr : IntKind.i64.wrap ((bp : Int) + (m : Int)) = ((bp + m : Nat) : Int) := by
        rw [IntKind.wrap_i64]
        omega
      have HM := Lib.hid hm1.2
      have q1 : (n = bp) = False := by simp; omega
      go_wp2_with fail
      go_region_law (refine step_copy_run rfl (.tmp 70) (.tmp 73) 22 22 rfl (.slice (some ⟨h, bp, none⟩) (n - bp) (n - bp)) (.slice (some ⟨h, 0, none⟩) bp n) (by kernel_rfl) (by kernel_rfl) hr2 ?_)
      go_simp
      go_wp2
      go_roundw
      case rel => exact ⟨bp + m, by go_num, by omega, HM.out, HB2⟩
      case measure =>
        have := HM.out
        simp [intOf]
        omega
    · obtain rfl : bp = n := by omega
      have hL : (List.replicate bp x).length = bp := by simp
      go_wp2_with fail
      go_ret
      refine ⟨some ⟨h, 0, none⟩, bp, by rw [hL]; rfl, by rw [hL]; exact Nat.le_refl _, by simp only [maxLen]; omega, Own.of_blk HB.out.blk (by rw [hh]; exact Nat.le_refl _), by rw [hh]; exact HB.out.below⟩
end Go.Proofs.YtchaahnhpeoomaaGreat
namespace Go.Proofs.YtchaahnhpeoomaaGreat
set_option linter.unusedVariables false
set_option linter.unusedSimpArgs false
set_option maxRecDepth 20000
open Go.RowKit
def u8s (xs : List Nat) : List UInt8 := xs.map UInt8.ofNat
theorem u8s_length (xs : List Nat) : (u8s xs).length = xs.length := by simp [u8s]
theorem u8_nat {x : Nat} (h : x < 256) : (UInt8.ofNat x).toNat = x := by simp; omega
theorem u8s_get {xs : List Nat} {i : Nat} {y : UInt8} (h : (u8s xs)[i]? = some y) : ∃ x, xs[i]? = some x ∧ y = UInt8.ofNat x := by
  simp only [u8s, List.getElem?_map, Option.map_eq_some_iff] at h
  obtain ⟨x, h1, h2⟩ := h
  exact ⟨x, h1, h2.symm⟩
theorem holds_rd {w : World} {A : Option Addr} {xs : List Nat} (n c : Nat) (hn : n = xs.length) (h : Rd .u8 w A xs) (lx : Lim 256 xs) : Lib.HoldsBytes w (.slice A n c) (u8s xs) := by
  subst hn
  refine ⟨A, c, by rw [u8s_length], ?_, ?_⟩
  · rintro rfl
    rcases h with rfl | ⟨_, _, h, _⟩
    · rfl
    · cases h
  · rintro a rfl i y hy
    obtain ⟨x, hx, rfl⟩ := u8s_get hy
    obtain ⟨b, o, he, _, hc⟩ := h.pos hx
    injection he with he
    subst he
    rw [u8_nat (lx.get hx)]
    exact (congrArg _ (Lib.add_plain2 b o i)).trans (hc i x hx)
theorem bytesOf_toNat {zs : List Int} {xs : List Nat} (lx : Lim 256 xs) (hz : ∀ x ∈ zs, 0 ≤ x ∧ x < 256) (h : Lib.bytesOf zs = u8s xs) : zs = xs.map fun (x : Nat) => (x : Int) := by
  have hl : zs.length = xs.length := by
    have := congrArg List.length h
    simpa [Lib.bytesOf, u8s] using this
  apply List.ext_getElem (by simpa using hl)
  intro i h1 h2
  have e := congrArg (fun l => l[i]?) h
  have h3 : i < xs.length := by omega
  simp only [Lib.bytesOf, u8s, List.getElem?_map, List.getElem?_eq_getElem h1, List.getElem?_eq_getElem h3, Option.map_some, Option.some.injEq] at e
  have := hz _ (List.getElem_mem h1)
  have := lx _ (List.getElem_mem h3)
  have e2 := congrArg UInt8.toNat e
  simp at e2
  simp
  omega
theorem own_of_fresh {B : Nat} {w : World} {v : Value} {xs : List Nat} (lx : Lim 256 xs) (h : Lib.FreshBytes B w v (u8s xs)) : ∃ A c, v = .slice A xs.length c ∧ xs.length ≤ c ∧ c ≤ maxLen ∧ Own .u8 w B A xs := by
  obtain ⟨g, cap, zs, rfl, hB, hc, hm, hz, hr, hb, hcell, hfz⟩ := h
  rw [u8s_length] at hc hb
  have e := bytesOf_toNat lx (fun x hx => hr x (List.mem_of_mem_take hx)) hb
  refine ⟨some ⟨g, 0, none⟩, cap, by rw [u8s_length], hc, hm, ?_⟩
  rcases Nat.eq_zero_or_pos xs.length with h0 | h0
  · rw [List.eq_nil_of_length_eq_zero h0]
    exact Own.nil _ _ _ _
  · have hcells : ∀ (i x : Nat), xs[i]? = some x → w.cell? ⟨g, i, none⟩ = some (.int .u8 (x : Int)) := fun i x hx => by
      have hi := (List.getElem?_eq_some_iff.1 hx).1
      rw [hcell i (by omega)]
      have h1 : (zs.take xs.length)[i]? = some (x : Int) := by rw [e]; simp [hx]
      rw [List.getElem?_take] at h1
      rw [if_pos hi] at h1
      simp [List.getD, h1]
    obtain ⟨x0, hx0⟩ := get_of_lt h0
    exact Own.of_blk ⟨World.block_lt_of_cell? w _ (hcells 0 x0 hx0), fun i x hx => ⟨hcells i x hx, hfz i (by have := (List.getElem?_eq_some_iff.1 hx).1; omega)⟩⟩ hB
theorem joinTail_flat (rs : List (List Nat)) : Lib.joinTail [] (rs.map u8s) = u8s rs.flatten := by
  induction rs with
  | nil => rfl
  | cons r rs ih =>
    have e : Lib.joinTail [] ((r :: rs).map u8s) = u8s r ++ Lib.joinTail [] (rs.map u8s) := by simp [Lib.joinTail]
    rw [e, ih]
    simp [u8s]
theorem join_flat (rs : List (List Nat)) : Lib.join (rs.map u8s) [] = u8s rs.flatten := by
  cases rs with
  | nil => rfl
  | cons r rs =>
    rw [List.map_cons, Lib.join_cons, joinTail_flat]
    simp [u8s]
theorem lens_flat (rs : List (List Nat)) : Lib.lens (rs.map u8s) = rs.flatten.length := by
  unfold Lib.lens
  rw [List.map_map, List.length_flatten]
  congr 1
  apply List.map_congr_left
  intro x _
  simp [u8s]
theorem lim_flatten {rs : List (List Nat)} {b : Nat} (h : ∀ r ∈ rs, Lim b r) : Lim b rs.flatten := fun x hx => by
  obtain ⟨r, hr, hxr⟩ := List.mem_flatten.1 hx
  exact h r hr x hxr
structure Parts (w : World) (b o : Nat) (vs : List Value) (rs : List (List Nat)) : Prop where
  len : vs.length = rs.length
  cell : ∀ (i : Nat) v, vs[i]? = some v → w.cell? ⟨b, o + i, none⟩ = some v
  part : ∀ (i : Nat) v r, vs[i]? = some v → rs[i]? = some r → ∃ A c, v = .slice A r.length c ∧ Rd .u8 w A r ∧ Lim 256 r
theorem Parts.at {w : World} {b o : Nat} {vs : List Value} {rs : List (List Nat)} (h : Parts w b o vs rs) : Lib.PartsAt w ⟨b, o, none⟩ vs (rs.map u8s) := by
  refine ⟨by simpa using h.len, fun i v hv => (congrArg _ (Lib.add_plain2 b o i)).trans (h.cell i v hv), fun i v l hv hl => ?_⟩
  simp only [List.getElem?_map, Option.map_eq_some_iff] at hl
  obtain ⟨r, hr, rfl⟩ := hl
  obtain ⟨A, c, rfl, h1, h2⟩ := h.part i v r hv hr
  exact holds_rd _ _ rfl h1 h2
def PartL (w : World) : List Value → List (List Nat) → Prop
  | [], [] => True
  | v :: vs, r :: rs => (∃ A c, v = .slice A r.length c ∧ Rd .u8 w A r ∧ Lim 256 r) ∧ PartL w vs rs
  | _, _ => False
theorem PartL.len {w : World} : ∀ {vs : List Value} {rs : List (List Nat)}, PartL w vs rs → vs.length = rs.length
  | [], [], _ => rfl
  | _ :: _, _ :: _, h => by simp [PartL.len h.2]
  | [], _ :: _, h => by cases h
  | _ :: _, [], h => by cases h
theorem PartL.get {w : World} : ∀ {vs : List Value} {rs : List (List Nat)}, PartL w vs rs → ∀ (i : Nat) v r, vs[i]? = some v → rs[i]? = some r → ∃ A c, v = .slice A r.length c ∧ Rd .u8 w A r ∧ Lim 256 r
  | [], [], _ => fun i v r hv => by simp at hv
  | x :: vs, y :: rs, h => fun i v r hv hr => by
    cases i with
    | zero =>
      simp at hv hr
      subst hv
      subst hr
      exact h.1
    | succ i => exact PartL.get h.2 i v r (by simpa using hv) (by simpa using hr)
  | [], _ :: _, h => by cases h
  | _ :: _, [], h => by cases h
theorem parts_new {w : World} (t : TypeId) {vs : List Value} {rs : List (List Nat)} (h : PartL (w.alloc (.cells vs.toArray t)) vs rs) : Parts (w.alloc (.cells vs.toArray t)) w.heap.size 0 vs rs :=
  ⟨h.len, (Cut.of_heap (o := 0) (heap_alloc_new w (.cells vs.toArray t)) fun i v hv => by simpa using hv).range, h.get⟩
theorem join_any (b o n c : Nat) (vs : List Value) (rs : List (List Nat)) (w : World) (hn : rs.length = n) (h2 : 2 ≤ n) (h3 : n ≤ 1000) (hcap : n ≤ c) (hP : Parts w b o vs rs) (hl : rs.flatten.length ≤ 70000) :
    Calls Tryz.prog 119 #[.slice (some ⟨b, o, none⟩) n c] w (Gives .u8 rs.flatten w) := by
  have hlim : Lim 256 rs.flatten := lim_flatten fun r hr => by
    obtain ⟨i, hi⟩ := List.mem_iff_getElem?.1 hr
    have hlt := (List.getElem?_eq_some_iff.1 hi).1
    rw [← hP.len] at hlt
    obtain ⟨_, _, _, _, h⟩ := hP.part i vs[i] r (List.getElem?_eq_getElem hlt) hi
    exact h
  have hJ := Lib.hid (Tryz.bytes_Join_many b o n c vs (rs.map u8s) (.slice none 0 0) [] w (by simpa using hn) h2 hP.at hcap ⟨none, 0, rfl, fun _ => rfl, fun a h => by cases h⟩ (by omega) (by rw [lens_flat]; simp only [List.length_nil, Nat.zero_mul, Nat.add_zero]; omega))
  rw [join_flat] at hJ
  clear hP hn
  generalize rs.flatten = F at *
  go_enter Tryz.func119, Tryz.ntmps119
  go_wp2_with fail
  refine hJ.out.mono ?_
  rintro e w1 ⟨v, rfl, hf, hb⟩
  obtain ⟨A, c', rfl, h4, h5, h6⟩ := own_of_fresh hlim hf
  go_wp2_with fail
  go_ret
  exact ⟨A, c', rfl, h4, h5, h6, hb⟩
def head19 : List Nat := [48, 49, 48, 13, 6, 9, 96, 134, 72, 1, 101, 3, 4, 2, 1, 5, 0, 4, 32]
def encN (ds : List Nat) (n : Nat) : List Nat := [0, 1] ++ (List.replicate (n - 54) 255 ++ ([0] ++ (head19 ++ ds)))
def encOf (ds : List Nat) (n : Int) : List Nat × Int := if n < 62 ∨ 512 < n then ([], 1) else (encN ds n.toNat, 0)
theorem encN_flat (ds : List Nat) (n : Nat) : [[0, 1], List.replicate (n - 54) 255, [0], head19, ds].flatten = encN ds n := by simp [encN]
theorem encN_length (ds : List Nat) (n : Nat) (hd : ds.length = 32) (hn : 54 ≤ n) : (encN ds n).length = n := by
  simp [encN, head19, hd]
  omega
theorem encN_lim (ds : List Nat) (n : Nat) (hd : Lim 256 ds) : Lim 256 (encN ds n) := by
  intro x hx
  simp only [encN, List.mem_append, List.mem_replicate, List.mem_cons, List.not_mem_nil, or_false] at hx
  rcases hx with (rfl | rfl) | ⟨_, rfl⟩ | rfl | hx | hx
  · omega
  · omega
  · omega
  · omega
  · exact lim_small (b := 256) (by decide) x hx
  · exact hd x hx
set_option maxRecDepth 100000 in
set_option maxHeartbeats 1600000 in
theorem encode_any (ds : List Nat) (n : Int) (w : World) (hd : ds.length = 32) (ld : Lim 256 ds) (hi : -9223372036854775808 ≤ n ∧ n ≤ 9223372036854775807) :
    Calls Tryz.prog 82 #[.agg (ints .u8 ds).toArray, .int .i64 n] w (Gives2 .u8 (encOf ds n).1 (encOf ds n).2 w) := by
  by_cases h : n < 62 ∨ 512 < n
  · have HE := Lib.hid (show encOf ds n = ([], 1) by unfold encOf; rw [if_pos h])
    have hb : (decide (n < 62) || decide (512 < n)) = true := by simpa using h
    go_enter Tryz.func82, Tryz.ntmps82
    go_wp2
    all_goals go_ret2
    all_goals rw [HE.out]
    all_goals exact ⟨none, 0, rfl, Nat.le_refl _, Nat.zero_le _, Own.nil _ _ _ _, (Below.refl _ _).alloc (Nat.le_refl _) _⟩
  · obtain ⟨m, rfl⟩ : ∃ m : Nat, n = (m : Int) := ⟨n.toNat, by omega⟩
    have HE := Lib.hid (show encOf ds (m : Int) = (encN ds m, 0) by unfold encOf; rw [if_neg h]; rfl)
    have h1 : 62 ≤ m ∧ m ≤ 512 := by omega
    obtain ⟨h1, h2⟩ := h1
    clear h
    have hq : (m : Int) - 3 - 19 - 32 = ((m - 54 : Nat) : Int) := by omega
    go_enter Tryz.func82, Tryz.ntmps82
    go_wp2_with fail
    have b1 : Blk .u8 (w.alloc (Obj.cells (ints .u8 ds).toArray 49)) w.heap.size ds := blk_lit w ds _ rfl
    generalize hw1 : w.alloc (Obj.cells (ints .u8 ds).toArray 49) = w1 at *
    have s1 : w1.heap.size = w.heap.size + 1 := by rw [← hw1]; simp
    have e1 : Below w.heap.size w w1 := by rw [← hw1]; exact (Below.refl _ _).alloc (Nat.le_refl _) _
    clear hw1
    generalize hw2 : w1.alloc _ = w2 at *
    have s2 : w2.heap.size = w.heap.size + 1 + 1 := by rw [← hw2]; simp [s1]
    have b2 : Blk .u8 w2 (w.heap.size + 1) head19 := by rw [← hw2, ← s1]; exact blk_lit w1 head19 _ rfl
    have e2 : Below w1.heap.size w1 w2 := by rw [← hw2]; exact (Below.refl _ _).alloc (Nat.le_refl _) _
    have b1 := b1.below e2
    have e2 : Below w.heap.size w w2 := e1.trans (e2.mono e1.size)
    clear hw2 e1
    have hR := repeat_any (w.heap.size + 1 + 1) 1 (m - 54) 255 (w2.alloc (.cells #[.int .u8 255] 5)) (by omega) (by omega) (by rw [← s2]; simp) (by simp [s2])
    have e3 : Below w2.heap.size w2 (w2.alloc (.cells #[.int .u8 255] 5)) := (Below.refl _ _).alloc (Nat.le_refl _) _
    have b1 := b1.below e3
    have b2 := b2.below e3
    have e3 := e2.trans (e3.mono e2.size)
    have s3 : (w2.alloc (.cells #[.int .u8 255] 5)).heap.size = w.heap.size + 1 + 1 + 1 := by simp [s2]
    generalize w2.alloc (.cells #[.int .u8 255] 5) = w3 at *
    clear e2 s2
    refine hR.mono ?_
    rintro e w4 ⟨A4, c4, rfl, h4a, h4b, o4, e4⟩
    have b1 := b1.below e4
    have b2 := b2.below e4
    have e4 := e3.trans (e4.mono e3.size)
    have o4 := o4.rd
    clear hR e3 s3
    go_wp2_with fail
    generalize hw5 : w4.alloc (.cells #[.int .u8 0, .int .u8 1] 5) = w5 at *
    have s5 : w5.heap.size = w4.heap.size + 1 := by rw [← hw5]; simp
    have b5 : Blk .u8 w5 w4.heap.size [0, 1] := by rw [← hw5]; exact blk_lit w4 [0, 1] _ rfl
    have e5 : Below w4.heap.size w4 w5 := by rw [← hw5]; exact (Below.refl _ _).alloc (Nat.le_refl _) _
    have b1 := b1.below e5
    have b2 := b2.below e5
    have o4 := o4.below e5
    have e5 := e4.trans (e5.mono e4.size)
    clear hw5 e4
    have b6 : Blk .u8 (w5.alloc (.cells #[.int .u8 0] 5)) w5.heap.size [0] := blk_lit w5 [0] _ rfl
    generalize hw6 : w5.alloc (.cells #[.int .u8 0] 5) = w6 at *
    have s6 : w6.heap.size = w4.heap.size + 1 + 1 := by rw [← hw6]; simp [s5]
    rw [s5] at b6
    have e6 : Below w5.heap.size w5 w6 := by rw [← hw6]; exact (Below.refl _ _).alloc (Nat.le_refl _) _
    have b1 := b1.below e6
    have b2 := b2.below e6
    have o4 := o4.below e6
    have b5 := b5.below e6
    have e6 := e5.trans (e6.mono e5.size)
    clear hw6 e5 s5
    have e7 : Below w6.heap.size w6 (w6.alloc (.cells [.slice (some ⟨w4.heap.size, 0, none⟩) 2 2, .slice A4 (m - 54) c4, .slice (some ⟨w4.heap.size + 1, 0, none⟩) 1 1, .slice (some ⟨w.heap.size + 1, 0, none⟩) 19 19, .slice (some ⟨w.heap.size, 0, none⟩) 32 32].toArray 22)) := (Below.refl _ _).alloc (Nat.le_refl _) _
    have hP := parts_new (w := w6) 22 (vs := [.slice (some ⟨w4.heap.size, 0, none⟩) 2 2, .slice A4 (m - 54) c4, .slice (some ⟨w4.heap.size + 1, 0, none⟩) 1 1, .slice (some ⟨w.heap.size + 1, 0, none⟩) 19 19, .slice (some ⟨w.heap.size, 0, none⟩) 32 32]) (rs := [[0, 1], List.replicate (m - 54) 255, [0], head19, ds])
      ⟨⟨_, _, rfl, Rd.of_all (b5.below e7), lim_small (by decide)⟩, ⟨A4, c4, by simp, o4.below e7, Lim.replicate (by omega)⟩, ⟨_, _, rfl, Rd.of_all (b6.below e7), lim_small (by decide)⟩, ⟨_, _, rfl, Rd.of_all (b2.below e7), lim_small (by decide)⟩, ⟨_, 32, by rw [hd], Rd.of_all (b1.below e7), ld⟩, trivial⟩
    have hJ := join_any w6.heap.size 0 5 5 _ _ _ rfl (by omega) (by omega) (Nat.le_refl _) hP (by rw [encN_flat, encN_length _ _ hd (by omega)]; omega)
    rw [encN_flat, s6] at hJ
    have e7 := e6.trans (e7.mono e6.size)
    clear hP b1 b2 o4 b5 b6 e6
    refine hJ.mono ?_
    rintro e w8 ⟨A8, c8, rfl, h8a, h8b, o8, e8⟩
    have o8 := o8.mono e7.size
    have e8 := e7.trans (e8.mono e7.size)
    have hlen := encN_length ds m hd (by omega)
    clear hJ e7
    go_wp2_with fail
    go_ret2
    rw [HE.out]
    refine ⟨A8, c8, ?_, ?_, h8b, o8, e8⟩
    · rw [show (encN ds m, (0 : Int)).1.length = m from hlen]
      rfl
    · rw [show (encN ds m, (0 : Int)).1.length = m from hlen]
      first | exact h8a | (rw [hlen] at h8a; exact h8a)
end Go.Proofs.YtchaahnhpeoomaaGreat
namespace Go.Proofs.YtchaahnhpeoomaaGreat
set_option linter.unusedVariables false
set_option linter.unusedSimpArgs false
set_option maxRecDepth 20000
open Go.RowKit
theorem own_lit {k : IntKind} {t : TypeId} (w : World) (xs : List Nat) (cur : Array Value) (h : cur = (ints k xs).toArray) {B : Nat} (hB : B ≤ w.heap.size) (hm : xs.length ≤ maxLen) :
    (w.alloc (.cells cur t)).ownsRow B t 1 (.slice (some ⟨w.heap.size, 0, none⟩) xs.length xs.length) xs.length (ints k xs) := by
  subst h
  exact ⟨by simp [ints], .inr ⟨w.heap.size, xs.length, _, rfl, hB, heap_alloc_new w _, Nat.le_refl _, hm, by simp [ints], by rw [List.take_of_length_le (by simp [ints])]⟩⟩
theorem own_keep {w w' : World} {B : Nat} {e : TypeId} {s : Nat} {v : Value} {n : Nat} {xs : List Value} (h : w.ownsRow B e s v n xs) (hk : ∀ j, v.ownBlock = some j → w'.heap[j]? = w.heap[j]?) : w'.ownsRow B e s v n xs := by
  refine ⟨h.1, ?_⟩
  rcases h.2 with hn | ⟨g, cap, cur, rfl, hb, hgg, rest⟩
  · exact .inl hn
  · exact .inr ⟨g, cap, cur, rfl, hb, (hk g rfl).trans hgg, rest⟩
theorem own_below {w w' : World} {B : Nat} {e : TypeId} {s : Nat} {v : Value} {n : Nat} {xs : List Value} (h : w.ownsRow B e s v n xs) (hb : Below w.heap.size w w') : w'.ownsRow B e s v n xs :=
  own_keep h fun k hk => hb.block k (h.lt k hk).2
theorem refAhead_any (w : World) : Calls Tryz.prog 101 #[] w (fun e w' => ∃ A c, e = .returned (.slice A 19 c) ∧ Own .u8 w' w.heap.size A head19 ∧ Below w.heap.size w w') := by
  go_enter Tryz.func101, Tryz.ntmps101
  go_wp2
  go_ret
  exact ⟨_, 19, rfl, Own.of_blk (blk_lit w head19 _ rfl) (Nat.le_refl _), (Below.refl _ _).alloc (Nat.le_refl _) _⟩
theorem enc_rows (ds : List Nat) (j : Nat) : [0, 1] ++ List.replicate j 255 ++ [0] ++ head19 ++ ds = encN ds (j + 54) := by simp [encN]
theorem enc_step (j : Nat) : [0, 1] ++ List.replicate j 255 ++ [255] = [0, 1] ++ List.replicate (j + 1) 255 := by rw [List.append_assoc, ← List.replicate_succ']
set_option maxRecDepth 100000 in
set_option maxHeartbeats 1600000 in
theorem refEncode_any (ds : List Nat) (n : Int) (w : World) (hd : ds.length = 32) (ld : Lim 256 ds) (hi : -9223372036854775808 ≤ n ∧ n ≤ 9223372036854775807) :
    Calls Tryz.prog 70 #[.agg (ints .u8 ds).toArray, .int .i64 n] w (Gives2 .u8 (encOf ds n).1 (encOf ds n).2 w) := by
  by_cases h : n < 62 ∨ 512 < n
  · have HE := Lib.hid (show encOf ds n = ([], 1) by unfold encOf; rw [if_pos h])
    have hb : (decide (n < 62) || decide (512 < n)) = true := by simpa using h
    go_enter Tryz.func70, Tryz.ntmps70
    go_wp2
    all_goals go_ret2
    all_goals rw [HE.out]
    all_goals exact ⟨none, 0, rfl, Nat.le_refl _, Nat.zero_le _, Own.nil _ _ _ _, (Below.refl _ _).alloc (Nat.le_refl _) _⟩
  · obtain ⟨m, rfl⟩ : ∃ m : Nat, n = (m : Int) := ⟨n.toNat, by omega⟩
    have HE := Lib.hid (show encOf ds (m : Int) = (encN ds m, 0) by unfold encOf; rw [if_neg h]; rfl)
    have h1 : 62 ≤ m ∧ m ≤ 512 := by omega
    obtain ⟨h1, h2⟩ := h1
    clear h
    go_enter Tryz.func70, Tryz.ntmps70
    go_wp2_with fail
    have b1 : Blk .u8 (w.alloc (Obj.cells (ints .u8 ds).toArray 49)) w.heap.size ds := blk_lit w ds _ rfl
    generalize hw1 : w.alloc (Obj.cells (ints .u8 ds).toArray 49) = w1 at *
    have s1 : w1.heap.size = w.heap.size + 1 := by rw [← hw1]; simp
    have e1 : Below w.heap.size w w1 := by rw [← hw1]; exact (Below.refl _ _).alloc (Nat.le_refl _) _
    clear hw1
    have O2 : (w1.alloc (.cells #[.int .u8 0, .int .u8 1] 5)).ownsRow w1.heap.size 5 1 (.slice (some ⟨w1.heap.size, 0, none⟩) 2 2) 2 (ints .u8 ([0, 1] ++ List.replicate 0 255)) := own_lit w1 [0, 1] _ rfl (Nat.le_refl _) (by decide)
    have e2 : Below w1.heap.size w1 (w1.alloc (.cells #[.int .u8 0, .int .u8 1] 5)) := (Below.refl _ _).alloc (Nat.le_refl _) _
    rw [s1] at O2 e2
    generalize w1.alloc (.cells #[.int .u8 0, .int .u8 1] 5) = w2 at *
    go_loopw [6] (fun so wr => ∃ (j : Nat) (A2 : Option Addr) (c2 : Nat), so = .slice A2 (j + 2) c2 ∧ j + 54 ≤ m ∧ wr.ownsRow (w.heap.size + 1) 5 1 (.slice A2 (j + 2) c2) (j + 2) (ints .u8 ([0, 1] ++ List.replicate j 255)) ∧ Below (w.heap.size + 1) w1 wr) (fun so _ => m - (match so with | .slice _ n _ => n | _ => 0))
    case atStart => exact ⟨0, some ⟨w.heap.size + 1, 0, none⟩, 2, rfl, by omega, O2, e2⟩
    case round =>
      clear O2 e2
      obtain ⟨j, A2, c2, rfl, hj, hown, hbel⟩ := hrel
      rw [← s1] at hown hbel
      by_cases hlt : j + 54 < m
      · have hs := hbel.size
        go_wp2_with (at_builtin; refine wpList_append_ints _ rfl (.tmp 19) (.tmp 20) _ rfl w1.heap.size 5 .u8 1 Tryz.underlying22 info_u8 (.slice A2 (j + 2) c2) (j + 2) _ rfl (hown.alloc _) _ 1 1 [255] rfl rfl (Rd.of_all (blk_lit wr [255] _ rfl)) (by simp only [maxLen]; omega) (by omega) (by simp; omega) ?_; intro v5 w5 hown5 hgrow5 _)
        obtain ⟨A5, c5, rfl, -⟩ := Own.of_row hown5
        have hbr5 : Below w1.heap.size w1 w5 := (hbel.alloc hs _).grown hgrow5 (by simp; omega) (fun k hk => (hown.lt k hk).1)
        rw [enc_step] at hown5
        clear hown hbel
        rw [s1] at hown5 hbr5
        go_roundw
        case rel => exact ⟨j + 1, A5, c5, rfl, by omega, hown5, hbr5⟩
        case measure => simp; omega
      · obtain rfl : m = j + 54 := by omega
        have hs := hbel.size
        have b1 := b1
        go_wp2_with (at_builtin; refine wpList_append_ints _ rfl (.tmp 22) (.tmp 23) _ rfl w1.heap.size 5 .u8 1 Tryz.underlying22 info_u8 (.slice A2 (j + 2) c2) (j + 2) _ rfl (hown.alloc _) _ 1 1 [0] rfl rfl (Rd.of_all (blk_lit wr [0] _ rfl)) (by simp only [maxLen]; omega) (by omega) (by simp; omega) ?_; intro v5 w5 hown5 hgrow5 _)
        obtain ⟨A5, c5, rfl, -⟩ := Own.of_row hown5
        have hbr5 : Below w1.heap.size w1 w5 := (hbel.alloc hs _).grown hgrow5 (by simp; omega) (fun k hk => (hown.lt k hk).1)
        clear hown hbel hgrow5 hs
        have hs := hbr5.size
        go_wp2_with fail
        refine (refAhead_any w5).mono ?_
        rintro e w6 ⟨A6, c6, rfl, o6, e6⟩
        dsimp only
        have hown6 := own_below hown5 e6
        have hbr6 := hbr5.trans (e6.mono hs)
        have hs6 := hbr6.size
        clear hown5 hbr5
        go_wp2_with (at_builtin; first
          | (refine wpList_append_ints _ rfl (.tmp 25) (.tmp 26) _ rfl w1.heap.size 5 .u8 1 Tryz.underlying22 info_u8 (.slice A5 (j + 2 + 1) c5) (j + 2 + 1) _ rfl hown6 A6 19 c6 head19 rfl rfl o6.rd (by simp only [maxLen]; omega) (by omega) hs6 ?_
             intro v7 w7 hown7 hgrow7 _
             obtain ⟨A7, c7, rfl, -⟩ := Own.of_row hown7
             have hbr7 : Below w1.heap.size w1 w7 := hbr6.grown hgrow7 hs6 (fun k hk => (hown6.lt k hk).1)
             clear hown6 hbr6 hgrow7 o6 e6
             have hs7 := hbr7.size
             have b7 := b1.below hbr7)
          | (refine wpList_append_ints _ rfl (.tmp 28) (.tmp 29) _ rfl w1.heap.size 5 .u8 1 Tryz.underlying22 info_u8 (.slice A7 (j + 2 + 1 + 19) c7) (j + 2 + 1 + 19) _ rfl hown7 (some ⟨w.heap.size, 0, none⟩) 32 32 ds rfl hd.symm (Rd.of_all b7) (by simp only [maxLen]; omega) (by omega) hs7 ?_
             intro v8 w8 hown8 hgrow8 _))
        obtain ⟨A8, c8, rfl, h8n, h8a, h8b, o8⟩ := Own.of_row hown8
        have hbr8 : Below w1.heap.size w1 w8 := hbr7.grown hgrow8 hs7 (fun k hk => (hown7.lt k hk).1)
        rw [enc_rows] at o8 h8n
        clear hown8 hown7 hgrow8 hbr7
        go_ret2
        rw [HE.out]
        have hlen := encN_length ds (j + 54) hd (by omega)
        refine ⟨A8, c8, ?_, ?_, h8b, o8.mono (by omega), e1.trans (hbr8.mono (by omega))⟩
        · rw [show (encN ds (j + 54), (0 : Int)).1.length = j + 54 from hlen]
          rfl
        · rw [show (encN ds (j + 54), (0 : Int)).1.length = j + 54 from hlen]
          exact h8a
end Go.Proofs.YtchaahnhpeoomaaGreat
