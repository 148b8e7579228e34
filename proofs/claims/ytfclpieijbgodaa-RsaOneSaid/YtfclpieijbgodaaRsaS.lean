/-
  RsaOne, walked: a key can be made for every digest under which a given number is its signature, and of no other digest. Holds for any two digests and any further bytes.
-/
import Derived.Test.YtfclpieijbgodaaRsaK
import Derived.Deep.RegionHeld3
import Derived.BigQuiet
namespace Go.Proofs.Ytfclpieijbgodaa
set_option linter.unusedVariables false
set_option linter.unusedSimpArgs false
open Go.RowKit

theorem rd_drop {k : IntKind} {w : World} {b o : Nat} {xs : List Nat} (h : Rd k w (some ⟨b, o, none⟩) xs) (n : Nat) : Rd k w (some ⟨b, o + n, none⟩) (xs.drop n) := by
  rcases h with rfl | ⟨b', o', he, hb, hc⟩
  · exact .inl (by simp)
  · injection he with he
    injection he with h1 h2
    subst h1
    subst h2
    exact .inr ⟨b, o + n, rfl, hb, fun i x hx => by rw [Nat.add_assoc]; exact hc (n + i) x (by rwa [List.getElem?_drop] at hx)⟩
section
variable {P : Program} {w : World}
theorem step_append_g {ops : Array Oper} {o : Oper} {a : Act} {K : Act → World → Prop} {Q : Exit → Act → World → Prop} {E : Prop} (hw : Region.wanted o (yielded ops a.tmps) = true) (s x : Operand) (t : TypeId)
    (ho : o.op = .call { callee := .builtin .append, args := #[s, x], argTypes := #[t, t] })
    (B : Nat) (e : TypeId) (k : IntKind) (bytes : Nat) (ht : P.underlying t = some (.slice e)) (hinfo : (P.info? e).map (fun i => (i.zero, i.size, i.bytes)) = some (some (.int k 0), 1, bytes))
    (v : Value) (n : Nat) (xs : List Nat) (hs : a.eval s = v) (hown : w.ownsRow B e 1 v n (ints k xs)) (A : Option Addr) (m c : Nat) (ys : List Nat) (hx : a.eval x = .slice A m c) (hm : m = ys.length) (hr : Rd k w A ys)
    (h63 : n + m ≤ maxLen) (hbytes : (n + m) * bytes ≤ 140737488355328) (hbase : B ≤ w.heap.size)
    (h : ∀ A' c' w', w'.ownsRow B e 1 (.slice A' (n + m) c') (n + m) (ints k (xs ++ ys)) → w.grownBy w' v.ownBlock → K (a.put o.dst (.slice A' (n + m) c')) w') :
    if Region.wanted o (yielded ops a.tmps) = true then Oper.wp P o a w K Q else E := by
  rw [if_pos hw]
  obtain ⟨v', w', hrun, h2, h3, h4⟩ := run_append_ints (P := P) w B t o.type e k bytes ht hinfo v n xs hown A m c ys hm hr h63 hbytes hbase
  obtain ⟨A', c', rfl, -⟩ := Own.of_row h2
  unfold Oper.wp execOp
  simp only [ho, resolve, invoke, builtin, Sem.run_bind, Sem.run_pure, Result.andThen_ok, List.map_toArray, List.map_cons, List.map_nil, hs, hx, hrun]
  exact h _ _ _ h2 h3
end
theorem key_weak (ns : List Nat) (ds sig : List Nat) : verB ns 1 ds sig = false := verB_unsound fun h => by have := h.e3; omega
set_option maxHeartbeats 400000 in
theorem twin06_own (A : Option Addr) (n c : Nat) (xs : List Nat) (w : World) (hn : n = xs.length) (hl : n ≤ 70000) (hx : Rd .u8 w A xs) :
    Calls Try.prog 44 #[.slice A n c] w (fun e w' => ∃ A' c', e = .returned (.slice A' n c') ∧ w'.ownsRow w.heap.size 5 1 (.slice A' n c') n (ints .u8 xs) ∧ Below w.heap.size w w') := by
  subst hn
  go_enter Try.func44, Try.ntmps44
  go_wp2_with (at_builtin; refine wpList_append_ints _ rfl (.tmp 3) (.tmp 4) _ rfl w.heap.size 5 .u8 1 Try.underlying50 info_u8 (.slice (some ⟨w.heap.size, 0, none⟩) 0 0) 0 [] rfl (World.ownsRow_made w #[] 0 (Nat.le_refl _) (Nat.zero_le _) rfl) _ xs.length _ xs rfl rfl (hx.alloc _) (by simp only [maxLen]; omega) (by omega) (by simp) ?_; intro v' w1 h1 h2 _; simp only [Nat.zero_add, List.nil_append] at h1; obtain ⟨A1, c1, rfl, _⟩ := Own.of_row h1)
  go_ret
  exact ⟨A1, c1, rfl, h1, ((Below.refl _ _).alloc (Nat.le_refl _) _).grown h2 (by simp) (fun k hk => Nat.le_of_eq (by simpa [Value.ownBlock] using hk))⟩
set_option maxRecDepth 100000 in
set_option maxHeartbeats 6400000 in
theorem rsaOne_any (M : Option Addr) (m cm : Nat) (xs ys ms : List Nat) (w : World) (hx : xs.length = 32) (lx : Lim 256 xs) (hy : ys.length = 32) (ly : Lim 256 ys) (hm : m = ms.length) (hmm : m ≤ 9223372036854775807) (hM : Rd .u8 w M ms) (lM : Lim 256 ms) :
    Calls Try.prog 11 #[.agg (ints .u8 xs).toArray, .agg (ints .u8 ys).toArray, .slice M m cm] w (Yes w) := by
  subst hm
  have D0 : Whl .u8 49 (w.alloc (.cells (ints .u8 xs).toArray 49)) w.heap.size xs := whl_new0 _ _
  have e0 : Below w.heap.size w (w.alloc (.cells (ints .u8 xs).toArray 49)) := (Below.refl _ _).alloc (Nat.le_refl _) _
  have D1 := D0.below ((Below.refl _ _).alloc (Nat.le_refl _) (.cells (ints .u8 ys).toArray 49))
  have e1 := e0.alloc e0.size (.cells (ints .u8 ys).toArray 49)
  have E1 : Whl .u8 49 ((w.alloc (.cells (ints .u8 xs).toArray 49)).alloc (.cells (ints .u8 ys).toArray 49)) (w.heap.size + 1) ys := by
    have := whl_new0 (k := .u8) (t := 49) (w.alloc (.cells (ints .u8 xs).toArray 49)) ys
    rwa [World.size_alloc] at this
  have hM1 := hM.below e1
  have hl := Lib.hid hx
  have hl' := Lib.hid hy
  have hsz : (Try.prog.info? 49).map (·.size) = some (ints .u8 xs).length := by rw [ints_length, hx]; exact size_32u8
  have hsz' : (Try.prog.info? 49).map (·.size) = some (ints .u8 ys).length := by rw [ints_length, hy]; exact size_32u8
  have hun := Try.underlying49
  clear hx hy D0 e0 hM
  have hkl := forKey_len xs
  have hsl := forSig_len xs
  go_enter Try.func11, Try.ntmps11
  go_wp2_with (refine wpList_load_whl_if rfl 49 (.tmp 3) rfl w.heap.size rfl .u8 _ xs D1 _ Try.underlying49 rfl (by rw [hl.out]; exact size_32u8) ?_)
  generalize (w.alloc (.cells (ints .u8 xs).toArray 49)).alloc (.cells (ints .u8 ys).toArray 49) = w1 at *
  refine (for_any xs w1 hl.out lx).mono ?_
  rintro r w3 ⟨A, c, B, d, rfl, h3a, h3b, oA, h3c, h3d, oB, e3⟩
  unfold keyVal
  obtain ⟨x1, hx1⟩ := get_of_lt (xs := forSig xs) (i := 0) (by omega)
  obtain ⟨bB, ob, rfl, _, _⟩ := oB.rd.pos hx1
  clear hx1 x1
  have f4 : Below w3.heap.size w3 (w3.alloc (.cells #[.slice A 256 c, .int .u64 3] 52)) := (Below.refl _ _).alloc (Nat.le_refl _) _
  have K4 := key_new w3 A 256 c 3 52
  have D4 := (D1.below e3).below f4
  have E4 := (E1.below e3).below f4
  have hM4 := (hM1.below e3).below f4
  have oA := oA.rd.below f4
  have oB := oB.rd.below f4
  have e3 := e1.trans (e3.mono e1.size)
  have e4 := e3.trans (f4.mono e3.size)
  obtain ⟨vb, hvb⟩ : ∃ vb, decide (xs = ys) = vb := ⟨_, rfl⟩
  have hE : ∀ W, (binOp .eql 49 (.agg (ints .u8 xs).toArray) (.agg (ints .u8 ys).toArray)).run Try.prog W = .ok (.bool vb) W := fun W => by rw [← hvb]; exact eql_dec xs ys hl.out hl'.out W
  have HVB := Lib.hid hvb
  clear hvb D1 E1 hM1 e3 e1 f4
  go_wp2_with fail
  generalize w3.alloc (.cells #[.slice A 256 c, .int .u64 3] 52) = w4 at *
  have hSS : ∀ W, Below w4.heap.size w4 W → (Below w4.heap.size w4 W ∧ W.cell? ⟨w3.heap.size, 0, none⟩ = some (.slice A 256 c) ∧ W.cell? ⟨w3.heap.size, 1, none⟩ = some (.int .u64 3) ∧ W.rangeAt w.heap.size 0 (ints .u8 xs) ∧ W.rangeAt (w.heap.size + 1) 0 (ints .u8 ys)) := fun W h =>
    ⟨h, (K4.below h).c0, (K4.below h).c1, (Cut.of_blk (D4.below h).blk).range, (Cut.of_blk (E4.below h).blk).range⟩
  have hT : Hid (∀ W, Below w4.heap.size w4 W → Calls Try.prog 44 #[.slice (some ⟨bB, ob, none⟩) 256 d] W (fun r w' => ∃ A' c', r = .returned (.slice A' 256 c') ∧ w'.ownsRow W.heap.size 5 1 (.slice A' 256 c') 256 (ints .u8 (forSig xs)) ∧ Below W.heap.size W w')) := fun W h => twin06_own (some ⟨bB, ob, none⟩) 256 d (forSig xs) W hsl.symm (by omega) (oB.below h)
  have hV : Hid (∀ W A' c' n sig, Below w4.heap.size w4 W → Rd .u8 W A' sig → Lim 256 sig → n = sig.length → n ≤ 70000 → Calls Try.prog 48 #[.agg #[.slice A 256 c, .int .u64 3], .agg (ints .u8 xs).toArray, .slice A' n c'] W (RetW (verB (forKey xs) 3 xs sig) W)) := fun W A' c' n sig h hr hs hn hn' =>
    verify_any A A' 256 c 3 n c' (forKey xs) xs sig W hkl.symm hn (by omega) hn' (oA.below h) hr (forKey_lim xs) hs hl.out lx (by omega)
  have hVy : Hid (∀ W A' c', Below w4.heap.size w4 W → Rd .u8 W A' (forSig xs) → Calls Try.prog 48 #[.agg #[.slice A 256 c, .int .u64 3], .agg (ints .u8 ys).toArray, .slice A' 256 c'] W (RetW vb W)) := fun W A' c' h hr => by
    have hq := verify_any A A' 256 c 3 256 c' (forKey xs) ys (forSig xs) W hkl.symm hsl.symm (by omega) (by omega) (oA.below h) hr (forKey_lim xs) (forSig_lim xs) hl'.out ly (by omega)
    rwa [ver_for hl.out lx, HVB.out] at hq
  have hVx : Hid (∀ W A' c', Below w4.heap.size w4 W → Rd .u8 W A' (forSig xs) → Calls Try.prog 48 #[.agg #[.slice A 256 c, .int .u64 3], .agg (ints .u8 xs).toArray, .slice A' 256 c'] W (RetW true W)) := fun W A' c' h hr => by
    have hq := hV.out W A' c' 256 (forSig xs) h hr (forSig_lim xs) hsl.symm (by omega)
    rwa [ver_for hl.out lx, decide_eq_true rfl] at hq
  have hVn : Hid (∀ W A' c' n sig, Below w4.heap.size w4 W → Rd .u8 W A' sig → Lim 256 sig → n = sig.length → n ≤ 70000 → n ≠ 256 → Calls Try.prog 48 #[.agg #[.slice A 256 c, .int .u64 3], .agg (ints .u8 xs).toArray, .slice A' n c'] W (RetW false W)) := fun W A' c' n sig h hr hs hn hn' h9 => by
    have hq := hV.out W A' c' n sig h hr hs hn hn'
    rwa [ver_other (by rw [← hn]; exact h9)] at hq
  have hVw : Hid (∀ W c', Below w4.heap.size w4 W → Calls Try.prog 48 #[.agg #[.slice A 256 c, .int .u64 1], .agg (ints .u8 xs).toArray, .slice (some ⟨bB, ob, none⟩) 256 c'] W (RetW false W)) := fun W c' h => by
    have hq := verify_any A (some ⟨bB, ob, none⟩) 256 c 1 256 c' (forKey xs) xs (forSig xs) W hkl.symm hsl.symm (by omega) (by omega) (oA.below h) (oB.below h) (forKey_lim xs) (forSig_lim xs) hl.out lx (by omega)
    rwa [key_weak] at hq
  have hd0 : Below w4.heap.size w4 w4.drew := below_drewN (Below.refl _ _) 1
  go_wp2_with fail
  refine wp_region_held_drew (S := fun W => Below w4.heap.size w4 W ∧ W.cell? ⟨w3.heap.size, 0, none⟩ = some (.slice A 256 c) ∧ W.cell? ⟨w3.heap.size, 1, none⟩ = some (.int .u64 3) ∧ W.rangeAt w.heap.size 0 (ints .u8 xs) ∧ W.rangeAt (w.heap.size + 1) 0 (ints .u8 ys)) (by kernel_rfl) (hSS _ hd0) (fun hHeld => ?_)
  refine' wpAnyH_take (i := 1) (v := _) rfl (by kernel_rfl) (by kernel_rfl) (by kernel_rfl) (fun _ _ _ h => h) (yieldsIf_load_mid (by rfl) _ _ rfl _ _ rfl _ _ ?hS1 ?hu1 ?hd1 ?hi1) (by assumption) ?hr1
  case hS1 => (intro _ hSw; (try dsimp only at hSw); go_split_ands; assumption)
  case hu1 => assumption
  case hd1 => rfl
  case hi1 => (first | assumption | (simp only [*]; done))
  try simp only [List.getElem_toArray, List.getElem_cons_zero, List.getElem_cons_succ, Act.put, List.setIfInBounds_toArray, List.set_cons_zero, List.set_cons_succ]
  refine wpAnyH_take (i := 0) (v := ?hv2) rfl (by kernel_rfl) (by kernel_rfl) (by kernel_rfl) (fun _ _ _ h => h) (Or.inl ⟨by rfl, ?hy2⟩) (by assumption) ?hr2
  case hy2 => ((intro _ hSw; (try dsimp only at hSw); go_simp) <;> with_reducible rfl)
  try simp only [List.getElem_toArray, List.getElem_cons_zero, List.getElem_cons_succ, Act.put, List.setIfInBounds_toArray, List.set_cons_zero, List.set_cons_succ]
  refine wpAnyH_take (i := 2) (v := ?hv3) rfl (by kernel_rfl) (by kernel_rfl) (by kernel_rfl) (fun _ _ _ h => h) (Or.inl ⟨by rfl, ?hy3⟩) (by assumption) ?hr3
  case hy3 => ((intro _ hSw; (try dsimp only at hSw); go_simp) <;> with_reducible rfl)
  try simp only [List.getElem_toArray, List.getElem_cons_zero, List.getElem_cons_succ, Act.put, List.setIfInBounds_toArray, List.set_cons_zero, List.set_cons_succ]
  refine wpAnyH_ready (rs := [3]) (by kernel_rfl) (by simp) (AllReadyH.cons rfl (fun K hK => ?_) AllReadyH.nil)
  go_simp
  refine (hT.out _ hHeld.1).mono ?_; rintro r wa ⟨A1, c1, rfl, ba, ea⟩; have hcur := hHeld.1.trans (ea.mono hHeld.1.size); obtain ⟨_, _, he1, -, -, -, ra⟩ := Own.of_row ba; cases he1
  go_wp2_with fail
  clear hHeld
  refine hK.out _ _ ?hS4 (fun hHeld => ?_)
  case hS4 => exact hSS _ hcur
  clear hK K
  try simp only [List.getElem_toArray, List.getElem_cons_zero, List.getElem_cons_succ, Act.put, List.setIfInBounds_toArray, List.set_cons_zero, List.set_cons_succ]
  refine wpAnyH_ready (rs := [4]) (by kernel_rfl) (by simp) (AllReadyH.cons rfl (fun K hK => ?_) AllReadyH.nil)
  go_simp
  refine (hVx.out _ _ _ hHeld.1 ra.rd).mono ?_; rintro r wb ⟨rfl, ea⟩; have hcur := hHeld.1.trans (ea.mono hHeld.1.size); clear ba ra
  go_wp2_with fail
  clear hHeld
  refine hK.out _ _ ?hS5 (fun hHeld => ?_)
  case hS5 => exact hSS _ hcur
  clear hK K
  try simp only [List.getElem_toArray, List.getElem_cons_zero, List.getElem_cons_succ, Act.put, List.setIfInBounds_toArray, List.set_cons_zero, List.set_cons_succ]
  refine wpAnyH_take (i := 5) (v := ?hv6) rfl (by kernel_rfl) (by kernel_rfl) (by kernel_rfl) (fun _ _ _ h => h) (Or.inl ⟨by rfl, ?hy6⟩) (by assumption) ?hr6
  case hy6 => ((intro _ hSw; (try dsimp only at hSw); go_simp) <;> with_reducible rfl)
  try simp only [List.getElem_toArray, List.getElem_cons_zero, List.getElem_cons_succ, Act.put, List.setIfInBounds_toArray, List.set_cons_zero, List.set_cons_succ]
  refine wpAnyH_take (i := 6) (v := ?hv7) rfl (by kernel_rfl) (by kernel_rfl) (by kernel_rfl) (fun _ _ _ h => h) (Or.inl ⟨by rfl, ?hy7⟩) (by assumption) ?hr7
  case hy7 => ((intro _ hSw; (try dsimp only at hSw); go_simp) <;> with_reducible rfl)
  try simp only [List.getElem_toArray, List.getElem_cons_zero, List.getElem_cons_succ, Act.put, List.setIfInBounds_toArray, List.set_cons_zero, List.set_cons_succ]
  refine' wpAnyH_take (i := 8) (v := _) rfl (by kernel_rfl) (by kernel_rfl) (by kernel_rfl) (fun _ _ _ h => h) (yieldsIf_load_mid (by rfl) _ _ rfl _ _ rfl _ _ ?hS8 ?hu8 ?hd8 ?hi8) (by assumption) ?hr8
  case hS8 => (intro _ hSw; (try dsimp only at hSw); go_split_ands; assumption)
  case hu8 => assumption
  case hd8 => rfl
  case hi8 => (first | assumption | (simp only [*]; done))
  try simp only [List.getElem_toArray, List.getElem_cons_zero, List.getElem_cons_succ, Act.put, List.setIfInBounds_toArray, List.set_cons_zero, List.set_cons_succ]
  refine' wpAnyH_take (i := 12) (v := _) rfl (by kernel_rfl) (by kernel_rfl) (by kernel_rfl) (fun _ _ _ h => h) (yieldsIf_load_mid (by rfl) _ _ rfl _ _ rfl _ _ ?hS9 ?hu9 ?hd9 ?hi9) (by assumption) ?hr9
  case hS9 => (intro _ hSw; (try dsimp only at hSw); go_split_ands; assumption)
  case hu9 => assumption
  case hd9 => rfl
  case hi9 => (first | assumption | (simp only [*]; done))
  try simp only [List.getElem_toArray, List.getElem_cons_zero, List.getElem_cons_succ, Act.put, List.setIfInBounds_toArray, List.set_cons_zero, List.set_cons_succ]
  refine' wpAnyH_take (i := 13) (v := _) rfl (by kernel_rfl) (by kernel_rfl) (by kernel_rfl) (fun _ _ _ h => h) (yieldsIf_load_mid (by rfl) _ _ rfl _ _ rfl _ _ ?hS10 ?hu10 ?hd10 ?hi10) (by assumption) ?hr10
  case hS10 => (intro _ hSw; (try dsimp only at hSw); go_split_ands; assumption)
  case hu10 => assumption
  case hd10 => rfl
  case hi10 => (first | assumption | (simp only [*]; done))
  try simp only [List.getElem_toArray, List.getElem_cons_zero, List.getElem_cons_succ, Act.put, List.setIfInBounds_toArray, List.set_cons_zero, List.set_cons_succ]
  refine wpAnyH_take (i := 7) (v := ?hv11) rfl (by kernel_rfl) (by kernel_rfl) (by kernel_rfl) (fun _ _ _ h => h) (Or.inl ⟨by rfl, ?hy11⟩) (by assumption) ?hr11
  case hy11 => ((intro _ hSw; (try dsimp only at hSw); go_simp) <;> with_reducible rfl)
  try simp only [List.getElem_toArray, List.getElem_cons_zero, List.getElem_cons_succ, Act.put, List.setIfInBounds_toArray, List.set_cons_zero, List.set_cons_succ]
  refine wpAnyH_take (i := 9) (v := ?hv12) rfl (by kernel_rfl) (by kernel_rfl) (by kernel_rfl) (fun _ _ _ h => h) (Or.inl ⟨by rfl, ?hy12⟩) (by assumption) ?hr12
  case hy12 => ((intro _ hSw; (try dsimp only at hSw); go_simp) <;> with_reducible rfl)
  try simp only [List.getElem_toArray, List.getElem_cons_zero, List.getElem_cons_succ, Act.put, List.setIfInBounds_toArray, List.set_cons_zero, List.set_cons_succ]
  refine wpAnyH_take (i := 14) (v := ?hv13) rfl (by kernel_rfl) (by kernel_rfl) (by kernel_rfl) (fun _ _ _ h => h) (Or.inl ⟨by rfl, ?hy13⟩) (by assumption) ?hr13
  case hy13 => ((intro _ hSw; (try dsimp only at hSw); go_simp) <;> with_reducible rfl)
  try simp only [List.getElem_toArray, List.getElem_cons_zero, List.getElem_cons_succ, Act.put, List.setIfInBounds_toArray, List.set_cons_zero, List.set_cons_succ]
  refine wpAnyH_ready (rs := [10]) (by kernel_rfl) (by simp) (AllReadyH.cons rfl (fun K hK => ?_) AllReadyH.nil)
  go_simp
  refine (hT.out _ hHeld.1).mono ?_; rintro r wa2 ⟨A1, c1, rfl, ba, ea⟩; have hcur := hHeld.1.trans (ea.mono hHeld.1.size); obtain ⟨_, _, he1, -, -, -, ra⟩ := Own.of_row ba; cases he1
  go_wp2_with fail
  clear hHeld
  refine hK.out _ _ ?hS14 (fun hHeld => ?_)
  case hS14 => exact hSS _ hcur
  clear hK K
  try simp only [List.getElem_toArray, List.getElem_cons_zero, List.getElem_cons_succ, Act.put, List.setIfInBounds_toArray, List.set_cons_zero, List.set_cons_succ]
  refine wpAnyH_ready (rs := [11]) (by kernel_rfl) (by simp) (AllReadyH.cons rfl (fun K hK => ?_) AllReadyH.nil)
  go_simp
  refine (hVy.out _ _ _ hHeld.1 ra.rd).mono ?_; rintro r w5 ⟨rfl, ea⟩; have hcur := hHeld.1.trans (ea.mono hHeld.1.size); clear ba ra
  go_wp2_with fail
  clear hHeld
  refine hK.out _ _ ?hS15 (fun hHeld => ?_)
  case hS15 => exact hSS _ hcur
  clear hK K
  try simp only [List.getElem_toArray, List.getElem_cons_zero, List.getElem_cons_succ, Act.put, List.setIfInBounds_toArray, List.set_cons_zero, List.set_cons_succ]
  refine wpAnyH_take (i := 15) (v := ?hv16) rfl (by kernel_rfl) (by kernel_rfl) (by kernel_rfl) (fun _ _ _ h => h) (Or.inl ⟨by rfl, ?hy16⟩) (by assumption) ?hr16
  case hy16 => ((intro _ hSw; (try dsimp only at hSw); go_simp) <;> with_reducible rfl)
  try simp only [List.getElem_toArray, List.getElem_cons_zero, List.getElem_cons_succ, Act.put, List.setIfInBounds_toArray, List.set_cons_zero, List.set_cons_succ]
  refine wpAnyH_take (i := 16) (v := ?hv17) rfl (by kernel_rfl) (by kernel_rfl) (by kernel_rfl) (fun _ _ _ h => h) (Or.inl ⟨by rfl, ?hy17⟩) (by assumption) ?hr17
  case hy17 => ((intro _ hSw; (try dsimp only at hSw); go_simp) <;> with_reducible rfl)
  try simp only [List.getElem_toArray, List.getElem_cons_zero, List.getElem_cons_succ, Act.put, List.setIfInBounds_toArray, List.set_cons_zero, List.set_cons_succ]
  refine wpAnyH_done (by kernel_rfl) ?_ _
  have hd5 : Below w4.heap.size w4 w5.drew := below_drewN hcur 1
  go_wp2_with fail
  have hTm : Hid (∀ W, Below w4.heap.size w4 W → ms.length ≤ 70000 → Calls Try.prog 44 #[.slice M ms.length cm] W (fun r w' => ∃ A' c', r = .returned (.slice A' ms.length c') ∧ w'.ownsRow W.heap.size 5 1 (.slice A' ms.length c') ms.length (ints .u8 ms) ∧ Below W.heap.size W w')) := fun W h hl => twin06_own M ms.length cm ms W rfl hl (hM4.below h)
  have hRm : Hid (∀ W, Below w4.heap.size w4 W → Rd .u8 W M ms) := fun W h => hM4.below h
  have hRs : Hid (∀ W, Below w4.heap.size w4 W → Rd .u8 W (some ⟨bB, ob, none⟩) (forSig xs)) := fun W h => oB.below h
  clear hM4 oA oB hE
  go_cut [56] from 31 to 56 (fun s wx => s = .bool false ∧ Below w4.heap.size w4 wx)
  case first =>
    by_cases h0 : 0 < ms.length
    · have g1 : decide ((0 : Int) < (ms.length : Int)) = true := by simp; omega
      by_cases h1 : ms.length < 1024
      · have g2 : decide ((ms.length : Int) < 1024) = true := by simp; omega
        have hl1 : (forSig xs ++ ms).length = 256 + ms.length := by rw [List.length_append, hsl]
        have hl2 : (ms ++ forSig xs).length = ms.length + 256 := by rw [List.length_append, hsl]
        have HL1 := Lib.hid hl1
        have HL2 := Lib.hid hl2
        have HS := Lib.hid hsl
        have HK := Lib.hid hkl
        clear hl1 hl2 hsl hkl
        refine wp_region_held_drew (S := fun W => Below w4.heap.size w4 W ∧ W.cell? ⟨w3.heap.size, 0, none⟩ = some (.slice A 256 c) ∧ W.cell? ⟨w3.heap.size, 1, none⟩ = some (.int .u64 3) ∧ W.rangeAt w.heap.size 0 (ints .u8 xs) ∧ W.rangeAt (w.heap.size + 1) 0 (ints .u8 ys)) (by kernel_rfl) (hSS _ hd5) (fun hHeld => ?_)
        refine wpAnyH_take (i := 0) (v := ?hv18) rfl (by kernel_rfl) (by kernel_rfl) (by kernel_rfl) (fun _ _ _ h => h) (Or.inl ⟨by rfl, ?hy18⟩) (by assumption) ?hr18
        case hy18 => ((intro _ hSw; (try dsimp only at hSw); go_simp) <;> with_reducible rfl)
        try simp only [List.getElem_toArray, List.getElem_cons_zero, List.getElem_cons_succ, Act.put, List.setIfInBounds_toArray, List.set_cons_zero, List.set_cons_succ]
        refine wpAnyH_take (i := 1) (v := ?hv19) rfl (by kernel_rfl) (by kernel_rfl) (by kernel_rfl) (fun _ _ _ h => h) (Or.inl ⟨by rfl, ?hy19⟩) (by assumption) ?hr19
        case hy19 => ((intro _ hSw; (try dsimp only at hSw); go_simp) <;> with_reducible rfl)
        try simp only [List.getElem_toArray, List.getElem_cons_zero, List.getElem_cons_succ, Act.put, List.setIfInBounds_toArray, List.set_cons_zero, List.set_cons_succ]
        refine wpAnyH_take (i := 2) (v := ?hv20) rfl (by kernel_rfl) (by kernel_rfl) (by kernel_rfl) (fun _ _ _ h => h) (Or.inl ⟨by rfl, ?hy20⟩) (by assumption) ?hr20
        case hy20 => ((intro _ hSw; (try dsimp only at hSw); go_simp) <;> with_reducible rfl)
        try simp only [List.getElem_toArray, List.getElem_cons_zero, List.getElem_cons_succ, Act.put, List.setIfInBounds_toArray, List.set_cons_zero, List.set_cons_succ]
        refine wpAnyH_take (i := 3) (v := ?hv21) rfl (by kernel_rfl) (by kernel_rfl) (by kernel_rfl) (fun _ _ _ h => h) (Or.inl ⟨by rfl, ?hy21⟩) (by assumption) ?hr21
        case hy21 => ((intro _ hSw; (try dsimp only at hSw); go_simp) <;> with_reducible rfl)
        try simp only [List.getElem_toArray, List.getElem_cons_zero, List.getElem_cons_succ, Act.put, List.setIfInBounds_toArray, List.set_cons_zero, List.set_cons_succ]
        refine wpAnyH_take (i := 4) (v := ?hv22) rfl (by kernel_rfl) (by kernel_rfl) (by kernel_rfl) (fun _ _ _ h => h) (Or.inl ⟨by rfl, ?hy22⟩) (by assumption) ?hr22
        case hy22 => ((intro _ hSw; (try dsimp only at hSw); go_simp) <;> with_reducible rfl)
        try simp only [List.getElem_toArray, List.getElem_cons_zero, List.getElem_cons_succ, Act.put, List.setIfInBounds_toArray, List.set_cons_zero, List.set_cons_succ]
        refine wpAnyH_take (i := 5) (v := ?hv23) rfl (by kernel_rfl) (by kernel_rfl) (by kernel_rfl) (fun _ _ _ h => h) (Or.inl ⟨by rfl, ?hy23⟩) (by assumption) ?hr23
        case hy23 => ((intro _ hSw; (try dsimp only at hSw); go_simp) <;> with_reducible rfl)
        try simp only [List.getElem_toArray, List.getElem_cons_zero, List.getElem_cons_succ, Act.put, List.setIfInBounds_toArray, List.set_cons_zero, List.set_cons_succ]
        refine wpAnyH_take (i := 6) (v := ?hv24) rfl (by kernel_rfl) (by kernel_rfl) (by kernel_rfl) (fun _ _ _ h => h) (Or.inl ⟨by rfl, ?hy24⟩) (by assumption) ?hr24
        case hy24 => ((intro _ hSw; (try dsimp only at hSw); go_simp) <;> with_reducible rfl)
        try simp only [List.getElem_toArray, List.getElem_cons_zero, List.getElem_cons_succ, Act.put, List.setIfInBounds_toArray, List.set_cons_zero, List.set_cons_succ]
        refine wpAnyH_take (i := 7) (v := ?hv25) rfl (by kernel_rfl) (by kernel_rfl) (by kernel_rfl) (fun _ _ _ h => h) (Or.inl ⟨by rfl, ?hy25⟩) (by assumption) ?hr25
        case hy25 => ((intro _ hSw; (try dsimp only at hSw); go_simp) <;> with_reducible rfl)
        try simp only [List.getElem_toArray, List.getElem_cons_zero, List.getElem_cons_succ, Act.put, List.setIfInBounds_toArray, List.set_cons_zero, List.set_cons_succ]
        refine wpAnyH_take (i := 8) (v := ?hv26) rfl (by kernel_rfl) (by kernel_rfl) (by kernel_rfl) (fun _ _ _ h => h) (Or.inl ⟨by rfl, ?hy26⟩) (by assumption) ?hr26
        case hy26 => ((intro _ hSw; (try dsimp only at hSw); go_simp) <;> with_reducible rfl)
        try simp only [List.getElem_toArray, List.getElem_cons_zero, List.getElem_cons_succ, Act.put, List.setIfInBounds_toArray, List.set_cons_zero, List.set_cons_succ]
        refine' wpAnyH_take (i := 10) (v := _) rfl (by kernel_rfl) (by kernel_rfl) (by kernel_rfl) (fun _ _ _ h => h) (yieldsIf_load_mid (by rfl) _ _ rfl _ _ rfl _ _ ?hS27 ?hu27 ?hd27 ?hi27) (by assumption) ?hr27
        case hS27 => (intro _ hSw; (try dsimp only at hSw); go_split_ands; assumption)
        case hu27 => assumption
        case hd27 => rfl
        case hi27 => (first | assumption | (simp only [*]; done))
        try simp only [List.getElem_toArray, List.getElem_cons_zero, List.getElem_cons_succ, Act.put, List.setIfInBounds_toArray, List.set_cons_zero, List.set_cons_succ]
        refine wpAnyH_take (i := 9) (v := ?hv28) rfl (by kernel_rfl) (by kernel_rfl) (by kernel_rfl) (fun _ _ _ h => h) (Or.inl ⟨by rfl, ?hy28⟩) (by assumption) ?hr28
        case hy28 => ((intro _ hSw; (try dsimp only at hSw); go_simp) <;> with_reducible rfl)
        try simp only [List.getElem_toArray, List.getElem_cons_zero, List.getElem_cons_succ, Act.put, List.setIfInBounds_toArray, List.set_cons_zero, List.set_cons_succ]
        refine wpAnyH_take (i := 11) (v := ?hv29) rfl (by kernel_rfl) (by kernel_rfl) (by kernel_rfl) (fun _ _ _ h => h) (Or.inl ⟨by rfl, ?hy29⟩) (by assumption) ?hr29
        case hy29 => ((intro _ hSw; (try dsimp only at hSw); go_simp) <;> with_reducible rfl)
        try simp only [List.getElem_toArray, List.getElem_cons_zero, List.getElem_cons_succ, Act.put, List.setIfInBounds_toArray, List.set_cons_zero, List.set_cons_succ]
        refine wpAnyH_take (i := 13) (v := ?hv30) rfl (by kernel_rfl) (by kernel_rfl) (by kernel_rfl) (fun _ _ _ h => h) (Or.inl ⟨by rfl, ?hy30⟩) (by assumption) ?hr30
        case hy30 => ((intro _ hSw; (try dsimp only at hSw); go_simp) <;> with_reducible rfl)
        try simp only [List.getElem_toArray, List.getElem_cons_zero, List.getElem_cons_succ, Act.put, List.setIfInBounds_toArray, List.set_cons_zero, List.set_cons_succ]
        refine wpAnyH_ready (rs := [12]) (by kernel_rfl) (by simp) (AllReadyH.cons rfl (fun K hK => ?_) AllReadyH.nil)
        go_simp
        refine (hT.out _ hHeld.1).mono ?_; rintro r wa ⟨A1, c1, rfl, ba, ea⟩; have hcur := hHeld.1.trans (ea.mono hHeld.1.size)
        go_wp2_with fail
        clear hHeld
        refine hK.out _ _ ?hS31 (fun hHeld => ?_)
        case hS31 => exact hSS _ hcur
        clear hK K
        try simp only [List.getElem_toArray, List.getElem_cons_zero, List.getElem_cons_succ, Act.put, List.setIfInBounds_toArray, List.set_cons_zero, List.set_cons_succ]
        refine wpAnyH_ready (rs := [14]) (by kernel_rfl) (by simp) (AllReadyH.cons rfl (fun K hK => ?_) AllReadyH.nil)
        refine step_append_g (by kernel_rfl) (.tmp 43) (.tmp 44) 50 (by kernel_rfl) w5.drew.heap.size 5 .u8 1 Try.underlying50 info_u8 (.slice A1 256 c1) 256 (forSig xs) (by kernel_rfl) ba M ms.length cm ms (by kernel_rfl) rfl (hRm.out _ hHeld.1) (by simp only [maxLen]; omega) (by omega) ea.size ?_; intro A2 c2 wb bb gb; have hcur := hHeld.1.grown gb hHeld.1.size (fun k hk => Nat.le_trans hd5.size (ba.lt k hk).1); obtain ⟨_, _, he1, -, -, -, ra⟩ := Own.of_row bb; cases he1; clear ba bb gb ea
        clear hHeld
        refine hK.out _ _ ?hS32 (fun hHeld => ?_)
        case hS32 => exact hSS _ hcur
        clear hK K
        try simp only [List.getElem_toArray, List.getElem_cons_zero, List.getElem_cons_succ, Act.put, List.setIfInBounds_toArray, List.set_cons_zero, List.set_cons_succ]
        refine wpAnyH_ready (rs := [15]) (by kernel_rfl) (by simp) (AllReadyH.cons rfl (fun K hK => ?_) AllReadyH.nil)
        go_simp
        refine (hVn.out _ _ _ (256 + ms.length) (forSig xs ++ ms) hHeld.1 ra.rd ((forSig_lim xs).append lM) HL1.out.symm (by omega) (by omega)).mono ?_; rintro r wd ⟨rfl, ea⟩; have hcur := hHeld.1.trans (ea.mono hHeld.1.size); clear ra ea
        go_wp2_with fail
        clear hHeld
        refine hK.out _ _ ?hS33 (fun hHeld => ?_)
        case hS33 => exact hSS _ hcur
        clear hK K
        try simp only [List.getElem_toArray, List.getElem_cons_zero, List.getElem_cons_succ, Act.put, List.setIfInBounds_toArray, List.set_cons_zero, List.set_cons_succ]
        refine wpAnyH_take (i := 16) (v := ?hv34) rfl (by kernel_rfl) (by kernel_rfl) (by kernel_rfl) (fun _ _ _ h => h) (Or.inl ⟨by rfl, ?hy34⟩) (by assumption) ?hr34
        case hy34 => ((intro _ hSw; (try dsimp only at hSw); go_simp) <;> with_reducible rfl)
        try simp only [List.getElem_toArray, List.getElem_cons_zero, List.getElem_cons_succ, Act.put, List.setIfInBounds_toArray, List.set_cons_zero, List.set_cons_succ]
        refine' wpAnyH_take (i := 18) (v := _) rfl (by kernel_rfl) (by kernel_rfl) (by kernel_rfl) (fun _ _ _ h => h) (yieldsIf_load_mid (by rfl) _ _ rfl _ _ rfl _ _ ?hS35 ?hu35 ?hd35 ?hi35) (by assumption) ?hr35
        case hS35 => (intro _ hSw; (try dsimp only at hSw); go_split_ands; assumption)
        case hu35 => assumption
        case hd35 => rfl
        case hi35 => (first | assumption | (simp only [*]; done))
        try simp only [List.getElem_toArray, List.getElem_cons_zero, List.getElem_cons_succ, Act.put, List.setIfInBounds_toArray, List.set_cons_zero, List.set_cons_succ]
        refine wpAnyH_take (i := 17) (v := ?hv36) rfl (by kernel_rfl) (by kernel_rfl) (by kernel_rfl) (fun _ _ _ h => h) (Or.inl ⟨by rfl, ?hy36⟩) (by assumption) ?hr36
        case hy36 => ((intro _ hSw; (try dsimp only at hSw); go_simp) <;> with_reducible rfl)
        try simp only [List.getElem_toArray, List.getElem_cons_zero, List.getElem_cons_succ, Act.put, List.setIfInBounds_toArray, List.set_cons_zero, List.set_cons_succ]
        refine wpAnyH_take (i := 19) (v := ?hv37) rfl (by kernel_rfl) (by kernel_rfl) (by kernel_rfl) (fun _ _ _ h => h) (Or.inl ⟨by rfl, ?hy37⟩) (by assumption) ?hr37
        case hy37 => ((intro _ hSw; (try dsimp only at hSw); go_simp) <;> with_reducible rfl)
        try simp only [List.getElem_toArray, List.getElem_cons_zero, List.getElem_cons_succ, Act.put, List.setIfInBounds_toArray, List.set_cons_zero, List.set_cons_succ]
        refine wpAnyH_take (i := 21) (v := ?hv38) rfl (by kernel_rfl) (by kernel_rfl) (by kernel_rfl) (fun _ _ _ h => h) (Or.inl ⟨by rfl, ?hy38⟩) (by assumption) ?hr38
        case hy38 => ((intro _ hSw; (try dsimp only at hSw); go_simp) <;> with_reducible rfl)
        try simp only [List.getElem_toArray, List.getElem_cons_zero, List.getElem_cons_succ, Act.put, List.setIfInBounds_toArray, List.set_cons_zero, List.set_cons_succ]
        refine wpAnyH_ready (rs := [20]) (by kernel_rfl) (by simp) (AllReadyH.cons rfl (fun K hK => ?_) AllReadyH.nil)
        go_simp
        have hbs := hHeld.1.size; refine (hTm.out _ hHeld.1 (by omega)).mono ?_; rintro r we ⟨A3, c3, rfl, ba, ea⟩; have hcur := hHeld.1.trans (ea.mono hHeld.1.size)
        go_wp2_with fail
        clear hHeld
        refine hK.out _ _ ?hS39 (fun hHeld => ?_)
        case hS39 => exact hSS _ hcur
        clear hK K
        try simp only [List.getElem_toArray, List.getElem_cons_zero, List.getElem_cons_succ, Act.put, List.setIfInBounds_toArray, List.set_cons_zero, List.set_cons_succ]
        refine wpAnyH_ready (rs := [22]) (by kernel_rfl) (by simp) (AllReadyH.cons rfl (fun K hK => ?_) AllReadyH.nil)
        refine step_append_g (by kernel_rfl) (.tmp 51) (.tmp 52) 50 (by kernel_rfl) wd.heap.size 5 .u8 1 Try.underlying50 info_u8 (.slice A3 ms.length c3) ms.length ms (by kernel_rfl) ba (some ⟨bB, ob, none⟩) 256 d (forSig xs) (by kernel_rfl) HS.out.symm (hRs.out _ hHeld.1) (by simp only [maxLen]; omega) (by omega) ea.size ?_; intro A4 c4 wf bb gb; have hcur := hHeld.1.grown gb hHeld.1.size (fun k hk => Nat.le_trans hbs (ba.lt k hk).1); obtain ⟨_, _, he1, -, -, -, ra⟩ := Own.of_row bb; cases he1; clear ba bb gb ea
        clear hHeld
        refine hK.out _ _ ?hS40 (fun hHeld => ?_)
        case hS40 => exact hSS _ hcur
        clear hK K
        try simp only [List.getElem_toArray, List.getElem_cons_zero, List.getElem_cons_succ, Act.put, List.setIfInBounds_toArray, List.set_cons_zero, List.set_cons_succ]
        refine wpAnyH_ready (rs := [23]) (by kernel_rfl) (by simp) (AllReadyH.cons rfl (fun K hK => ?_) AllReadyH.nil)
        go_simp
        refine (hVn.out _ _ _ (ms.length + 256) (ms ++ forSig xs) hHeld.1 ra.rd (lM.append (forSig_lim xs)) HL2.out.symm (by omega) (by omega)).mono ?_; rintro r wg ⟨rfl, ea⟩; have hcur := hHeld.1.trans (ea.mono hHeld.1.size); clear ra ea
        go_wp2_with fail
        clear hHeld
        refine hK.out _ _ ?hS41 (fun hHeld => ?_)
        case hS41 => exact hSS _ hcur
        clear hK K
        try simp only [List.getElem_toArray, List.getElem_cons_zero, List.getElem_cons_succ, Act.put, List.setIfInBounds_toArray, List.set_cons_zero, List.set_cons_succ]
        refine wpAnyH_take (i := 24) (v := ?hv42) rfl (by kernel_rfl) (by kernel_rfl) (by kernel_rfl) (fun _ _ _ h => h) (Or.inl ⟨by rfl, ?hy42⟩) (by assumption) ?hr42
        case hy42 => ((intro _ hSw; (try dsimp only at hSw); go_simp) <;> with_reducible rfl)
        try simp only [List.getElem_toArray, List.getElem_cons_zero, List.getElem_cons_succ, Act.put, List.setIfInBounds_toArray, List.set_cons_zero, List.set_cons_succ]
        refine wpAnyH_take (i := 25) (v := ?hv43) rfl (by kernel_rfl) (by kernel_rfl) (by kernel_rfl) (fun _ _ _ h => h) (Or.inl ⟨by rfl, ?hy43⟩) (by assumption) ?hr43
        case hy43 => ((intro _ hSw; (try dsimp only at hSw); go_simp) <;> with_reducible rfl)
        try simp only [List.getElem_toArray, List.getElem_cons_zero, List.getElem_cons_succ, Act.put, List.setIfInBounds_toArray, List.set_cons_zero, List.set_cons_succ]
        refine wpAnyH_done (by kernel_rfl) ?_ _
        go_wp2_with fail
        go_meet
        exact ⟨rfl, hcur⟩
      · have g2 : decide ((ms.length : Int) < 1024) = false := by simp; omega
        go_quiet (fail)
        go_wp2
        go_meet
        exact ⟨rfl, below_drewN hcur _⟩
    · have g1 : decide ((0 : Int) < (ms.length : Int)) = false := decide_eq_false (by omega)
      go_quiet (fail)
      go_wp2
      go_meet
      exact ⟨rfl, below_drewN hcur _⟩
  case rest =>
    obtain ⟨rfl, hcu⟩ := hcut
    obtain ⟨w7, rfl⟩ : ∃ w7, w7 = wc := ⟨wc, rfl⟩
    have hd7 : Below w4.heap.size w4 w7.drew := below_drewN hcu 1
    have q1 : (1 : Int) ≤ (d : Int) := by omega
    have q2 : (256 : Int) ≤ (d : Int) := by omega
    have q3 : ¬ d = 1 := by omega
    have hdl : ((forSig xs).drop 1).length = 255 := by rw [List.length_drop, hsl]
    have HD := Lib.hid hdl
    clear hdl hsl hkl
    go_wp2_with fail
    refine wp_region_held_drew (S := fun W => Below w4.heap.size w4 W ∧ W.cell? ⟨w3.heap.size, 0, none⟩ = some (.slice A 256 c) ∧ W.cell? ⟨w3.heap.size, 1, none⟩ = some (.int .u64 3) ∧ W.rangeAt w.heap.size 0 (ints .u8 xs) ∧ W.rangeAt (w.heap.size + 1) 0 (ints .u8 ys)) (by kernel_rfl) (hSS _ hd7) (fun hHeld => ?_)
    refine' wpAnyH_take (i := 1) (v := _) rfl (by kernel_rfl) (by kernel_rfl) (by kernel_rfl) (fun _ _ _ h => h) (yieldsIf_load_mid (by rfl) _ _ rfl _ _ rfl _ _ ?hS44 ?hu44 ?hd44 ?hi44) (by assumption) ?hr44
    case hS44 => (intro _ hSw; (try dsimp only at hSw); go_split_ands; assumption)
    case hu44 => assumption
    case hd44 => rfl
    case hi44 => (first | assumption | (simp only [*]; done))
    try simp only [List.getElem_toArray, List.getElem_cons_zero, List.getElem_cons_succ, Act.put, List.setIfInBounds_toArray, List.set_cons_zero, List.set_cons_succ]
    refine wpAnyH_take (i := 0) (v := ?hv45) rfl (by kernel_rfl) (by kernel_rfl) (by kernel_rfl) (fun _ _ _ h => h) (Or.inl ⟨by rfl, ?hy45⟩) (by assumption) ?hr45
    case hy45 => ((intro _ hSw; (try dsimp only at hSw); go_simp) <;> with_reducible rfl)
    try simp only [List.getElem_toArray, List.getElem_cons_zero, List.getElem_cons_succ, Act.put, List.setIfInBounds_toArray, List.set_cons_zero, List.set_cons_succ]
    refine wpAnyH_take (i := 2) (v := ?hv46) rfl (by kernel_rfl) (by kernel_rfl) (by kernel_rfl) (fun _ _ _ h => h) (Or.inl ⟨by rfl, ?hy46⟩) (by assumption) ?hr46
    case hy46 => ((intro _ hSw; (try dsimp only at hSw); go_simp) <;> with_reducible rfl)
    try simp only [List.getElem_toArray, List.getElem_cons_zero, List.getElem_cons_succ, Act.put, List.setIfInBounds_toArray, List.set_cons_zero, List.set_cons_succ]
    refine wpAnyH_take (i := 3) (v := ?hv47) rfl (by kernel_rfl) (by kernel_rfl) (by kernel_rfl) (fun _ _ _ h => h) (Or.inl ⟨by rfl, ?hy47⟩) (by assumption) ?hr47
    case hy47 => ((intro _ hSw; (try dsimp only at hSw); go_simp) <;> with_reducible rfl)
    try simp only [List.getElem_toArray, List.getElem_cons_zero, List.getElem_cons_succ, Act.put, List.setIfInBounds_toArray, List.set_cons_zero, List.set_cons_succ]
    refine wpAnyH_ready (rs := [4]) (by kernel_rfl) (by simp) (AllReadyH.cons rfl (fun K hK => ?_) AllReadyH.nil)
    go_simp
    refine (hVn.out _ _ _ 255 ((forSig xs).drop 1) hHeld.1 (rd_drop (hRs.out _ hHeld.1) 1) ((forSig_lim xs).drop 1) HD.out.symm (by omega) (by omega)).mono ?_; rintro r wa ⟨rfl, ea⟩; have hcur := hHeld.1.trans (ea.mono hHeld.1.size)
    go_wp2_with fail
    clear hHeld
    refine hK.out _ _ ?hS48 (fun hHeld => ?_)
    case hS48 => exact hSS _ hcur
    clear hK K
    try simp only [List.getElem_toArray, List.getElem_cons_zero, List.getElem_cons_succ, Act.put, List.setIfInBounds_toArray, List.set_cons_zero, List.set_cons_succ]
    refine wpAnyH_take (i := 5) (v := ?hv49) rfl (by kernel_rfl) (by kernel_rfl) (by kernel_rfl) (fun _ _ _ h => h) (Or.inl ⟨by rfl, ?hy49⟩) (by assumption) ?hr49
    case hy49 => ((intro _ hSw; (try dsimp only at hSw); go_simp) <;> with_reducible rfl)
    try simp only [List.getElem_toArray, List.getElem_cons_zero, List.getElem_cons_succ, Act.put, List.setIfInBounds_toArray, List.set_cons_zero, List.set_cons_succ]
    refine wpAnyH_take (i := 6) (v := ?hv50) rfl (by kernel_rfl) (by kernel_rfl) (by kernel_rfl) (fun _ _ _ h => h) (Or.inl ⟨by rfl, ?hy50⟩) (by assumption) ?hr50
    case hy50 => ((intro _ hSw; (try dsimp only at hSw); go_simp) <;> with_reducible rfl)
    try simp only [List.getElem_toArray, List.getElem_cons_zero, List.getElem_cons_succ, Act.put, List.setIfInBounds_toArray, List.set_cons_zero, List.set_cons_succ]
    refine' wpAnyH_take (i := 8) (v := _) rfl (by kernel_rfl) (by kernel_rfl) (by kernel_rfl) (fun _ _ _ h => h) (yieldsIf_load_mid (by rfl) _ _ rfl _ _ rfl _ _ ?hS51 ?hu51 ?hd51 ?hi51) (by assumption) ?hr51
    case hS51 => (intro _ hSw; (try dsimp only at hSw); go_split_ands; assumption)
    case hu51 => assumption
    case hd51 => rfl
    case hi51 => (first | assumption | (simp only [*]; done))
    try simp only [List.getElem_toArray, List.getElem_cons_zero, List.getElem_cons_succ, Act.put, List.setIfInBounds_toArray, List.set_cons_zero, List.set_cons_succ]
    refine wpAnyH_take (i := 7) (v := ?hv52) rfl (by kernel_rfl) (by kernel_rfl) (by kernel_rfl) (fun _ _ _ h => h) (Or.inl ⟨by rfl, ?hy52⟩) (by assumption) ?hr52
    case hy52 => ((intro _ hSw; (try dsimp only at hSw); go_simp) <;> with_reducible rfl)
    try simp only [List.getElem_toArray, List.getElem_cons_zero, List.getElem_cons_succ, Act.put, List.setIfInBounds_toArray, List.set_cons_zero, List.set_cons_succ]
    refine wpAnyH_ready (rs := [9]) (by kernel_rfl) (by simp) (AllReadyH.cons rfl (fun K hK => ?_) AllReadyH.nil)
    go_simp
    refine (hVn.out _ _ _ 0 [] hHeld.1 (Rd.nil _ _ _) (Lim.nil _) rfl (by omega) (by omega)).mono ?_; rintro r wb ⟨rfl, ea⟩; have hcur := hHeld.1.trans (ea.mono hHeld.1.size)
    go_wp2_with fail
    clear hHeld
    refine hK.out _ _ ?hS53 (fun hHeld => ?_)
    case hS53 => exact hSS _ hcur
    clear hK K
    try simp only [List.getElem_toArray, List.getElem_cons_zero, List.getElem_cons_succ, Act.put, List.setIfInBounds_toArray, List.set_cons_zero, List.set_cons_succ]
    refine wpAnyH_take (i := 10) (v := ?hv54) rfl (by kernel_rfl) (by kernel_rfl) (by kernel_rfl) (fun _ _ _ h => h) (Or.inl ⟨by rfl, ?hy54⟩) (by assumption) ?hr54
    case hy54 => ((intro _ hSw; (try dsimp only at hSw); go_simp) <;> with_reducible rfl)
    try simp only [List.getElem_toArray, List.getElem_cons_zero, List.getElem_cons_succ, Act.put, List.setIfInBounds_toArray, List.set_cons_zero, List.set_cons_succ]
    refine wpAnyH_take (i := 11) (v := ?hv55) rfl (by kernel_rfl) (by kernel_rfl) (by kernel_rfl) (fun _ _ _ h => h) (Or.inl ⟨by rfl, ?hy55⟩) (by assumption) ?hr55
    case hy55 => ((intro _ hSw; (try dsimp only at hSw); go_simp) <;> with_reducible rfl)
    try simp only [List.getElem_toArray, List.getElem_cons_zero, List.getElem_cons_succ, Act.put, List.setIfInBounds_toArray, List.set_cons_zero, List.set_cons_succ]
    refine wpAnyH_take (i := 12) (v := ?hv56) rfl (by kernel_rfl) (by kernel_rfl) (by kernel_rfl) (fun _ _ _ h => h) (Or.inl ⟨by rfl, ?hy56⟩) (by assumption) ?hr56
    case hy56 => ((intro _ hSw; (try dsimp only at hSw); go_simp) <;> with_reducible rfl)
    try simp only [List.getElem_toArray, List.getElem_cons_zero, List.getElem_cons_succ, Act.put, List.setIfInBounds_toArray, List.set_cons_zero, List.set_cons_succ]
    refine wpAnyH_take (i := 13) (v := ?hv57) rfl (by kernel_rfl) (by kernel_rfl) (by kernel_rfl) (fun _ _ _ h => h) (Or.inl ⟨by rfl, ?hy57⟩) (by assumption) ?hr57
    case hy57 => ((intro _ hSw; (try dsimp only at hSw); go_simp) <;> with_reducible rfl)
    try simp only [List.getElem_toArray, List.getElem_cons_zero, List.getElem_cons_succ, Act.put, List.setIfInBounds_toArray, List.set_cons_zero, List.set_cons_succ]
    refine wpAnyH_take (i := 14) (v := ?hv58) rfl (by kernel_rfl) (by kernel_rfl) (by kernel_rfl) (fun _ _ _ h => h) (Or.inl ⟨by rfl, ?hy58⟩) (by assumption) ?hr58
    case hy58 => ((intro _ hSw; (try dsimp only at hSw); go_simp) <;> with_reducible rfl)
    try simp only [List.getElem_toArray, List.getElem_cons_zero, List.getElem_cons_succ, Act.put, List.setIfInBounds_toArray, List.set_cons_zero, List.set_cons_succ]
    refine wpAnyH_take (i := 15) (v := ?hv59) rfl (by kernel_rfl) (by kernel_rfl) (by kernel_rfl) (fun _ _ _ h => h) (Or.inl ⟨by rfl, ?hy59⟩) (by assumption) ?hr59
    case hy59 => ((intro _ hSw; (try dsimp only at hSw); go_simp) <;> with_reducible rfl)
    try simp only [List.getElem_toArray, List.getElem_cons_zero, List.getElem_cons_succ, Act.put, List.setIfInBounds_toArray, List.set_cons_zero, List.set_cons_succ]
    refine' wpAnyH_take (i := 16) (v := _) rfl (by kernel_rfl) (by kernel_rfl) (by kernel_rfl) (fun _ _ _ h => h) (yieldsIf_load_mid (by rfl) _ _ rfl _ _ rfl _ _ ?hS60 ?hu60 ?hd60 ?hi60) (by assumption) ?hr60
    case hS60 => (intro _ hSw; (try dsimp only at hSw); go_split_ands; assumption)
    case hu60 => assumption
    case hd60 => rfl
    case hi60 => (first | assumption | (simp only [*]; done))
    try simp only [List.getElem_toArray, List.getElem_cons_zero, List.getElem_cons_succ, Act.put, List.setIfInBounds_toArray, List.set_cons_zero, List.set_cons_succ]
    refine wpAnyH_take (i := 17) (v := ?hv61) rfl (by kernel_rfl) (by kernel_rfl) (by kernel_rfl) (fun _ _ _ h => h) (Or.inl ⟨by rfl, ?hy61⟩) (by assumption) ?hr61
    case hy61 => ((intro _ hSw; (try dsimp only at hSw); go_simp) <;> with_reducible rfl)
    try simp only [List.getElem_toArray, List.getElem_cons_zero, List.getElem_cons_succ, Act.put, List.setIfInBounds_toArray, List.set_cons_zero, List.set_cons_succ]
    refine wpAnyH_ready (rs := [18]) (by kernel_rfl) (by simp) (AllReadyH.cons rfl (fun K hK => ?_) AllReadyH.nil)
    go_simp
    refine (hVw.out _ _ hHeld.1).mono ?_; rintro r wd ⟨rfl, ea⟩; have hcur := hHeld.1.trans (ea.mono hHeld.1.size)
    go_wp2_with fail
    clear hHeld
    refine hK.out _ _ ?hS62 (fun hHeld => ?_)
    case hS62 => exact hSS _ hcur
    clear hK K
    try simp only [List.getElem_toArray, List.getElem_cons_zero, List.getElem_cons_succ, Act.put, List.setIfInBounds_toArray, List.set_cons_zero, List.set_cons_succ]
    refine wpAnyH_take (i := 19) (v := ?hv63) rfl (by kernel_rfl) (by kernel_rfl) (by kernel_rfl) (fun _ _ _ h => h) (Or.inl ⟨by rfl, ?hy63⟩) (by assumption) ?hr63
    case hy63 => ((intro _ hSw; (try dsimp only at hSw); go_simp) <;> with_reducible rfl)
    try simp only [List.getElem_toArray, List.getElem_cons_zero, List.getElem_cons_succ, Act.put, List.setIfInBounds_toArray, List.set_cons_zero, List.set_cons_succ]
    refine wpAnyH_take (i := 20) (v := ?hv64) rfl (by kernel_rfl) (by kernel_rfl) (by kernel_rfl) (fun _ _ _ h => h) (Or.inl ⟨by rfl, ?hy64⟩) (by assumption) ?hr64
    case hy64 => ((intro _ hSw; (try dsimp only at hSw); go_simp) <;> with_reducible rfl)
    try simp only [List.getElem_toArray, List.getElem_cons_zero, List.getElem_cons_succ, Act.put, List.setIfInBounds_toArray, List.set_cons_zero, List.set_cons_succ]
    refine wpAnyH_take (i := 21) (v := ?hv65) rfl (by kernel_rfl) (by kernel_rfl) (by kernel_rfl) (fun _ _ _ h => h) (Or.inl ⟨by rfl, ?hy65⟩) (by assumption) ?hr65
    case hy65 => ((intro _ hSw; (try dsimp only at hSw); go_simp) <;> with_reducible rfl)
    try simp only [List.getElem_toArray, List.getElem_cons_zero, List.getElem_cons_succ, Act.put, List.setIfInBounds_toArray, List.set_cons_zero, List.set_cons_succ]
    refine wpAnyH_ready (rs := [22]) (by kernel_rfl) (by simp) (AllReadyH.cons rfl (fun K hK => ?_) AllReadyH.nil)
    go_simp
    refine (works06_any _).mono ?_; rintro r we ⟨rfl, ea⟩; have hcur := hHeld.1.trans (ea.mono hHeld.1.size)
    go_wp2_with fail
    clear hHeld
    refine hK.out _ _ ?hS66 (fun hHeld => ?_)
    case hS66 => exact hSS _ hcur
    clear hK K
    try simp only [List.getElem_toArray, List.getElem_cons_zero, List.getElem_cons_succ, Act.put, List.setIfInBounds_toArray, List.set_cons_zero, List.set_cons_succ]
    refine wpAnyH_take (i := 23) (v := ?hv67) rfl (by kernel_rfl) (by kernel_rfl) (by kernel_rfl) (fun _ _ _ h => h) (Or.inl ⟨by rfl, ?hy67⟩) (by assumption) ?hr67
    case hy67 => ((intro _ hSw; (try dsimp only at hSw); go_simp) <;> with_reducible rfl)
    try simp only [List.getElem_toArray, List.getElem_cons_zero, List.getElem_cons_succ, Act.put, List.setIfInBounds_toArray, List.set_cons_zero, List.set_cons_succ]
    refine wpAnyH_take (i := 24) (v := ?hv68) rfl (by kernel_rfl) (by kernel_rfl) (by kernel_rfl) (fun _ _ _ h => h) (Or.inl ⟨by rfl, ?hy68⟩) (by assumption) ?hr68
    case hy68 => ((intro _ hSw; (try dsimp only at hSw); go_simp) <;> with_reducible rfl)
    try simp only [List.getElem_toArray, List.getElem_cons_zero, List.getElem_cons_succ, Act.put, List.setIfInBounds_toArray, List.set_cons_zero, List.set_cons_succ]
    refine wpAnyH_done (by kernel_rfl) ?_ _
    go_wp2_with fail
    go_ret
    exact ⟨rfl, e4.trans (hcur.mono e4.size)⟩
end Go.Proofs.Ytfclpieijbgodaa
