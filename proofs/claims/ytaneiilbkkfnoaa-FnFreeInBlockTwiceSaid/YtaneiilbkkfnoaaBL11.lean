/- The walk of the law FnFreeInBlockTwice. -/
import Derived.Test.YtaneiilbkkfnoaaBP3
import Derived.Test.YtaneiilbkkfnoaaG9
import Derived.Test.YtaneiilbkkfnoaaB8
import Derived.Test.YtaneiilbkkfnoaaBL7
namespace Go.Proofs.Ytaneiilbkkfnoaa
open Go.RowKit

set_option maxHeartbeats 3200000 in
theorem l_FnFreeInBlockTwice (A : Option Addr) (n c : Nat) (w : World) (h : RB w A n) (hc : n ≤ c) :
    Calls Try.prog 10 #[.slice A n c] w fun e w' => e = .returned (.bool true) ∧ Below w.heap.size w w' := by
  by_cases hbig : 1048576 < n
  · go_enter Try.func10, Try.ntmps10
    go_wp2
    go_ret
    exact ⟨rfl, Below.refl _ _⟩
  go_enter Try.func10, Try.ntmps10
  go_wp2_with fail
  refine (c_DrawFreeInBlock _ _ _ _ h hc).mono ?_
  rintro e w1 ⟨ba, bi, fi, si, a, D, d, zs, rfl, hR, ha1, ha2, hd, hlm, hri, B⟩
  have kb := Blk.new w1 26 #[.int .i64 ba, .int .i64 bi, .int .i64 fi, .int .i64 si]
  replace hri := hri.alloc (.cells #[.int .i64 ba, .int .i64 bi, .int .i64 fi, .int .i64 si] 26)
  replace B : Below w.heap.size w (w1.alloc (.cells #[.int .i64 ba, .int .i64 bi, .int .i64 fi, .int .i64 si] 26)) := B.alloc B.size _
  go_wp2_with fail
  refine (c_FreeInBlock _ _ _ _ _ _ _ _ zs _ rfl hri (by omega)).mono ?_
  rintro e w2 ⟨rfl, b⟩
  replace B := Bl.then B b; replace kb := kb.to b; replace hri := hri.to b; clear b
  have j0 := kb.cell 0; have j1 := kb.cell 1; have j2 := kb.cell 2; have j3 := kb.cell 3; simp only [List.getElem?_toArray, List.getElem?_cons_zero, List.getElem?_cons_succ] at j0 j1 j2 j3
  generalize hn : fib ba bi fi si a zs = o
  have HN := Lib.hid hn
  clear hn
  go_wp2_with fail
  refine (c_sFreeInBlock _ _ _ _ _ _ _ _ zs _ rfl hri (by omega)).mono ?_
  rintro e w3 ⟨rfl, b⟩
  replace B := Bl.then B b; replace kb := kb.to b; replace hri := hri.to b; clear b
  clear j0 j1 j2 j3
  have j0 := kb.cell 0; have j1 := kb.cell 1; have j2 := kb.cell 2; have j3 := kb.cell 3; simp only [List.getElem?_toArray, List.getElem?_cons_zero, List.getElem?_cons_succ] at j0 j1 j2 j3
  rw [HN.out]
  by_cases ho : o < 0
  · have t0 : decide (o < 0) = true := by rw [decide_eq_true_eq]; exact ho
    go_wp2_with fail
    refine (c_sFreeInBlock _ _ _ _ _ _ _ _ zs _ rfl hri (by omega)).mono ?_
    rintro e w9 ⟨rfl, b⟩
    rw [HN.out]
    go_wp2
    go_ret
    exact ⟨ret_bool (by simp), Bl.then B b⟩
  have t0 : decide (o < 0) = false := by rw [decide_eq_false_iff_not]; exact ho
  have hown := fib_pos (zs := zs) (a := a) (by rw [HN.out]; exact ho)
  have HT := Lib.hid (fib_twice (zs := zs) hown)
  have hl := fib_len (zs := zs) hown
  have hbd := fib_bd (zs := zs) hown
  have hb := own_bd hown
  rw [HN.out] at HT hl hbd
  have t1 : decide (si ≤ o + zs.length) = true := by rw [decide_eq_true_eq]; omega
  have e1 : IntKind.i64.wrap (o + zs.length) = o + zs.length := IntWalk.i64_in _ (by omega)
  obtain ⟨i0, hi, hz0, hz1, hz2⟩ := info_parts int_info
  go_wp2_with fail
  have k0 : Blk w3.drew w1.heap.size 26 #[.int .i64 ba, .int .i64 bi, .int .i64 fi, .int .i64 si] := kb
  have k1 := k0
  replace B : Below w.heap.size w w3.drew := Bl.drewN B 1
  replace hri : RI w3.drew D zs := hri
  clear j0 j1 j2 j3
  refine wp_region_held_drew (S := (fun w' => w'.cell? ⟨w1.heap.size, 0, none⟩ = some (.int .i64 ba) ∧ w'.cell? ⟨w1.heap.size, 1, none⟩ = some (.int .i64 bi) ∧ w'.cell? ⟨w1.heap.size, 2, none⟩ = some (.int .i64 fi) ∧ w'.cell? ⟨w1.heap.size, 3, none⟩ = some (.int .i64 si))) (by kernel_rfl) ?_ (fun hHeld => ?_)
  · (try dsimp only); exact ⟨k1.cell 0, k1.cell 1, k1.cell 2, k1.cell 3⟩
  refine wpAnyH_take (i := 0) (v := ?_) (arr_at rfl) (by kernel_rfl) (by kernel_rfl) (by kernel_rfl) (fun _ _ _ h => h) ?_ (by assumption) ?_
  rotate_left
  · first
    | (refine Or.inr ⟨by rfl, ?_⟩; with_reducible rfl)
    | (refine Or.inl ⟨by rfl, ?_⟩; intro w hSw; (try dsimp only at hSw); go_simp; done)
    | (refine Or.inl ⟨by rfl, ?_⟩; intro w hSw; (try dsimp only at hSw); go_simp; with_reducible rfl)
  try simp only [Act.put, List.setIfInBounds_toArray, List.set_cons_zero, List.set_cons_succ]
  refine wpAnyH_take (i := 1) (v := ?_) (arr_at rfl) (by kernel_rfl) (by kernel_rfl) (by kernel_rfl) (fun _ _ _ h => h) ?_ (by assumption) ?_
  rotate_left
  · first
    | (refine Or.inr ⟨by rfl, ?_⟩; with_reducible rfl)
    | (refine Or.inl ⟨by rfl, ?_⟩; intro w hSw; (try dsimp only at hSw); go_simp; done)
    | (refine Or.inl ⟨by rfl, ?_⟩; intro w hSw; (try dsimp only at hSw); go_simp; with_reducible rfl)
  try simp only [Act.put, List.setIfInBounds_toArray, List.set_cons_zero, List.set_cons_succ]
  refine wpAnyH_take (i := 3) (v := ?_) (arr_at rfl) (by kernel_rfl) (by kernel_rfl) (by kernel_rfl) (fun _ _ _ h => h) ?_ (by assumption) ?_
  rotate_left
  · first
    | (refine Or.inr ⟨by rfl, ?_⟩; with_reducible rfl)
    | (refine Or.inl ⟨by rfl, ?_⟩; intro w hSw; (try dsimp only at hSw); go_simp; done)
    | (refine Or.inl ⟨by rfl, ?_⟩; intro w hSw; (try dsimp only at hSw); go_simp; with_reducible rfl)
  try simp only [Act.put, List.setIfInBounds_toArray, List.set_cons_zero, List.set_cons_succ]
  refine wpAnyH_take (i := 5) (v := ?_) (arr_at rfl) (by kernel_rfl) (by kernel_rfl) (by kernel_rfl) (fun _ _ _ h => h) ?_ (by assumption) ?_
  rotate_left
  · first
    | (refine Or.inr ⟨by rfl, ?_⟩; with_reducible rfl)
    | (refine Or.inl ⟨by rfl, ?_⟩; intro w hSw; (try dsimp only at hSw); go_simp; done)
    | (refine Or.inl ⟨by rfl, ?_⟩; intro w hSw; (try dsimp only at hSw); go_simp; with_reducible rfl)
  try simp only [Act.put, List.setIfInBounds_toArray, List.set_cons_zero, List.set_cons_succ]
  refine wpAnyH_take (i := 8) (v := ?_) (arr_at rfl) (by kernel_rfl) (by kernel_rfl) (by kernel_rfl) (fun _ _ _ h => h) ?_ (by assumption) ?_
  rotate_left
  · first
    | (refine Or.inr ⟨by rfl, ?_⟩; with_reducible rfl)
    | (refine Or.inl ⟨by rfl, ?_⟩; intro w hSw; (try dsimp only at hSw); go_simp; done)
    | (refine Or.inl ⟨by rfl, ?_⟩; intro w hSw; (try dsimp only at hSw); go_simp; with_reducible rfl)
  try simp only [Act.put, List.setIfInBounds_toArray, List.set_cons_zero, List.set_cons_succ]
  refine wpAnyH_ready (rs := [2]) (by kernel_rfl) (by simp) ?_
  refine AllReadyH.cons (arr_at rfl) (fun K hK => ?_) AllReadyH.nil
  go_simp
  have b3 : Below w3.drew.heap.size w3.drew (w3.alloc (.cells #[] 3)).drew := (Below.refl _ _).alloc (Nat.le_refl _) _; replace k1 := k0.to b3; have hO : (w3.alloc (.cells #[] 3)).drew.ownsRow w3.heap.size 3 1 (.slice (some ⟨w3.heap.size, 0, none⟩) 0 0) 0 [] := own_empty (w := w3) (Nat.le_refl _) rfl
  refine hK.out _ _ ?_ (fun hHeld => ?_)
  · (try dsimp only); exact ⟨k1.cell 0, k1.cell 1, k1.cell 2, k1.cell 3⟩
  clear hK K
  try simp only [Act.put, List.setIfInBounds_toArray, List.set_cons_zero, List.set_cons_succ]
  refine wpAnyH_ready (rs := [4]) (by kernel_rfl) (by simp) ?_
  refine AllReadyH.cons (arr_at rfl) (fun K hK => ?_) AllReadyH.nil
  refine wp_append_rd _ _ _ 35 rfl w3.heap.size 3 i0 _ 1 8 Try.underlying35 hi hz0 hz1 hz2 rfl (by omega) _ 0 [] rfl hO D zs.length d (zs.map (Value.int .i64)) rfl (hri.to b3) (by simp) (one_ints zs) (by unfold maxLen; omega) (by omega) b3.size ?_; intro v1 w4 hO1 hg hat; replace b3 := b3.grown hg b3.size (fun k hk => (hO.lt k hk).1); replace k1 := k0.to b3; clear hO hg hat
  refine hK.out _ _ ?_ (fun hHeld => ?_)
  · (try dsimp only); exact ⟨k1.cell 0, k1.cell 1, k1.cell 2, k1.cell 3⟩
  clear hK K
  try simp only [Act.put, List.setIfInBounds_toArray, List.set_cons_zero, List.set_cons_succ]
  refine wpAnyH_ready (rs := [6]) (by kernel_rfl) (by simp) ?_
  refine AllReadyH.cons (arr_at rfl) (fun K hK => ?_) AllReadyH.nil
  refine wp_append_rd _ _ _ 35 rfl w3.heap.size 3 i0 _ 1 8 Try.underlying35 hi hz0 hz1 hz2 rfl (by omega) _ _ _ rfl hO1 D zs.length d (zs.map (Value.int .i64)) rfl (hri.to b3) (by simp) (one_ints zs) (by unfold maxLen; omega) (by omega) b3.size ?_; intro v2 w5 hO2 hg hat; replace b3 := b3.grown hg b3.size (fun k hk => (hO1.lt k hk).1); replace k1 := k0.to b3; clear hO1 hg hat; rw [List.nil_append, ← List.map_append] at hO2; obtain ⟨E, cE, rfl, -, -, -⟩ := own_slice hO2
  refine hK.out _ _ ?_ (fun hHeld => ?_)
  · (try dsimp only); exact ⟨k1.cell 0, k1.cell 1, k1.cell 2, k1.cell 3⟩
  clear hK K
  try simp only [Act.put, List.setIfInBounds_toArray, List.set_cons_zero, List.set_cons_succ]
  refine wpAnyH_ready (rs := [7]) (by kernel_rfl) (by simp) ?_
  refine AllReadyH.cons (arr_at rfl) (fun K hK => ?_) AllReadyH.nil
  go_simp
  go_at_call 30; refine (c_FreeInBlock _ _ _ _ _ _ _ _ (zs ++ zs) _ (by simp) (RI.ofOwn hO2).1 (by omega)).mono ?_; rw [HT.out]; rintro e w' ⟨rfl, hq⟩; clear hO2; replace k1 := k1.to hq; replace b3 := Bl.then b3 hq
  refine hK.out _ _ ?_ (fun hHeld => ?_)
  · (try dsimp only); exact ⟨k1.cell 0, k1.cell 1, k1.cell 2, k1.cell 3⟩
  clear hK K
  try simp only [Act.put, List.setIfInBounds_toArray, List.set_cons_zero, List.set_cons_succ]
  refine wpAnyH_take (i := 9) (v := ?_) (arr_at rfl) (by kernel_rfl) (by kernel_rfl) (by kernel_rfl) (fun _ _ _ h => h) ?_ (by assumption) ?_
  rotate_left
  · first
    | (refine Or.inr ⟨by rfl, ?_⟩; with_reducible rfl)
    | (refine Or.inl ⟨by rfl, ?_⟩; intro w hSw; (try dsimp only at hSw); go_simp; done)
    | (refine Or.inl ⟨by rfl, ?_⟩; intro w hSw; (try dsimp only at hSw); go_simp; with_reducible rfl)
  try simp only [Act.put, List.setIfInBounds_toArray, List.set_cons_zero, List.set_cons_succ]
  refine wpAnyH_take (i := 10) (v := ?_) (arr_at rfl) (by kernel_rfl) (by kernel_rfl) (by kernel_rfl) (fun _ _ _ h => h) ?_ (by assumption) ?_
  rotate_left
  · first
    | (refine Or.inr ⟨by rfl, ?_⟩; with_reducible rfl)
    | (refine Or.inl ⟨by rfl, ?_⟩; intro w hSw; (try dsimp only at hSw); go_simp; done)
    | (refine Or.inl ⟨by rfl, ?_⟩; intro w hSw; (try dsimp only at hSw); go_simp; with_reducible rfl)
  try simp only [Act.put, List.setIfInBounds_toArray, List.set_cons_zero, List.set_cons_succ]
  refine wpAnyH_take (i := 11) (v := ?_) (arr_at rfl) (by kernel_rfl) (by kernel_rfl) (by kernel_rfl) (fun _ _ _ h => h) ?_ (by assumption) ?_
  rotate_left
  · first
    | (refine Or.inr ⟨by rfl, ?_⟩; with_reducible rfl)
    | (refine Or.inl ⟨by rfl, ?_⟩; intro w hSw; (try dsimp only at hSw); go_simp; done)
    | (refine Or.inl ⟨by rfl, ?_⟩; intro w hSw; (try dsimp only at hSw); go_simp; with_reducible rfl)
  try simp only [Act.put, List.setIfInBounds_toArray, List.set_cons_zero, List.set_cons_succ]
  refine wpAnyH_take (i := 12) (v := ?_) (arr_at rfl) (by kernel_rfl) (by kernel_rfl) (by kernel_rfl) (fun _ _ _ h => h) ?_ (by assumption) ?_
  rotate_left
  · first
    | (refine Or.inr ⟨by rfl, ?_⟩; with_reducible rfl)
    | (refine Or.inl ⟨by rfl, ?_⟩; intro w hSw; (try dsimp only at hSw); go_simp; done)
    | (refine Or.inl ⟨by rfl, ?_⟩; intro w hSw; (try dsimp only at hSw); go_simp; with_reducible rfl)
  try simp only [Act.put, List.setIfInBounds_toArray, List.set_cons_zero, List.set_cons_succ]
  refine wpAnyH_take (i := 13) (v := ?_) (arr_at rfl) (by kernel_rfl) (by kernel_rfl) (by kernel_rfl) (fun _ _ _ h => h) ?_ (by assumption) ?_
  rotate_left
  · first
    | (refine Or.inr ⟨by rfl, ?_⟩; with_reducible rfl)
    | (refine Or.inl ⟨by rfl, ?_⟩; intro w hSw; (try dsimp only at hSw); go_simp; done)
    | (refine Or.inl ⟨by rfl, ?_⟩; intro w hSw; (try dsimp only at hSw); go_simp; with_reducible rfl)
  try simp only [Act.put, List.setIfInBounds_toArray, List.set_cons_zero, List.set_cons_succ]
  refine wpAnyH_take (i := 14) (v := ?_) (arr_at rfl) (by kernel_rfl) (by kernel_rfl) (by kernel_rfl) (fun _ _ _ h => h) ?_ (by assumption) ?_
  rotate_left
  · first
    | (refine Or.inr ⟨by rfl, ?_⟩; with_reducible rfl)
    | (refine Or.inl ⟨by rfl, ?_⟩; intro w hSw; (try dsimp only at hSw); go_simp; done)
    | (refine Or.inl ⟨by rfl, ?_⟩; intro w hSw; (try dsimp only at hSw); go_simp; with_reducible rfl)
  try simp only [Act.put, List.setIfInBounds_toArray, List.set_cons_zero, List.set_cons_succ]
  refine wpAnyH_take (i := 15) (v := ?_) (arr_at rfl) (by kernel_rfl) (by kernel_rfl) (by kernel_rfl) (fun _ _ _ h => h) ?_ (by assumption) ?_
  rotate_left
  · first
    | (refine Or.inr ⟨by rfl, ?_⟩; with_reducible rfl)
    | (refine Or.inl ⟨by rfl, ?_⟩; intro w hSw; (try dsimp only at hSw); go_simp; done)
    | (refine Or.inl ⟨by rfl, ?_⟩; intro w hSw; (try dsimp only at hSw); go_simp; with_reducible rfl)
  try simp only [Act.put, List.setIfInBounds_toArray, List.set_cons_zero, List.set_cons_succ]
  refine wpAnyH_take (i := 16) (v := ?_) (arr_at rfl) (by kernel_rfl) (by kernel_rfl) (by kernel_rfl) (fun _ _ _ h => h) ?_ (by assumption) ?_
  rotate_left
  · first
    | (refine Or.inr ⟨by rfl, ?_⟩; with_reducible rfl)
    | (refine Or.inl ⟨by rfl, ?_⟩; intro w hSw; (try dsimp only at hSw); go_simp; done)
    | (refine Or.inl ⟨by rfl, ?_⟩; intro w hSw; (try dsimp only at hSw); go_simp; with_reducible rfl)
  try simp only [Act.put, List.setIfInBounds_toArray, List.set_cons_zero, List.set_cons_succ]
  refine wpAnyH_take (i := 17) (v := ?_) (arr_at rfl) (by kernel_rfl) (by kernel_rfl) (by kernel_rfl) (fun _ _ _ h => h) ?_ (by assumption) ?_
  rotate_left
  · first
    | (refine Or.inr ⟨by rfl, ?_⟩; with_reducible rfl)
    | (refine Or.inl ⟨by rfl, ?_⟩; intro w hSw; (try dsimp only at hSw); go_simp; done)
    | (refine Or.inl ⟨by rfl, ?_⟩; intro w hSw; (try dsimp only at hSw); go_simp; with_reducible rfl)
  try simp only [Act.put, List.setIfInBounds_toArray, List.set_cons_zero, List.set_cons_succ]
  refine wpAnyH_take (i := 18) (v := ?_) (arr_at rfl) (by kernel_rfl) (by kernel_rfl) (by kernel_rfl) (fun _ _ _ h => h) ?_ (by assumption) ?_
  rotate_left
  · first
    | (refine Or.inr ⟨by rfl, ?_⟩; with_reducible rfl)
    | (refine Or.inl ⟨by rfl, ?_⟩; intro w hSw; (try dsimp only at hSw); go_simp; done)
    | (refine Or.inl ⟨by rfl, ?_⟩; intro w hSw; (try dsimp only at hSw); go_simp; with_reducible rfl)
  try simp only [Act.put, List.setIfInBounds_toArray, List.set_cons_zero, List.set_cons_succ]
  refine wpAnyH_take (i := 19) (v := ?_) (arr_at rfl) (by kernel_rfl) (by kernel_rfl) (by kernel_rfl) (fun _ _ _ h => h) ?_ (by assumption) ?_
  rotate_left
  · first
    | (refine Or.inr ⟨by rfl, ?_⟩; with_reducible rfl)
    | (refine Or.inl ⟨by rfl, ?_⟩; intro w hSw; (try dsimp only at hSw); go_simp; done)
    | (refine Or.inl ⟨by rfl, ?_⟩; intro w hSw; (try dsimp only at hSw); go_simp; with_reducible rfl)
  try simp only [Act.put, List.setIfInBounds_toArray, List.set_cons_zero, List.set_cons_succ]
  refine wpAnyH_done (by kernel_rfl) ?_ _
  go_wp2
  go_ret
  exact ⟨ret_bool (by simp), Bl.then B b3⟩
end Go.Proofs.Ytaneiilbkkfnoaa
