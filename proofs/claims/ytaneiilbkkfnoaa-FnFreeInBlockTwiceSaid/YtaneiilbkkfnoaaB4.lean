/- Contracts of the functions on plans: owners of ports. -/
import Derived.Test.YtaneiilbkkfnoaaB3
namespace Go.Proofs.Ytaneiilbkkfnoaa
open Go.RowKit

theorem c_sBlockOf (ba bi fi si a : Int) (w : World) :
    Calls Try.prog 28 #[.agg #[.int .i64 ba, .int .i64 bi, .int .i64 fi, .int .i64 si], .int .i64 a] w fun e w' => e = .returned (.int .i64 (blkOf ba bi fi si a)) ∧ Below w.heap.size w w' := by
  cases hv : vPlan ba bi fi si
  · go_enter Try.func28, Try.ntmps28
    go_wp2_with (go_at_call 41; refine (c_validPlan _ _ _ _ _).mono ?_; rw [hv]; rintro e w1 ⟨rfl, hq⟩; have k0 : w1.cell? ⟨w.heap.size, 0, none⟩ = some (.int .i64 ba) := (hq.cell (Blk.new w _ _).lt).trans (by simp [go_sem]); have k1 : w1.cell? ⟨w.heap.size, 1, none⟩ = some (.int .i64 bi) := (hq.cell (Blk.new w _ _).lt).trans (by simp [go_sem]); have k2 : w1.cell? ⟨w.heap.size, 2, none⟩ = some (.int .i64 fi) := (hq.cell (Blk.new w _ _).lt).trans (by simp [go_sem]); have k3 : w1.cell? ⟨w.heap.size, 3, none⟩ = some (.int .i64 si) := (hq.cell (Blk.new w _ _).lt).trans (by simp [go_sem]); have kB : Below w.heap.size w w1 := Bl.then ((Below.refl _ _).alloc (Nat.le_refl _) _) hq)
    go_ret
    exact ⟨ret_int (by unfold blkOf ownB; rw [hv]; rfl), kB⟩
  have hn := vPlan_net hv
  cases hi : inN ba bi a
  · go_enter Try.func28, Try.ntmps28
    go_wp2_with (first
      | (go_at_call 41; refine (c_validPlan _ _ _ _ _).mono ?_; rw [hv]; rintro e w1 ⟨rfl, hq⟩; have k0 : w1.cell? ⟨w.heap.size, 0, none⟩ = some (.int .i64 ba) := (hq.cell (Blk.new w _ _).lt).trans (by simp [go_sem]); have k1 : w1.cell? ⟨w.heap.size, 1, none⟩ = some (.int .i64 bi) := (hq.cell (Blk.new w _ _).lt).trans (by simp [go_sem]); have k2 : w1.cell? ⟨w.heap.size, 2, none⟩ = some (.int .i64 fi) := (hq.cell (Blk.new w _ _).lt).trans (by simp [go_sem]); have k3 : w1.cell? ⟨w.heap.size, 3, none⟩ = some (.int .i64 si) := (hq.cell (Blk.new w _ _).lt).trans (by simp [go_sem]); have kB : Below w.heap.size w w1 := Bl.then ((Below.refl _ _).alloc (Nat.le_refl _) _) hq)
      | (go_at_call 47; refine (c_inNet _ _ _ _ hn).mono ?_; rw [hi]; rintro e w2 ⟨rfl, hq2⟩))
    go_ret
    exact ⟨ret_int (by unfold blkOf ownB; rw [hv, hi]; rfl), two kB hq2⟩
  · have hb := own_bd (a := a) (by unfold ownB; rw [hv, hi]; rfl)
    have e1 : IntKind.i64.wrap (a - ba) = a - ba := IntWalk.i64_in _ (by omega)
    have e2 : IntKind.i64.wrap ((a - ba) * si) = (a - ba) * si := IntWalk.i64_in _ (by omega)
    have e3 : IntKind.i64.wrap (fi + (a - ba) * si) = fi + (a - ba) * si := IntWalk.i64_in _ (by omega)
    go_enter Try.func28, Try.ntmps28
    go_wp2_with (first
      | (go_at_call 41; refine (c_validPlan _ _ _ _ _).mono ?_; rw [hv]; rintro e w1 ⟨rfl, hq⟩; have k0 : w1.cell? ⟨w.heap.size, 0, none⟩ = some (.int .i64 ba) := (hq.cell (Blk.new w _ _).lt).trans (by simp [go_sem]); have k1 : w1.cell? ⟨w.heap.size, 1, none⟩ = some (.int .i64 bi) := (hq.cell (Blk.new w _ _).lt).trans (by simp [go_sem]); have k2 : w1.cell? ⟨w.heap.size, 2, none⟩ = some (.int .i64 fi) := (hq.cell (Blk.new w _ _).lt).trans (by simp [go_sem]); have k3 : w1.cell? ⟨w.heap.size, 3, none⟩ = some (.int .i64 si) := (hq.cell (Blk.new w _ _).lt).trans (by simp [go_sem]); have kB : Below w.heap.size w w1 := Bl.then ((Below.refl _ _).alloc (Nat.le_refl _) _) hq)
      | (go_at_call 47; refine (c_inNet _ _ _ _ hn).mono ?_; rw [hi]; rintro e w2 ⟨rfl, hq2⟩
         have hl1 : w.heap.size < w1.heap.size := Nat.lt_of_lt_of_le (Blk.new w _ _).lt hq.size
         have j0 := (hq2.cell (p := ⟨w.heap.size, 0, none⟩) hl1).trans k0
         have j1 := (hq2.cell (p := ⟨w.heap.size, 1, none⟩) hl1).trans k1
         have j2 := (hq2.cell (p := ⟨w.heap.size, 2, none⟩) hl1).trans k2
         have j3 := (hq2.cell (p := ⟨w.heap.size, 3, none⟩) hl1).trans k3))
    go_ret
    exact ⟨ret_int (by unfold blkOf ownB; rw [hv, hi]; first | rfl | (simp only [IntKind.wrap] at e1 e2 e3; simp [e1, e2, e3])), two kB hq2⟩

/-- The owner of a port; -1 if it has none. -/
def ownOf (ba bi fi si p : Int) : Int := if vPlan ba bi fi si && inB p fi (fi + sz bi * si - 1) then ba + (p - fi).tdiv si else -1

set_option maxHeartbeats 1600000 in
theorem c_OwnerOf (ba bi fi si p : Int) (w : World) :
    Calls Try.prog 17 #[.agg #[.int .i64 ba, .int .i64 bi, .int .i64 fi, .int .i64 si], .int .i64 p] w fun e w' => e = .returned (.int .i64 (ownOf ba bi fi si p)) ∧ Below w.heap.size w w' := by
  cases hv : vPlan ba bi fi si
  · go_enter Try.func17, Try.ntmps17
    go_wp2
    refine wp_region_held_drew (S := (fun w' => w'.cell? ⟨w.heap.size, 0, none⟩ = some (.int .i64 ba) ∧ w'.cell? ⟨w.heap.size, 1, none⟩ = some (.int .i64 bi) ∧ w'.cell? ⟨w.heap.size, 2, none⟩ = some (.int .i64 fi) ∧ w'.cell? ⟨w.heap.size, 3, none⟩ = some (.int .i64 si) ∧ Below w.heap.size w w' ∧ w.heap.size < w'.heap.size)) (by kernel_rfl) ?_ (fun hHeld => ?_)
    · (try dsimp only); first | exact ⟨by simp [go_sem], by simp [go_sem], by simp [go_sem], by simp [go_sem], Bl.drewN ((Below.refl _ _).alloc (Nat.le_refl _) _) 1, (Blk.new w _ _).lt⟩ | exact keep4c (by assumption) (by assumption) | exact keep4 (by assumption) (by first | assumption | simp [go_sem]) (by first | assumption | simp [go_sem]) (by first | assumption | simp [go_sem]) (by first | assumption | simp [go_sem]) (by first | assumption | exact Bl.drewN ((Below.refl _ _).alloc (Nat.le_refl _) _) 1) (by first | assumption | exact (Blk.new w _ _).lt)
    refine wpAnyH_take (i := 0) (v := ?_) (arr_at rfl) (by kernel_rfl) (by kernel_rfl) (by kernel_rfl) (fun _ _ _ h => h) ?_ (by assumption) ?_
    rotate_left
    · first
      | (refine Or.inr ⟨by rfl, ?_⟩; with_reducible rfl)
      | (refine Or.inl ⟨by rfl, ?_⟩; intro w hSw; (try dsimp only at hSw); go_simp; done)
      | (refine Or.inl ⟨by rfl, ?_⟩; intro w hSw; (try dsimp only at hSw); go_simp; with_reducible rfl)
    try simp only [Act.put, List.setIfInBounds_toArray, List.set_cons_zero, List.set_cons_succ]
    refine wpAnyH_ready (rs := [1]) (by kernel_rfl) (by simp) ?_
    refine AllReadyH.cons (arr_at rfl) (fun K hK => ?_) AllReadyH.nil
    go_simp
    go_at_call 19; refine (c_ValidPlan _ _ _ _ _).mono ?_; rw [hv]; rintro e w1 ⟨rfl, hq⟩
    refine hK.out _ _ ?_ (fun hHeld => ?_)
    · (try dsimp only); first | exact ⟨by simp [go_sem], by simp [go_sem], by simp [go_sem], by simp [go_sem], Bl.drewN ((Below.refl _ _).alloc (Nat.le_refl _) _) 1, (Blk.new w _ _).lt⟩ | exact keep4c (by assumption) (by assumption) | exact keep4 (by assumption) (by first | assumption | simp [go_sem]) (by first | assumption | simp [go_sem]) (by first | assumption | simp [go_sem]) (by first | assumption | simp [go_sem]) (by first | assumption | exact Bl.drewN ((Below.refl _ _).alloc (Nat.le_refl _) _) 1) (by first | assumption | exact (Blk.new w _ _).lt)
    clear hK K
    try simp only [Act.put, List.setIfInBounds_toArray, List.set_cons_zero, List.set_cons_succ]
    refine wpAnyH_take (i := 2) (v := ?_) (arr_at rfl) (by kernel_rfl) (by kernel_rfl) (by kernel_rfl) (fun _ _ _ h => h) ?_ (by assumption) ?_
    rotate_left
    · first
      | (refine Or.inr ⟨by rfl, ?_⟩; with_reducible rfl)
      | (refine Or.inl ⟨by rfl, ?_⟩; intro w hSw; (try dsimp only at hSw); go_simp; done)
      | (refine Or.inl ⟨by rfl, ?_⟩; intro w hSw; (try dsimp only at hSw); go_simp; with_reducible rfl)
    try simp only [Act.put, List.setIfInBounds_toArray, List.set_cons_zero, List.set_cons_succ]
    refine wpAnyH_take (i := 3) (v := ?_) (arr_at rfl) (by kernel_rfl) (by kernel_rfl) (by kernel_rfl) (fun _ _ _ h => h) ?_ (by assumption) ?_
    rotate_left
    · first
      | (refine Or.inr ⟨by rfl, ?_⟩; with_reducible rfl)
      | (refine Or.inl ⟨by rfl, ?_⟩; intro w hSw; (try dsimp only at hSw); go_simp; done)
      | (refine Or.inl ⟨by rfl, ?_⟩; intro w hSw; (try dsimp only at hSw); go_simp; with_reducible rfl)
    try simp only [Act.put, List.setIfInBounds_toArray, List.set_cons_zero, List.set_cons_succ]
    refine wpAnyH_take (i := 4) (v := ?_) (arr_at rfl) (by kernel_rfl) (by kernel_rfl) (by kernel_rfl) (fun _ _ _ h => h) ?_ (by assumption) ?_
    rotate_left
    · first
      | (refine Or.inr ⟨by rfl, ?_⟩; with_reducible rfl)
      | (refine Or.inl ⟨by rfl, ?_⟩; intro w hSw; (try dsimp only at hSw); go_simp; done)
      | (refine Or.inl ⟨by rfl, ?_⟩; intro w hSw; (try dsimp only at hSw); go_simp; with_reducible rfl)
    try simp only [Act.put, List.setIfInBounds_toArray, List.set_cons_zero, List.set_cons_succ]
    refine wpAnyH_take (i := 5) (v := ?_) (arr_at rfl) (by kernel_rfl) (by kernel_rfl) (by kernel_rfl) (fun _ _ _ h => h) ?_ (by assumption) ?_
    rotate_left
    · first
      | (refine Or.inr ⟨by rfl, ?_⟩; with_reducible rfl)
      | (refine Or.inl ⟨by rfl, ?_⟩; intro w hSw; (try dsimp only at hSw); go_simp; done)
      | (refine Or.inl ⟨by rfl, ?_⟩; intro w hSw; (try dsimp only at hSw); go_simp; with_reducible rfl)
    try simp only [Act.put, List.setIfInBounds_toArray, List.set_cons_zero, List.set_cons_succ]
    refine wpAnyH_take (i := 6) (v := ?_) (arr_at rfl) (by kernel_rfl) (by kernel_rfl) (by kernel_rfl) (fun _ _ _ h => h) ?_ (by assumption) ?_
    rotate_left
    · first
      | (refine Or.inr ⟨by rfl, ?_⟩; with_reducible rfl)
      | (refine Or.inl ⟨by rfl, ?_⟩; intro w hSw; (try dsimp only at hSw); go_simp; done)
      | (refine Or.inl ⟨by rfl, ?_⟩; intro w hSw; (try dsimp only at hSw); go_simp; with_reducible rfl)
    try simp only [Act.put, List.setIfInBounds_toArray, List.set_cons_zero, List.set_cons_succ]
    refine wpAnyH_take (i := 7) (v := ?_) (arr_at rfl) (by kernel_rfl) (by kernel_rfl) (by kernel_rfl) (fun _ _ _ h => h) ?_ (by assumption) ?_
    rotate_left
    · first
      | (refine Or.inr ⟨by rfl, ?_⟩; with_reducible rfl)
      | (refine Or.inl ⟨by rfl, ?_⟩; intro w hSw; (try dsimp only at hSw); go_simp; done)
      | (refine Or.inl ⟨by rfl, ?_⟩; intro w hSw; (try dsimp only at hSw); go_simp; with_reducible rfl)
    try simp only [Act.put, List.setIfInBounds_toArray, List.set_cons_zero, List.set_cons_succ]
    refine wpAnyH_take (i := 8) (v := ?_) (arr_at rfl) (by kernel_rfl) (by kernel_rfl) (by kernel_rfl) (fun _ _ _ h => h) ?_ (by assumption) ?_
    rotate_left
    · first
      | (refine Or.inr ⟨by rfl, ?_⟩; with_reducible rfl)
      | (refine Or.inl ⟨by rfl, ?_⟩; intro w hSw; (try dsimp only at hSw); go_simp; done)
      | (refine Or.inl ⟨by rfl, ?_⟩; intro w hSw; (try dsimp only at hSw); go_simp; with_reducible rfl)
    try simp only [Act.put, List.setIfInBounds_toArray, List.set_cons_zero, List.set_cons_succ]
    refine wpAnyH_take (i := 9) (v := ?_) (arr_at rfl) (by kernel_rfl) (by kernel_rfl) (by kernel_rfl) (fun _ _ _ h => h) ?_ (by assumption) ?_
    rotate_left
    · first
      | (refine Or.inr ⟨by rfl, ?_⟩; with_reducible rfl)
      | (refine Or.inl ⟨by rfl, ?_⟩; intro w hSw; (try dsimp only at hSw); go_simp; done)
      | (refine Or.inl ⟨by rfl, ?_⟩; intro w hSw; (try dsimp only at hSw); go_simp; with_reducible rfl)
    try simp only [Act.put, List.setIfInBounds_toArray, List.set_cons_zero, List.set_cons_succ]
    refine wpAnyH_take (i := 10) (v := ?_) (arr_at rfl) (by kernel_rfl) (by kernel_rfl) (by kernel_rfl) (fun _ _ _ h => h) ?_ (by assumption) ?_
    rotate_left
    · first
      | (refine Or.inr ⟨by rfl, ?_⟩; with_reducible rfl)
      | (refine Or.inl ⟨by rfl, ?_⟩; intro w hSw; (try dsimp only at hSw); go_simp; done)
      | (refine Or.inl ⟨by rfl, ?_⟩; intro w hSw; (try dsimp only at hSw); go_simp; with_reducible rfl)
    try simp only [Act.put, List.setIfInBounds_toArray, List.set_cons_zero, List.set_cons_succ]
    refine wpAnyH_take (i := 11) (v := ?_) (arr_at rfl) (by kernel_rfl) (by kernel_rfl) (by kernel_rfl) (fun _ _ _ h => h) ?_ (by assumption) ?_
    rotate_left
    · first
      | (refine Or.inr ⟨by rfl, ?_⟩; with_reducible rfl)
      | (refine Or.inl ⟨by rfl, ?_⟩; intro w hSw; (try dsimp only at hSw); go_simp; done)
      | (refine Or.inl ⟨by rfl, ?_⟩; intro w hSw; (try dsimp only at hSw); go_simp; with_reducible rfl)
    try simp only [Act.put, List.setIfInBounds_toArray, List.set_cons_zero, List.set_cons_succ]
    refine wpAnyH_take (i := 12) (v := ?_) (arr_at rfl) (by kernel_rfl) (by kernel_rfl) (by kernel_rfl) (fun _ _ _ h => h) ?_ (by assumption) ?_
    rotate_left
    · first
      | (refine Or.inr ⟨by rfl, ?_⟩; with_reducible rfl)
      | (refine Or.inl ⟨by rfl, ?_⟩; intro w hSw; (try dsimp only at hSw); go_simp; done)
      | (refine Or.inl ⟨by rfl, ?_⟩; intro w hSw; (try dsimp only at hSw); go_simp; with_reducible rfl)
    try simp only [Act.put, List.setIfInBounds_toArray, List.set_cons_zero, List.set_cons_succ]
    refine wpAnyH_take (i := 13) (v := ?_) (arr_at rfl) (by kernel_rfl) (by kernel_rfl) (by kernel_rfl) (fun _ _ _ h => h) ?_ (by assumption) ?_
    rotate_left
    · first
      | (refine Or.inr ⟨by rfl, ?_⟩; with_reducible rfl)
      | (refine Or.inl ⟨by rfl, ?_⟩; intro w hSw; (try dsimp only at hSw); go_simp; done)
      | (refine Or.inl ⟨by rfl, ?_⟩; intro w hSw; (try dsimp only at hSw); go_simp; with_reducible rfl)
    try simp only [Act.put, List.setIfInBounds_toArray, List.set_cons_zero, List.set_cons_succ]
    refine wpAnyH_take (i := 14) (v := ?_) (arr_at rfl) (by kernel_rfl) (by kernel_rfl) (by kernel_rfl) (fun _ _ _ h => h) ?_ (by assumption) ?_
    rotate_left
    · first
      | (refine Or.inr ⟨by rfl, ?_⟩; with_reducible rfl)
      | (refine Or.inl ⟨by rfl, ?_⟩; intro w hSw; (try dsimp only at hSw); go_simp; done)
      | (refine Or.inl ⟨by rfl, ?_⟩; intro w hSw; (try dsimp only at hSw); go_simp; with_reducible rfl)
    try simp only [Act.put, List.setIfInBounds_toArray, List.set_cons_zero, List.set_cons_succ]
    refine wpAnyH_take (i := 15) (v := ?_) (arr_at rfl) (by kernel_rfl) (by kernel_rfl) (by kernel_rfl) (fun _ _ _ h => h) ?_ (by assumption) ?_
    rotate_left
    · first
      | (refine Or.inr ⟨by rfl, ?_⟩; with_reducible rfl)
      | (refine Or.inl ⟨by rfl, ?_⟩; intro w hSw; (try dsimp only at hSw); go_simp; done)
      | (refine Or.inl ⟨by rfl, ?_⟩; intro w hSw; (try dsimp only at hSw); go_simp; with_reducible rfl)
    try simp only [Act.put, List.setIfInBounds_toArray, List.set_cons_zero, List.set_cons_succ]
    refine wpAnyH_take (i := 16) (v := ?_) (arr_at rfl) (by kernel_rfl) (by kernel_rfl) (by kernel_rfl) (fun _ _ _ h => h) ?_ (by assumption) ?_
    rotate_left
    · first
      | (refine Or.inr ⟨by rfl, ?_⟩; with_reducible rfl)
      | (refine Or.inl ⟨by rfl, ?_⟩; intro w hSw; (try dsimp only at hSw); go_simp; done)
      | (refine Or.inl ⟨by rfl, ?_⟩; intro w hSw; (try dsimp only at hSw); go_simp; with_reducible rfl)
    try simp only [Act.put, List.setIfInBounds_toArray, List.set_cons_zero, List.set_cons_succ]
    refine wpAnyH_take (i := 17) (v := ?_) (arr_at rfl) (by kernel_rfl) (by kernel_rfl) (by kernel_rfl) (fun _ _ _ h => h) ?_ (by assumption) ?_
    rotate_left
    · first
      | (refine Or.inr ⟨by rfl, ?_⟩; with_reducible rfl)
      | (refine Or.inl ⟨by rfl, ?_⟩; intro w hSw; (try dsimp only at hSw); go_simp; done)
      | (refine Or.inl ⟨by rfl, ?_⟩; intro w hSw; (try dsimp only at hSw); go_simp; with_reducible rfl)
    try simp only [Act.put, List.setIfInBounds_toArray, List.set_cons_zero, List.set_cons_succ]
    refine wpAnyH_take (i := 18) (v := ?_) (arr_at rfl) (by kernel_rfl) (by kernel_rfl) (by kernel_rfl) (fun _ _ _ h => h) ?_ (by assumption) ?_
    rotate_left
    · first
      | (refine Or.inr ⟨by rfl, ?_⟩; with_reducible rfl)
      | (refine Or.inl ⟨by rfl, ?_⟩; intro w hSw; (try dsimp only at hSw); go_simp; done)
      | (refine Or.inl ⟨by rfl, ?_⟩; intro w hSw; (try dsimp only at hSw); go_simp; with_reducible rfl)
    try simp only [Act.put, List.setIfInBounds_toArray, List.set_cons_zero, List.set_cons_succ]
    refine wpAnyH_take (i := 19) (v := ?_) (arr_at rfl) (by kernel_rfl) (by kernel_rfl) (by kernel_rfl) (fun _ _ _ h => h) ?_ (by assumption) ?_
    rotate_left
    · first
      | (refine Or.inr ⟨by rfl, ?_⟩; with_reducible rfl)
      | (refine Or.inl ⟨by rfl, ?_⟩; intro w hSw; (try dsimp only at hSw); go_simp; done)
      | (refine Or.inl ⟨by rfl, ?_⟩; intro w hSw; (try dsimp only at hSw); go_simp; with_reducible rfl)
    try simp only [Act.put, List.setIfInBounds_toArray, List.set_cons_zero, List.set_cons_succ]
    refine wpAnyH_done (by kernel_rfl) ?_ _
    go_wp2
    go_ret
    exact ⟨ret_int (by unfold ownOf; rw [hv]; rfl), hHeld.2.2.2.2.1⟩
  have hn := vPlan_net hv
  have hb := vNet_bits hn
  have hs := vPlan_size hv
  have hf := vPlan_first hv
  have hm := szsi hb (inB_mk hs.1 hs.2)
  have e1 : IntKind.i64.wrap (sz bi * si) = sz bi * si := IntWalk.i64_in _ (by omega)
  have e2 : IntKind.i64.wrap (fi + sz bi * si) = fi + sz bi * si := IntWalk.i64_in _ (by omega)
  have e3 : IntKind.i64.wrap (fi + sz bi * si - 1) = fi + sz bi * si - 1 := IntWalk.i64_in _ (by omega)
  cases hp : inB p fi (fi + sz bi * si - 1)
  · clear hm hs hf
    go_enter Try.func17, Try.ntmps17
    go_wp2
    refine wp_region_held_drew (S := (fun w' => w'.cell? ⟨w.heap.size, 0, none⟩ = some (.int .i64 ba) ∧ w'.cell? ⟨w.heap.size, 1, none⟩ = some (.int .i64 bi) ∧ w'.cell? ⟨w.heap.size, 2, none⟩ = some (.int .i64 fi) ∧ w'.cell? ⟨w.heap.size, 3, none⟩ = some (.int .i64 si) ∧ Below w.heap.size w w' ∧ w.heap.size < w'.heap.size)) (by kernel_rfl) ?_ (fun hHeld => ?_)
    · (try dsimp only); first | exact ⟨by simp [go_sem], by simp [go_sem], by simp [go_sem], by simp [go_sem], Bl.drewN ((Below.refl _ _).alloc (Nat.le_refl _) _) 1, (Blk.new w _ _).lt⟩ | exact keep4c (by assumption) (by assumption) | exact keep4 (by assumption) (by first | assumption | simp [go_sem]) (by first | assumption | simp [go_sem]) (by first | assumption | simp [go_sem]) (by first | assumption | simp [go_sem]) (by first | assumption | exact Bl.drewN ((Below.refl _ _).alloc (Nat.le_refl _) _) 1) (by first | assumption | exact (Blk.new w _ _).lt)
    refine wpAnyH_take (i := 0) (v := ?_) (arr_at rfl) (by kernel_rfl) (by kernel_rfl) (by kernel_rfl) (fun _ _ _ h => h) ?_ (by assumption) ?_
    rotate_left
    · first
      | (refine Or.inr ⟨by rfl, ?_⟩; with_reducible rfl)
      | (refine Or.inl ⟨by rfl, ?_⟩; intro w hSw; (try dsimp only at hSw); go_simp; done)
      | (refine Or.inl ⟨by rfl, ?_⟩; intro w hSw; (try dsimp only at hSw); go_simp; with_reducible rfl)
    try simp only [Act.put, List.setIfInBounds_toArray, List.set_cons_zero, List.set_cons_succ]
    refine wpAnyH_ready (rs := [1]) (by kernel_rfl) (by simp) ?_
    refine AllReadyH.cons (arr_at rfl) (fun K hK => ?_) AllReadyH.nil
    go_simp
    go_at_call 19; refine (c_ValidPlan _ _ _ _ _).mono ?_; rw [hv]; rintro e w1 ⟨rfl, hq⟩
    refine hK.out _ _ ?_ (fun hHeld => ?_)
    · (try dsimp only); first | exact ⟨by simp [go_sem], by simp [go_sem], by simp [go_sem], by simp [go_sem], Bl.drewN ((Below.refl _ _).alloc (Nat.le_refl _) _) 1, (Blk.new w _ _).lt⟩ | exact keep4c (by assumption) (by assumption) | exact keep4 (by assumption) (by first | assumption | simp [go_sem]) (by first | assumption | simp [go_sem]) (by first | assumption | simp [go_sem]) (by first | assumption | simp [go_sem]) (by first | assumption | exact Bl.drewN ((Below.refl _ _).alloc (Nat.le_refl _) _) 1) (by first | assumption | exact (Blk.new w _ _).lt)
    clear hK K
    try simp only [Act.put, List.setIfInBounds_toArray, List.set_cons_zero, List.set_cons_succ]
    refine wpAnyH_take (i := 2) (v := ?_) (arr_at rfl) (by kernel_rfl) (by kernel_rfl) (by kernel_rfl) (fun _ _ _ h => h) ?_ (by assumption) ?_
    rotate_left
    · first
      | (refine Or.inr ⟨by rfl, ?_⟩; with_reducible rfl)
      | (refine Or.inl ⟨by rfl, ?_⟩; intro w hSw; (try dsimp only at hSw); go_simp; done)
      | (refine Or.inl ⟨by rfl, ?_⟩; intro w hSw; (try dsimp only at hSw); go_simp; with_reducible rfl)
    try simp only [Act.put, List.setIfInBounds_toArray, List.set_cons_zero, List.set_cons_succ]
    refine wpAnyH_take (i := 3) (v := ?_) (arr_at rfl) (by kernel_rfl) (by kernel_rfl) (by kernel_rfl) (fun _ _ _ h => h) ?_ (by assumption) ?_
    rotate_left
    · first
      | (refine Or.inr ⟨by rfl, ?_⟩; with_reducible rfl)
      | (refine Or.inl ⟨by rfl, ?_⟩; intro w hSw; (try dsimp only at hSw); go_simp; done)
      | (refine Or.inl ⟨by rfl, ?_⟩; intro w hSw; (try dsimp only at hSw); go_simp; with_reducible rfl)
    try simp only [Act.put, List.setIfInBounds_toArray, List.set_cons_zero, List.set_cons_succ]
    refine wpAnyH_take (i := 4) (v := ?_) (arr_at rfl) (by kernel_rfl) (by kernel_rfl) (by kernel_rfl) (fun _ _ _ h => h) ?_ (by assumption) ?_
    rotate_left
    · first
      | (refine Or.inr ⟨by rfl, ?_⟩; with_reducible rfl)
      | (refine Or.inl ⟨by rfl, ?_⟩; intro w hSw; (try dsimp only at hSw); go_simp; done)
      | (refine Or.inl ⟨by rfl, ?_⟩; intro w hSw; (try dsimp only at hSw); go_simp; with_reducible rfl)
    try simp only [Act.put, List.setIfInBounds_toArray, List.set_cons_zero, List.set_cons_succ]
    refine wpAnyH_take (i := 5) (v := ?_) (arr_at rfl) (by kernel_rfl) (by kernel_rfl) (by kernel_rfl) (fun _ _ _ h => h) ?_ (by assumption) ?_
    rotate_left
    · first
      | (refine Or.inr ⟨by rfl, ?_⟩; with_reducible rfl)
      | (refine Or.inl ⟨by rfl, ?_⟩; intro w hSw; (try dsimp only at hSw); go_simp; done)
      | (refine Or.inl ⟨by rfl, ?_⟩; intro w hSw; (try dsimp only at hSw); go_simp; with_reducible rfl)
    try simp only [Act.put, List.setIfInBounds_toArray, List.set_cons_zero, List.set_cons_succ]
    refine wpAnyH_take (i := 6) (v := ?_) (arr_at rfl) (by kernel_rfl) (by kernel_rfl) (by kernel_rfl) (fun _ _ _ h => h) ?_ (by assumption) ?_
    rotate_left
    · first
      | (refine Or.inr ⟨by rfl, ?_⟩; with_reducible rfl)
      | (refine Or.inl ⟨by rfl, ?_⟩; intro w hSw; (try dsimp only at hSw); go_simp; done)
      | (refine Or.inl ⟨by rfl, ?_⟩; intro w hSw; (try dsimp only at hSw); go_simp; with_reducible rfl)
    try simp only [Act.put, List.setIfInBounds_toArray, List.set_cons_zero, List.set_cons_succ]
    refine wpAnyH_take (i := 7) (v := ?_) (arr_at rfl) (by kernel_rfl) (by kernel_rfl) (by kernel_rfl) (fun _ _ _ h => h) ?_ (by assumption) ?_
    rotate_left
    · first
      | (refine Or.inr ⟨by rfl, ?_⟩; with_reducible rfl)
      | (refine Or.inl ⟨by rfl, ?_⟩; intro w hSw; (try dsimp only at hSw); go_simp; done)
      | (refine Or.inl ⟨by rfl, ?_⟩; intro w hSw; (try dsimp only at hSw); go_simp; with_reducible rfl)
    try simp only [Act.put, List.setIfInBounds_toArray, List.set_cons_zero, List.set_cons_succ]
    refine wpAnyH_take (i := 8) (v := ?_) (arr_at rfl) (by kernel_rfl) (by kernel_rfl) (by kernel_rfl) (fun _ _ _ h => h) ?_ (by assumption) ?_
    rotate_left
    · first
      | (refine Or.inr ⟨by rfl, ?_⟩; with_reducible rfl)
      | (refine Or.inl ⟨by rfl, ?_⟩; intro w hSw; (try dsimp only at hSw); go_simp; done)
      | (refine Or.inl ⟨by rfl, ?_⟩; intro w hSw; (try dsimp only at hSw); go_simp; with_reducible rfl)
    try simp only [Act.put, List.setIfInBounds_toArray, List.set_cons_zero, List.set_cons_succ]
    refine wpAnyH_take (i := 9) (v := ?_) (arr_at rfl) (by kernel_rfl) (by kernel_rfl) (by kernel_rfl) (fun _ _ _ h => h) ?_ (by assumption) ?_
    rotate_left
    · first
      | (refine Or.inr ⟨by rfl, ?_⟩; with_reducible rfl)
      | (refine Or.inl ⟨by rfl, ?_⟩; intro w hSw; (try dsimp only at hSw); go_simp; done)
      | (refine Or.inl ⟨by rfl, ?_⟩; intro w hSw; (try dsimp only at hSw); go_simp; with_reducible rfl)
    try simp only [Act.put, List.setIfInBounds_toArray, List.set_cons_zero, List.set_cons_succ]
    refine wpAnyH_take (i := 10) (v := ?_) (arr_at rfl) (by kernel_rfl) (by kernel_rfl) (by kernel_rfl) (fun _ _ _ h => h) ?_ (by assumption) ?_
    rotate_left
    · first
      | (refine Or.inr ⟨by rfl, ?_⟩; with_reducible rfl)
      | (refine Or.inl ⟨by rfl, ?_⟩; intro w hSw; (try dsimp only at hSw); go_simp; done)
      | (refine Or.inl ⟨by rfl, ?_⟩; intro w hSw; (try dsimp only at hSw); go_simp; with_reducible rfl)
    try simp only [Act.put, List.setIfInBounds_toArray, List.set_cons_zero, List.set_cons_succ]
    refine wpAnyH_take (i := 12) (v := ?_) (arr_at rfl) (by kernel_rfl) (by kernel_rfl) (by kernel_rfl) (fun _ _ _ h => h) ?_ (by assumption) ?_
    rotate_left
    · first
      | (refine Or.inr ⟨by rfl, ?_⟩; with_reducible rfl)
      | (refine Or.inl ⟨by rfl, ?_⟩; intro w hSw; (try dsimp only at hSw); go_simp; done)
      | (refine Or.inl ⟨by rfl, ?_⟩; intro w hSw; (try dsimp only at hSw); go_simp; with_reducible rfl)
    try simp only [Act.put, List.setIfInBounds_toArray, List.set_cons_zero, List.set_cons_succ]
    refine wpAnyH_take (i := 13) (v := ?_) (arr_at rfl) (by kernel_rfl) (by kernel_rfl) (by kernel_rfl) (fun _ _ _ h => h) ?_ (by assumption) ?_
    rotate_left
    · first
      | (refine Or.inr ⟨by rfl, ?_⟩; with_reducible rfl)
      | (refine Or.inl ⟨by rfl, ?_⟩; intro w hSw; (try dsimp only at hSw); go_simp; done)
      | (refine Or.inl ⟨by rfl, ?_⟩; intro w hSw; (try dsimp only at hSw); go_simp; with_reducible rfl)
    try simp only [Act.put, List.setIfInBounds_toArray, List.set_cons_zero, List.set_cons_succ]
    refine wpAnyH_ready (rs := [11]) (by kernel_rfl) (by simp) ?_
    refine AllReadyH.cons (arr_at rfl) (fun K hK => ?_) AllReadyH.nil
    go_simp
    go_at_call 40; refine (c_size _ _ _ hb).mono ?_; rintro e w' ⟨rfl, hq⟩
    refine hK.out _ _ ?_ (fun hHeld => ?_)
    · (try dsimp only); first | exact ⟨by simp [go_sem], by simp [go_sem], by simp [go_sem], by simp [go_sem], Bl.drewN ((Below.refl _ _).alloc (Nat.le_refl _) _) 1, (Blk.new w _ _).lt⟩ | exact keep4c (by assumption) (by assumption) | exact keep4 (by assumption) (by first | assumption | simp [go_sem]) (by first | assumption | simp [go_sem]) (by first | assumption | simp [go_sem]) (by first | assumption | simp [go_sem]) (by first | assumption | exact Bl.drewN ((Below.refl _ _).alloc (Nat.le_refl _) _) 1) (by first | assumption | exact (Blk.new w _ _).lt)
    clear hK K
    try simp only [Act.put, List.setIfInBounds_toArray, List.set_cons_zero, List.set_cons_succ]
    refine wpAnyH_take (i := 14) (v := ?_) (arr_at rfl) (by kernel_rfl) (by kernel_rfl) (by kernel_rfl) (fun _ _ _ h => h) ?_ (by assumption) ?_
    rotate_left
    · first
      | (refine Or.inr ⟨by rfl, ?_⟩; with_reducible rfl)
      | (refine Or.inl ⟨by rfl, ?_⟩; intro w hSw; (try dsimp only at hSw); go_simp; done)
      | (refine Or.inl ⟨by rfl, ?_⟩; intro w hSw; (try dsimp only at hSw); go_simp; with_reducible rfl)
    try simp only [Act.put, List.setIfInBounds_toArray, List.set_cons_zero, List.set_cons_succ]
    refine wpAnyH_take (i := 15) (v := ?_) (arr_at rfl) (by kernel_rfl) (by kernel_rfl) (by kernel_rfl) (fun _ _ _ h => h) ?_ (by assumption) ?_
    rotate_left
    · first
      | (refine Or.inr ⟨by rfl, ?_⟩; with_reducible rfl)
      | (refine Or.inl ⟨by rfl, ?_⟩; intro w hSw; (try dsimp only at hSw); go_simp; done)
      | (refine Or.inl ⟨by rfl, ?_⟩; intro w hSw; (try dsimp only at hSw); go_simp; with_reducible rfl)
    try simp only [Act.put, List.setIfInBounds_toArray, List.set_cons_zero, List.set_cons_succ]
    refine wpAnyH_take (i := 16) (v := ?_) (arr_at rfl) (by kernel_rfl) (by kernel_rfl) (by kernel_rfl) (fun _ _ _ h => h) ?_ (by assumption) ?_
    rotate_left
    · first
      | (refine Or.inr ⟨by rfl, ?_⟩; with_reducible rfl)
      | (refine Or.inl ⟨by rfl, ?_⟩; intro w hSw; (try dsimp only at hSw); go_simp; done)
      | (refine Or.inl ⟨by rfl, ?_⟩; intro w hSw; (try dsimp only at hSw); go_simp; with_reducible rfl)
    try simp only [Act.put, List.setIfInBounds_toArray, List.set_cons_zero, List.set_cons_succ]
    refine wpAnyH_ready (rs := [17]) (by kernel_rfl) (by simp) ?_
    refine AllReadyH.cons (arr_at rfl) (fun K hK => ?_) AllReadyH.nil
    go_simp
    go_at_call 39; refine (c_inV _ _ _ _ _ hp).mono ?_; rintro e w' ⟨rfl, rfl⟩
    refine hK.out _ _ ?_ (fun hHeld => ?_)
    · (try dsimp only); first | exact ⟨by simp [go_sem], by simp [go_sem], by simp [go_sem], by simp [go_sem], Bl.drewN ((Below.refl _ _).alloc (Nat.le_refl _) _) 1, (Blk.new w _ _).lt⟩ | exact keep4c (by assumption) (by assumption) | exact keep4 (by assumption) (by first | assumption | simp [go_sem]) (by first | assumption | simp [go_sem]) (by first | assumption | simp [go_sem]) (by first | assumption | simp [go_sem]) (by first | assumption | exact Bl.drewN ((Below.refl _ _).alloc (Nat.le_refl _) _) 1) (by first | assumption | exact (Blk.new w _ _).lt)
    clear hK K
    try simp only [Act.put, List.setIfInBounds_toArray, List.set_cons_zero, List.set_cons_succ]
    refine wpAnyH_take (i := 18) (v := ?_) (arr_at rfl) (by kernel_rfl) (by kernel_rfl) (by kernel_rfl) (fun _ _ _ h => h) ?_ (by assumption) ?_
    rotate_left
    · first
      | (refine Or.inr ⟨by rfl, ?_⟩; with_reducible rfl)
      | (refine Or.inl ⟨by rfl, ?_⟩; intro w hSw; (try dsimp only at hSw); go_simp; done)
      | (refine Or.inl ⟨by rfl, ?_⟩; intro w hSw; (try dsimp only at hSw); go_simp; with_reducible rfl)
    try simp only [Act.put, List.setIfInBounds_toArray, List.set_cons_zero, List.set_cons_succ]
    refine wpAnyH_take (i := 19) (v := ?_) (arr_at rfl) (by kernel_rfl) (by kernel_rfl) (by kernel_rfl) (fun _ _ _ h => h) ?_ (by assumption) ?_
    rotate_left
    · first
      | (refine Or.inr ⟨by rfl, ?_⟩; with_reducible rfl)
      | (refine Or.inl ⟨by rfl, ?_⟩; intro w hSw; (try dsimp only at hSw); go_simp; done)
      | (refine Or.inl ⟨by rfl, ?_⟩; intro w hSw; (try dsimp only at hSw); go_simp; with_reducible rfl)
    try simp only [Act.put, List.setIfInBounds_toArray, List.set_cons_zero, List.set_cons_succ]
    refine wpAnyH_done (by kernel_rfl) ?_ _
    go_wp2
    go_ret
    exact ⟨ret_int (by unfold ownOf; rw [hv, hp]; rfl), hHeld.2.2.2.2.1⟩
  · have hpp := inB_true hp
    have hba := inB_true (vNet_base hn)
    have hd : 0 ≤ (p - fi).tdiv si ∧ (p - fi).tdiv si ≤ p - fi := by
      rw [Int.tdiv_eq_ediv_of_nonneg (by omega)]
      exact ⟨Int.ediv_nonneg (by omega) (by omega), Int.ediv_le_self _ (by omega)⟩
    have e4 : IntKind.i64.wrap (p - fi) = p - fi := IntWalk.i64_in _ (by omega)
    have e5 : IntKind.i64.wrap (ba + (p - fi).tdiv si) = ba + (p - fi).tdiv si := IntWalk.i64_in _ (by omega)
    have e6 : IntKind.i64.wrap ((p - fi).tdiv si) = (p - fi).tdiv si := IntWalk.i64_in _ (by omega)
    have hz : si ≠ 0 := by omega
    clear hm hs hf hd hba hpp
    go_enter Try.func17, Try.ntmps17
    go_wp2
    refine wp_region_held_drew (S := (fun w' => w'.cell? ⟨w.heap.size, 0, none⟩ = some (.int .i64 ba) ∧ w'.cell? ⟨w.heap.size, 1, none⟩ = some (.int .i64 bi) ∧ w'.cell? ⟨w.heap.size, 2, none⟩ = some (.int .i64 fi) ∧ w'.cell? ⟨w.heap.size, 3, none⟩ = some (.int .i64 si) ∧ Below w.heap.size w w' ∧ w.heap.size < w'.heap.size)) (by kernel_rfl) ?_ (fun hHeld => ?_)
    · (try dsimp only); first | exact ⟨by simp [go_sem], by simp [go_sem], by simp [go_sem], by simp [go_sem], Bl.drewN ((Below.refl _ _).alloc (Nat.le_refl _) _) 1, (Blk.new w _ _).lt⟩ | exact keep4c (by assumption) (by assumption) | exact keep4 (by assumption) (by first | assumption | simp [go_sem]) (by first | assumption | simp [go_sem]) (by first | assumption | simp [go_sem]) (by first | assumption | simp [go_sem]) (by first | assumption | exact Bl.drewN ((Below.refl _ _).alloc (Nat.le_refl _) _) 1) (by first | assumption | exact (Blk.new w _ _).lt)
    refine wpAnyH_take (i := 0) (v := ?_) (arr_at rfl) (by kernel_rfl) (by kernel_rfl) (by kernel_rfl) (fun _ _ _ h => h) ?_ (by assumption) ?_
    rotate_left
    · first
      | (refine Or.inr ⟨by rfl, ?_⟩; with_reducible rfl)
      | (refine Or.inl ⟨by rfl, ?_⟩; intro w hSw; (try dsimp only at hSw); go_simp; done)
      | (refine Or.inl ⟨by rfl, ?_⟩; intro w hSw; (try dsimp only at hSw); go_simp; with_reducible rfl)
    try simp only [Act.put, List.setIfInBounds_toArray, List.set_cons_zero, List.set_cons_succ]
    refine wpAnyH_ready (rs := [1]) (by kernel_rfl) (by simp) ?_
    refine AllReadyH.cons (arr_at rfl) (fun K hK => ?_) AllReadyH.nil
    go_simp
    go_at_call 19; refine (c_ValidPlan _ _ _ _ _).mono ?_; rw [hv]; rintro e w1 ⟨rfl, hq⟩
    refine hK.out _ _ ?_ (fun hHeld => ?_)
    · (try dsimp only); first | exact ⟨by simp [go_sem], by simp [go_sem], by simp [go_sem], by simp [go_sem], Bl.drewN ((Below.refl _ _).alloc (Nat.le_refl _) _) 1, (Blk.new w _ _).lt⟩ | exact keep4c (by assumption) (by assumption) | exact keep4 (by assumption) (by first | assumption | simp [go_sem]) (by first | assumption | simp [go_sem]) (by first | assumption | simp [go_sem]) (by first | assumption | simp [go_sem]) (by first | assumption | exact Bl.drewN ((Below.refl _ _).alloc (Nat.le_refl _) _) 1) (by first | assumption | exact (Blk.new w _ _).lt)
    clear hK K
    try simp only [Act.put, List.setIfInBounds_toArray, List.set_cons_zero, List.set_cons_succ]
    refine wpAnyH_take (i := 2) (v := ?_) (arr_at rfl) (by kernel_rfl) (by kernel_rfl) (by kernel_rfl) (fun _ _ _ h => h) ?_ (by assumption) ?_
    rotate_left
    · first
      | (refine Or.inr ⟨by rfl, ?_⟩; with_reducible rfl)
      | (refine Or.inl ⟨by rfl, ?_⟩; intro w hSw; (try dsimp only at hSw); go_simp; done)
      | (refine Or.inl ⟨by rfl, ?_⟩; intro w hSw; (try dsimp only at hSw); go_simp; with_reducible rfl)
    try simp only [Act.put, List.setIfInBounds_toArray, List.set_cons_zero, List.set_cons_succ]
    refine wpAnyH_take (i := 3) (v := ?_) (arr_at rfl) (by kernel_rfl) (by kernel_rfl) (by kernel_rfl) (fun _ _ _ h => h) ?_ (by assumption) ?_
    rotate_left
    · first
      | (refine Or.inr ⟨by rfl, ?_⟩; with_reducible rfl)
      | (refine Or.inl ⟨by rfl, ?_⟩; intro w hSw; (try dsimp only at hSw); go_simp; done)
      | (refine Or.inl ⟨by rfl, ?_⟩; intro w hSw; (try dsimp only at hSw); go_simp; with_reducible rfl)
    try simp only [Act.put, List.setIfInBounds_toArray, List.set_cons_zero, List.set_cons_succ]
    refine wpAnyH_take (i := 4) (v := ?_) (arr_at rfl) (by kernel_rfl) (by kernel_rfl) (by kernel_rfl) (fun _ _ _ h => h) ?_ (by assumption) ?_
    rotate_left
    · first
      | (refine Or.inr ⟨by rfl, ?_⟩; with_reducible rfl)
      | (refine Or.inl ⟨by rfl, ?_⟩; intro w hSw; (try dsimp only at hSw); go_simp; done)
      | (refine Or.inl ⟨by rfl, ?_⟩; intro w hSw; (try dsimp only at hSw); go_simp; with_reducible rfl)
    try simp only [Act.put, List.setIfInBounds_toArray, List.set_cons_zero, List.set_cons_succ]
    refine wpAnyH_take (i := 5) (v := ?_) (arr_at rfl) (by kernel_rfl) (by kernel_rfl) (by kernel_rfl) (fun _ _ _ h => h) ?_ (by assumption) ?_
    rotate_left
    · first
      | (refine Or.inr ⟨by rfl, ?_⟩; with_reducible rfl)
      | (refine Or.inl ⟨by rfl, ?_⟩; intro w hSw; (try dsimp only at hSw); go_simp; done)
      | (refine Or.inl ⟨by rfl, ?_⟩; intro w hSw; (try dsimp only at hSw); go_simp; with_reducible rfl)
    try simp only [Act.put, List.setIfInBounds_toArray, List.set_cons_zero, List.set_cons_succ]
    refine wpAnyH_take (i := 6) (v := ?_) (arr_at rfl) (by kernel_rfl) (by kernel_rfl) (by kernel_rfl) (fun _ _ _ h => h) ?_ (by assumption) ?_
    rotate_left
    · first
      | (refine Or.inr ⟨by rfl, ?_⟩; with_reducible rfl)
      | (refine Or.inl ⟨by rfl, ?_⟩; intro w hSw; (try dsimp only at hSw); go_simp; done)
      | (refine Or.inl ⟨by rfl, ?_⟩; intro w hSw; (try dsimp only at hSw); go_simp; with_reducible rfl)
    try simp only [Act.put, List.setIfInBounds_toArray, List.set_cons_zero, List.set_cons_succ]
    refine wpAnyH_take (i := 7) (v := ?_) (arr_at rfl) (by kernel_rfl) (by kernel_rfl) (by kernel_rfl) (fun _ _ _ h => h) ?_ (by assumption) ?_
    rotate_left
    · first
      | (refine Or.inr ⟨by rfl, ?_⟩; with_reducible rfl)
      | (refine Or.inl ⟨by rfl, ?_⟩; intro w hSw; (try dsimp only at hSw); go_simp; done)
      | (refine Or.inl ⟨by rfl, ?_⟩; intro w hSw; (try dsimp only at hSw); go_simp; with_reducible rfl)
    try simp only [Act.put, List.setIfInBounds_toArray, List.set_cons_zero, List.set_cons_succ]
    refine wpAnyH_take (i := 8) (v := ?_) (arr_at rfl) (by kernel_rfl) (by kernel_rfl) (by kernel_rfl) (fun _ _ _ h => h) ?_ (by assumption) ?_
    rotate_left
    · first
      | (refine Or.inr ⟨by rfl, ?_⟩; with_reducible rfl)
      | (refine Or.inl ⟨by rfl, ?_⟩; intro w hSw; (try dsimp only at hSw); go_simp; done)
      | (refine Or.inl ⟨by rfl, ?_⟩; intro w hSw; (try dsimp only at hSw); go_simp; with_reducible rfl)
    try simp only [Act.put, List.setIfInBounds_toArray, List.set_cons_zero, List.set_cons_succ]
    refine wpAnyH_take (i := 9) (v := ?_) (arr_at rfl) (by kernel_rfl) (by kernel_rfl) (by kernel_rfl) (fun _ _ _ h => h) ?_ (by assumption) ?_
    rotate_left
    · first
      | (refine Or.inr ⟨by rfl, ?_⟩; with_reducible rfl)
      | (refine Or.inl ⟨by rfl, ?_⟩; intro w hSw; (try dsimp only at hSw); go_simp; done)
      | (refine Or.inl ⟨by rfl, ?_⟩; intro w hSw; (try dsimp only at hSw); go_simp; with_reducible rfl)
    try simp only [Act.put, List.setIfInBounds_toArray, List.set_cons_zero, List.set_cons_succ]
    refine wpAnyH_take (i := 10) (v := ?_) (arr_at rfl) (by kernel_rfl) (by kernel_rfl) (by kernel_rfl) (fun _ _ _ h => h) ?_ (by assumption) ?_
    rotate_left
    · first
      | (refine Or.inr ⟨by rfl, ?_⟩; with_reducible rfl)
      | (refine Or.inl ⟨by rfl, ?_⟩; intro w hSw; (try dsimp only at hSw); go_simp; done)
      | (refine Or.inl ⟨by rfl, ?_⟩; intro w hSw; (try dsimp only at hSw); go_simp; with_reducible rfl)
    try simp only [Act.put, List.setIfInBounds_toArray, List.set_cons_zero, List.set_cons_succ]
    refine wpAnyH_take (i := 12) (v := ?_) (arr_at rfl) (by kernel_rfl) (by kernel_rfl) (by kernel_rfl) (fun _ _ _ h => h) ?_ (by assumption) ?_
    rotate_left
    · first
      | (refine Or.inr ⟨by rfl, ?_⟩; with_reducible rfl)
      | (refine Or.inl ⟨by rfl, ?_⟩; intro w hSw; (try dsimp only at hSw); go_simp; done)
      | (refine Or.inl ⟨by rfl, ?_⟩; intro w hSw; (try dsimp only at hSw); go_simp; with_reducible rfl)
    try simp only [Act.put, List.setIfInBounds_toArray, List.set_cons_zero, List.set_cons_succ]
    refine wpAnyH_take (i := 13) (v := ?_) (arr_at rfl) (by kernel_rfl) (by kernel_rfl) (by kernel_rfl) (fun _ _ _ h => h) ?_ (by assumption) ?_
    rotate_left
    · first
      | (refine Or.inr ⟨by rfl, ?_⟩; with_reducible rfl)
      | (refine Or.inl ⟨by rfl, ?_⟩; intro w hSw; (try dsimp only at hSw); go_simp; done)
      | (refine Or.inl ⟨by rfl, ?_⟩; intro w hSw; (try dsimp only at hSw); go_simp; with_reducible rfl)
    try simp only [Act.put, List.setIfInBounds_toArray, List.set_cons_zero, List.set_cons_succ]
    refine wpAnyH_ready (rs := [11]) (by kernel_rfl) (by simp) ?_
    refine AllReadyH.cons (arr_at rfl) (fun K hK => ?_) AllReadyH.nil
    go_simp
    go_at_call 40; refine (c_size _ _ _ hb).mono ?_; rintro e w' ⟨rfl, hq⟩
    refine hK.out _ _ ?_ (fun hHeld => ?_)
    · (try dsimp only); first | exact ⟨by simp [go_sem], by simp [go_sem], by simp [go_sem], by simp [go_sem], Bl.drewN ((Below.refl _ _).alloc (Nat.le_refl _) _) 1, (Blk.new w _ _).lt⟩ | exact keep4c (by assumption) (by assumption) | exact keep4 (by assumption) (by first | assumption | simp [go_sem]) (by first | assumption | simp [go_sem]) (by first | assumption | simp [go_sem]) (by first | assumption | simp [go_sem]) (by first | assumption | exact Bl.drewN ((Below.refl _ _).alloc (Nat.le_refl _) _) 1) (by first | assumption | exact (Blk.new w _ _).lt)
    clear hK K
    try simp only [Act.put, List.setIfInBounds_toArray, List.set_cons_zero, List.set_cons_succ]
    refine wpAnyH_take (i := 14) (v := ?_) (arr_at rfl) (by kernel_rfl) (by kernel_rfl) (by kernel_rfl) (fun _ _ _ h => h) ?_ (by assumption) ?_
    rotate_left
    · first
      | (refine Or.inr ⟨by rfl, ?_⟩; with_reducible rfl)
      | (refine Or.inl ⟨by rfl, ?_⟩; intro w hSw; (try dsimp only at hSw); go_simp; done)
      | (refine Or.inl ⟨by rfl, ?_⟩; intro w hSw; (try dsimp only at hSw); go_simp; with_reducible rfl)
    try simp only [Act.put, List.setIfInBounds_toArray, List.set_cons_zero, List.set_cons_succ]
    refine wpAnyH_take (i := 15) (v := ?_) (arr_at rfl) (by kernel_rfl) (by kernel_rfl) (by kernel_rfl) (fun _ _ _ h => h) ?_ (by assumption) ?_
    rotate_left
    · first
      | (refine Or.inr ⟨by rfl, ?_⟩; with_reducible rfl)
      | (refine Or.inl ⟨by rfl, ?_⟩; intro w hSw; (try dsimp only at hSw); go_simp; done)
      | (refine Or.inl ⟨by rfl, ?_⟩; intro w hSw; (try dsimp only at hSw); go_simp; with_reducible rfl)
    try simp only [Act.put, List.setIfInBounds_toArray, List.set_cons_zero, List.set_cons_succ]
    refine wpAnyH_take (i := 16) (v := ?_) (arr_at rfl) (by kernel_rfl) (by kernel_rfl) (by kernel_rfl) (fun _ _ _ h => h) ?_ (by assumption) ?_
    rotate_left
    · first
      | (refine Or.inr ⟨by rfl, ?_⟩; with_reducible rfl)
      | (refine Or.inl ⟨by rfl, ?_⟩; intro w hSw; (try dsimp only at hSw); go_simp; done)
      | (refine Or.inl ⟨by rfl, ?_⟩; intro w hSw; (try dsimp only at hSw); go_simp; with_reducible rfl)
    try simp only [Act.put, List.setIfInBounds_toArray, List.set_cons_zero, List.set_cons_succ]
    refine wpAnyH_ready (rs := [17]) (by kernel_rfl) (by simp) ?_
    refine AllReadyH.cons (arr_at rfl) (fun K hK => ?_) AllReadyH.nil
    go_simp
    go_at_call 39; refine (c_inV _ _ _ _ _ hp).mono ?_; rintro e w' ⟨rfl, rfl⟩
    refine hK.out _ _ ?_ (fun hHeld => ?_)
    · (try dsimp only); first | exact ⟨by simp [go_sem], by simp [go_sem], by simp [go_sem], by simp [go_sem], Bl.drewN ((Below.refl _ _).alloc (Nat.le_refl _) _) 1, (Blk.new w _ _).lt⟩ | exact keep4c (by assumption) (by assumption) | exact keep4 (by assumption) (by first | assumption | simp [go_sem]) (by first | assumption | simp [go_sem]) (by first | assumption | simp [go_sem]) (by first | assumption | simp [go_sem]) (by first | assumption | exact Bl.drewN ((Below.refl _ _).alloc (Nat.le_refl _) _) 1) (by first | assumption | exact (Blk.new w _ _).lt)
    clear hK K
    try simp only [Act.put, List.setIfInBounds_toArray, List.set_cons_zero, List.set_cons_succ]
    refine wpAnyH_take (i := 18) (v := ?_) (arr_at rfl) (by kernel_rfl) (by kernel_rfl) (by kernel_rfl) (fun _ _ _ h => h) ?_ (by assumption) ?_
    rotate_left
    · first
      | (refine Or.inr ⟨by rfl, ?_⟩; with_reducible rfl)
      | (refine Or.inl ⟨by rfl, ?_⟩; intro w hSw; (try dsimp only at hSw); go_simp; done)
      | (refine Or.inl ⟨by rfl, ?_⟩; intro w hSw; (try dsimp only at hSw); go_simp; with_reducible rfl)
    try simp only [Act.put, List.setIfInBounds_toArray, List.set_cons_zero, List.set_cons_succ]
    refine wpAnyH_take (i := 19) (v := ?_) (arr_at rfl) (by kernel_rfl) (by kernel_rfl) (by kernel_rfl) (fun _ _ _ h => h) ?_ (by assumption) ?_
    rotate_left
    · first
      | (refine Or.inr ⟨by rfl, ?_⟩; with_reducible rfl)
      | (refine Or.inl ⟨by rfl, ?_⟩; intro w hSw; (try dsimp only at hSw); go_simp; done)
      | (refine Or.inl ⟨by rfl, ?_⟩; intro w hSw; (try dsimp only at hSw); go_simp; with_reducible rfl)
    try simp only [Act.put, List.setIfInBounds_toArray, List.set_cons_zero, List.set_cons_succ]
    refine wpAnyH_done (by kernel_rfl) ?_ _
    obtain ⟨k0, k1, k2, k3, kB, kl⟩ := hHeld
    go_wp2
    go_quiet (fail)
    go_wp2
    go_ret
    exact ⟨ret_int (by unfold ownOf; rw [hv, hp]; rfl), Bl.drewN kB _⟩

set_option maxHeartbeats 1600000 in
theorem c_sOwnerOf (ba bi fi si p : Int) (w : World) :
    Calls Try.prog 18 #[.agg #[.int .i64 ba, .int .i64 bi, .int .i64 fi, .int .i64 si], .int .i64 p] w fun e w' => e = .returned (.int .i64 (ownOf ba bi fi si p)) ∧ Below w.heap.size w w' := by
  cases hv : vPlan ba bi fi si
  · go_enter Try.func18, Try.ntmps18
    go_wp2
    refine wp_region_held_drew (S := (fun w' => w'.cell? ⟨w.heap.size, 0, none⟩ = some (.int .i64 ba) ∧ w'.cell? ⟨w.heap.size, 1, none⟩ = some (.int .i64 bi) ∧ w'.cell? ⟨w.heap.size, 2, none⟩ = some (.int .i64 fi) ∧ w'.cell? ⟨w.heap.size, 3, none⟩ = some (.int .i64 si) ∧ Below w.heap.size w w' ∧ w.heap.size < w'.heap.size)) (by kernel_rfl) ?_ (fun hHeld => ?_)
    · (try dsimp only); first | exact ⟨by simp [go_sem], by simp [go_sem], by simp [go_sem], by simp [go_sem], Bl.drewN ((Below.refl _ _).alloc (Nat.le_refl _) _) 1, (Blk.new w _ _).lt⟩ | exact keep4c (by assumption) (by assumption) | exact keep4 (by assumption) (by first | assumption | simp [go_sem]) (by first | assumption | simp [go_sem]) (by first | assumption | simp [go_sem]) (by first | assumption | simp [go_sem]) (by first | assumption | exact Bl.drewN ((Below.refl _ _).alloc (Nat.le_refl _) _) 1) (by first | assumption | exact (Blk.new w _ _).lt)
    refine wpAnyH_take (i := 0) (v := ?_) (arr_at rfl) (by kernel_rfl) (by kernel_rfl) (by kernel_rfl) (fun _ _ _ h => h) ?_ (by assumption) ?_
    rotate_left
    · first
      | (refine Or.inr ⟨by rfl, ?_⟩; with_reducible rfl)
      | (refine Or.inl ⟨by rfl, ?_⟩; intro w hSw; (try dsimp only at hSw); go_simp; done)
      | (refine Or.inl ⟨by rfl, ?_⟩; intro w hSw; (try dsimp only at hSw); go_simp; with_reducible rfl)
    try simp only [Act.put, List.setIfInBounds_toArray, List.set_cons_zero, List.set_cons_succ]
    refine wpAnyH_ready (rs := [1]) (by kernel_rfl) (by simp) ?_
    refine AllReadyH.cons (arr_at rfl) (fun K hK => ?_) AllReadyH.nil
    go_simp
    go_at_call 41; refine (c_validPlan _ _ _ _ _).mono ?_; rw [hv]; rintro e w1 ⟨rfl, hq⟩
    refine hK.out _ _ ?_ (fun hHeld => ?_)
    · (try dsimp only); first | exact ⟨by simp [go_sem], by simp [go_sem], by simp [go_sem], by simp [go_sem], Bl.drewN ((Below.refl _ _).alloc (Nat.le_refl _) _) 1, (Blk.new w _ _).lt⟩ | exact keep4c (by assumption) (by assumption) | exact keep4 (by assumption) (by first | assumption | simp [go_sem]) (by first | assumption | simp [go_sem]) (by first | assumption | simp [go_sem]) (by first | assumption | simp [go_sem]) (by first | assumption | exact Bl.drewN ((Below.refl _ _).alloc (Nat.le_refl _) _) 1) (by first | assumption | exact (Blk.new w _ _).lt)
    clear hK K
    try simp only [Act.put, List.setIfInBounds_toArray, List.set_cons_zero, List.set_cons_succ]
    refine wpAnyH_take (i := 2) (v := ?_) (arr_at rfl) (by kernel_rfl) (by kernel_rfl) (by kernel_rfl) (fun _ _ _ h => h) ?_ (by assumption) ?_
    rotate_left
    · first
      | (refine Or.inr ⟨by rfl, ?_⟩; with_reducible rfl)
      | (refine Or.inl ⟨by rfl, ?_⟩; intro w hSw; (try dsimp only at hSw); go_simp; done)
      | (refine Or.inl ⟨by rfl, ?_⟩; intro w hSw; (try dsimp only at hSw); go_simp; with_reducible rfl)
    try simp only [Act.put, List.setIfInBounds_toArray, List.set_cons_zero, List.set_cons_succ]
    refine wpAnyH_take (i := 3) (v := ?_) (arr_at rfl) (by kernel_rfl) (by kernel_rfl) (by kernel_rfl) (fun _ _ _ h => h) ?_ (by assumption) ?_
    rotate_left
    · first
      | (refine Or.inr ⟨by rfl, ?_⟩; with_reducible rfl)
      | (refine Or.inl ⟨by rfl, ?_⟩; intro w hSw; (try dsimp only at hSw); go_simp; done)
      | (refine Or.inl ⟨by rfl, ?_⟩; intro w hSw; (try dsimp only at hSw); go_simp; with_reducible rfl)
    try simp only [Act.put, List.setIfInBounds_toArray, List.set_cons_zero, List.set_cons_succ]
    refine wpAnyH_take (i := 4) (v := ?_) (arr_at rfl) (by kernel_rfl) (by kernel_rfl) (by kernel_rfl) (fun _ _ _ h => h) ?_ (by assumption) ?_
    rotate_left
    · first
      | (refine Or.inr ⟨by rfl, ?_⟩; with_reducible rfl)
      | (refine Or.inl ⟨by rfl, ?_⟩; intro w hSw; (try dsimp only at hSw); go_simp; done)
      | (refine Or.inl ⟨by rfl, ?_⟩; intro w hSw; (try dsimp only at hSw); go_simp; with_reducible rfl)
    try simp only [Act.put, List.setIfInBounds_toArray, List.set_cons_zero, List.set_cons_succ]
    refine wpAnyH_take (i := 5) (v := ?_) (arr_at rfl) (by kernel_rfl) (by kernel_rfl) (by kernel_rfl) (fun _ _ _ h => h) ?_ (by assumption) ?_
    rotate_left
    · first
      | (refine Or.inr ⟨by rfl, ?_⟩; with_reducible rfl)
      | (refine Or.inl ⟨by rfl, ?_⟩; intro w hSw; (try dsimp only at hSw); go_simp; done)
      | (refine Or.inl ⟨by rfl, ?_⟩; intro w hSw; (try dsimp only at hSw); go_simp; with_reducible rfl)
    try simp only [Act.put, List.setIfInBounds_toArray, List.set_cons_zero, List.set_cons_succ]
    refine wpAnyH_take (i := 6) (v := ?_) (arr_at rfl) (by kernel_rfl) (by kernel_rfl) (by kernel_rfl) (fun _ _ _ h => h) ?_ (by assumption) ?_
    rotate_left
    · first
      | (refine Or.inr ⟨by rfl, ?_⟩; with_reducible rfl)
      | (refine Or.inl ⟨by rfl, ?_⟩; intro w hSw; (try dsimp only at hSw); go_simp; done)
      | (refine Or.inl ⟨by rfl, ?_⟩; intro w hSw; (try dsimp only at hSw); go_simp; with_reducible rfl)
    try simp only [Act.put, List.setIfInBounds_toArray, List.set_cons_zero, List.set_cons_succ]
    refine wpAnyH_take (i := 7) (v := ?_) (arr_at rfl) (by kernel_rfl) (by kernel_rfl) (by kernel_rfl) (fun _ _ _ h => h) ?_ (by assumption) ?_
    rotate_left
    · first
      | (refine Or.inr ⟨by rfl, ?_⟩; with_reducible rfl)
      | (refine Or.inl ⟨by rfl, ?_⟩; intro w hSw; (try dsimp only at hSw); go_simp; done)
      | (refine Or.inl ⟨by rfl, ?_⟩; intro w hSw; (try dsimp only at hSw); go_simp; with_reducible rfl)
    try simp only [Act.put, List.setIfInBounds_toArray, List.set_cons_zero, List.set_cons_succ]
    refine wpAnyH_take (i := 8) (v := ?_) (arr_at rfl) (by kernel_rfl) (by kernel_rfl) (by kernel_rfl) (fun _ _ _ h => h) ?_ (by assumption) ?_
    rotate_left
    · first
      | (refine Or.inr ⟨by rfl, ?_⟩; with_reducible rfl)
      | (refine Or.inl ⟨by rfl, ?_⟩; intro w hSw; (try dsimp only at hSw); go_simp; done)
      | (refine Or.inl ⟨by rfl, ?_⟩; intro w hSw; (try dsimp only at hSw); go_simp; with_reducible rfl)
    try simp only [Act.put, List.setIfInBounds_toArray, List.set_cons_zero, List.set_cons_succ]
    refine wpAnyH_take (i := 9) (v := ?_) (arr_at rfl) (by kernel_rfl) (by kernel_rfl) (by kernel_rfl) (fun _ _ _ h => h) ?_ (by assumption) ?_
    rotate_left
    · first
      | (refine Or.inr ⟨by rfl, ?_⟩; with_reducible rfl)
      | (refine Or.inl ⟨by rfl, ?_⟩; intro w hSw; (try dsimp only at hSw); go_simp; done)
      | (refine Or.inl ⟨by rfl, ?_⟩; intro w hSw; (try dsimp only at hSw); go_simp; with_reducible rfl)
    try simp only [Act.put, List.setIfInBounds_toArray, List.set_cons_zero, List.set_cons_succ]
    refine wpAnyH_take (i := 10) (v := ?_) (arr_at rfl) (by kernel_rfl) (by kernel_rfl) (by kernel_rfl) (fun _ _ _ h => h) ?_ (by assumption) ?_
    rotate_left
    · first
      | (refine Or.inr ⟨by rfl, ?_⟩; with_reducible rfl)
      | (refine Or.inl ⟨by rfl, ?_⟩; intro w hSw; (try dsimp only at hSw); go_simp; done)
      | (refine Or.inl ⟨by rfl, ?_⟩; intro w hSw; (try dsimp only at hSw); go_simp; with_reducible rfl)
    try simp only [Act.put, List.setIfInBounds_toArray, List.set_cons_zero, List.set_cons_succ]
    refine wpAnyH_take (i := 11) (v := ?_) (arr_at rfl) (by kernel_rfl) (by kernel_rfl) (by kernel_rfl) (fun _ _ _ h => h) ?_ (by assumption) ?_
    rotate_left
    · first
      | (refine Or.inr ⟨by rfl, ?_⟩; with_reducible rfl)
      | (refine Or.inl ⟨by rfl, ?_⟩; intro w hSw; (try dsimp only at hSw); go_simp; done)
      | (refine Or.inl ⟨by rfl, ?_⟩; intro w hSw; (try dsimp only at hSw); go_simp; with_reducible rfl)
    try simp only [Act.put, List.setIfInBounds_toArray, List.set_cons_zero, List.set_cons_succ]
    refine wpAnyH_take (i := 12) (v := ?_) (arr_at rfl) (by kernel_rfl) (by kernel_rfl) (by kernel_rfl) (fun _ _ _ h => h) ?_ (by assumption) ?_
    rotate_left
    · first
      | (refine Or.inr ⟨by rfl, ?_⟩; with_reducible rfl)
      | (refine Or.inl ⟨by rfl, ?_⟩; intro w hSw; (try dsimp only at hSw); go_simp; done)
      | (refine Or.inl ⟨by rfl, ?_⟩; intro w hSw; (try dsimp only at hSw); go_simp; with_reducible rfl)
    try simp only [Act.put, List.setIfInBounds_toArray, List.set_cons_zero, List.set_cons_succ]
    refine wpAnyH_take (i := 13) (v := ?_) (arr_at rfl) (by kernel_rfl) (by kernel_rfl) (by kernel_rfl) (fun _ _ _ h => h) ?_ (by assumption) ?_
    rotate_left
    · first
      | (refine Or.inr ⟨by rfl, ?_⟩; with_reducible rfl)
      | (refine Or.inl ⟨by rfl, ?_⟩; intro w hSw; (try dsimp only at hSw); go_simp; done)
      | (refine Or.inl ⟨by rfl, ?_⟩; intro w hSw; (try dsimp only at hSw); go_simp; with_reducible rfl)
    try simp only [Act.put, List.setIfInBounds_toArray, List.set_cons_zero, List.set_cons_succ]
    refine wpAnyH_take (i := 14) (v := ?_) (arr_at rfl) (by kernel_rfl) (by kernel_rfl) (by kernel_rfl) (fun _ _ _ h => h) ?_ (by assumption) ?_
    rotate_left
    · first
      | (refine Or.inr ⟨by rfl, ?_⟩; with_reducible rfl)
      | (refine Or.inl ⟨by rfl, ?_⟩; intro w hSw; (try dsimp only at hSw); go_simp; done)
      | (refine Or.inl ⟨by rfl, ?_⟩; intro w hSw; (try dsimp only at hSw); go_simp; with_reducible rfl)
    try simp only [Act.put, List.setIfInBounds_toArray, List.set_cons_zero, List.set_cons_succ]
    refine wpAnyH_take (i := 15) (v := ?_) (arr_at rfl) (by kernel_rfl) (by kernel_rfl) (by kernel_rfl) (fun _ _ _ h => h) ?_ (by assumption) ?_
    rotate_left
    · first
      | (refine Or.inr ⟨by rfl, ?_⟩; with_reducible rfl)
      | (refine Or.inl ⟨by rfl, ?_⟩; intro w hSw; (try dsimp only at hSw); go_simp; done)
      | (refine Or.inl ⟨by rfl, ?_⟩; intro w hSw; (try dsimp only at hSw); go_simp; with_reducible rfl)
    try simp only [Act.put, List.setIfInBounds_toArray, List.set_cons_zero, List.set_cons_succ]
    refine wpAnyH_take (i := 16) (v := ?_) (arr_at rfl) (by kernel_rfl) (by kernel_rfl) (by kernel_rfl) (fun _ _ _ h => h) ?_ (by assumption) ?_
    rotate_left
    · first
      | (refine Or.inr ⟨by rfl, ?_⟩; with_reducible rfl)
      | (refine Or.inl ⟨by rfl, ?_⟩; intro w hSw; (try dsimp only at hSw); go_simp; done)
      | (refine Or.inl ⟨by rfl, ?_⟩; intro w hSw; (try dsimp only at hSw); go_simp; with_reducible rfl)
    try simp only [Act.put, List.setIfInBounds_toArray, List.set_cons_zero, List.set_cons_succ]
    refine wpAnyH_take (i := 17) (v := ?_) (arr_at rfl) (by kernel_rfl) (by kernel_rfl) (by kernel_rfl) (fun _ _ _ h => h) ?_ (by assumption) ?_
    rotate_left
    · first
      | (refine Or.inr ⟨by rfl, ?_⟩; with_reducible rfl)
      | (refine Or.inl ⟨by rfl, ?_⟩; intro w hSw; (try dsimp only at hSw); go_simp; done)
      | (refine Or.inl ⟨by rfl, ?_⟩; intro w hSw; (try dsimp only at hSw); go_simp; with_reducible rfl)
    try simp only [Act.put, List.setIfInBounds_toArray, List.set_cons_zero, List.set_cons_succ]
    refine wpAnyH_take (i := 18) (v := ?_) (arr_at rfl) (by kernel_rfl) (by kernel_rfl) (by kernel_rfl) (fun _ _ _ h => h) ?_ (by assumption) ?_
    rotate_left
    · first
      | (refine Or.inr ⟨by rfl, ?_⟩; with_reducible rfl)
      | (refine Or.inl ⟨by rfl, ?_⟩; intro w hSw; (try dsimp only at hSw); go_simp; done)
      | (refine Or.inl ⟨by rfl, ?_⟩; intro w hSw; (try dsimp only at hSw); go_simp; with_reducible rfl)
    try simp only [Act.put, List.setIfInBounds_toArray, List.set_cons_zero, List.set_cons_succ]
    refine wpAnyH_take (i := 19) (v := ?_) (arr_at rfl) (by kernel_rfl) (by kernel_rfl) (by kernel_rfl) (fun _ _ _ h => h) ?_ (by assumption) ?_
    rotate_left
    · first
      | (refine Or.inr ⟨by rfl, ?_⟩; with_reducible rfl)
      | (refine Or.inl ⟨by rfl, ?_⟩; intro w hSw; (try dsimp only at hSw); go_simp; done)
      | (refine Or.inl ⟨by rfl, ?_⟩; intro w hSw; (try dsimp only at hSw); go_simp; with_reducible rfl)
    try simp only [Act.put, List.setIfInBounds_toArray, List.set_cons_zero, List.set_cons_succ]
    refine wpAnyH_done (by kernel_rfl) ?_ _
    go_wp2
    go_ret
    exact ⟨ret_int (by unfold ownOf; rw [hv]; rfl), hHeld.2.2.2.2.1⟩
  have hn := vPlan_net hv
  have hb := vNet_bits hn
  have hs := vPlan_size hv
  have hf := vPlan_first hv
  have hm := szsi hb (inB_mk hs.1 hs.2)
  have hm' : si * sz bi = sz bi * si := Int.mul_comm _ _
  have e1 : IntKind.i64.wrap (sz bi * si) = sz bi * si := IntWalk.i64_in _ (by omega)
  have e2 : IntKind.i64.wrap (fi + sz bi * si) = fi + sz bi * si := IntWalk.i64_in _ (by omega)
  have e3 : IntKind.i64.wrap (fi + sz bi * si - 1) = fi + sz bi * si - 1 := IntWalk.i64_in _ (by omega)
  cases hp : inB p fi (fi + sz bi * si - 1)
  · clear hm hs hf
    go_enter Try.func18, Try.ntmps18
    go_wp2
    refine wp_region_held_drew (S := (fun w' => w'.cell? ⟨w.heap.size, 0, none⟩ = some (.int .i64 ba) ∧ w'.cell? ⟨w.heap.size, 1, none⟩ = some (.int .i64 bi) ∧ w'.cell? ⟨w.heap.size, 2, none⟩ = some (.int .i64 fi) ∧ w'.cell? ⟨w.heap.size, 3, none⟩ = some (.int .i64 si) ∧ Below w.heap.size w w' ∧ w.heap.size < w'.heap.size)) (by kernel_rfl) ?_ (fun hHeld => ?_)
    · (try dsimp only); first | exact ⟨by simp [go_sem], by simp [go_sem], by simp [go_sem], by simp [go_sem], Bl.drewN ((Below.refl _ _).alloc (Nat.le_refl _) _) 1, (Blk.new w _ _).lt⟩ | exact keep4c (by assumption) (by assumption) | exact keep4 (by assumption) (by first | assumption | simp [go_sem]) (by first | assumption | simp [go_sem]) (by first | assumption | simp [go_sem]) (by first | assumption | simp [go_sem]) (by first | assumption | exact Bl.drewN ((Below.refl _ _).alloc (Nat.le_refl _) _) 1) (by first | assumption | exact (Blk.new w _ _).lt)
    refine wpAnyH_take (i := 0) (v := ?_) (arr_at rfl) (by kernel_rfl) (by kernel_rfl) (by kernel_rfl) (fun _ _ _ h => h) ?_ (by assumption) ?_
    rotate_left
    · first
      | (refine Or.inr ⟨by rfl, ?_⟩; with_reducible rfl)
      | (refine Or.inl ⟨by rfl, ?_⟩; intro w hSw; (try dsimp only at hSw); go_simp; done)
      | (refine Or.inl ⟨by rfl, ?_⟩; intro w hSw; (try dsimp only at hSw); go_simp; with_reducible rfl)
    try simp only [Act.put, List.setIfInBounds_toArray, List.set_cons_zero, List.set_cons_succ]
    refine wpAnyH_ready (rs := [1]) (by kernel_rfl) (by simp) ?_
    refine AllReadyH.cons (arr_at rfl) (fun K hK => ?_) AllReadyH.nil
    go_simp
    go_at_call 41; refine (c_validPlan _ _ _ _ _).mono ?_; rw [hv]; rintro e w1 ⟨rfl, hq⟩
    refine hK.out _ _ ?_ (fun hHeld => ?_)
    · (try dsimp only); first | exact ⟨by simp [go_sem], by simp [go_sem], by simp [go_sem], by simp [go_sem], Bl.drewN ((Below.refl _ _).alloc (Nat.le_refl _) _) 1, (Blk.new w _ _).lt⟩ | exact keep4c (by assumption) (by assumption) | exact keep4 (by assumption) (by first | assumption | simp [go_sem]) (by first | assumption | simp [go_sem]) (by first | assumption | simp [go_sem]) (by first | assumption | simp [go_sem]) (by first | assumption | exact Bl.drewN ((Below.refl _ _).alloc (Nat.le_refl _) _) 1) (by first | assumption | exact (Blk.new w _ _).lt)
    clear hK K
    try simp only [Act.put, List.setIfInBounds_toArray, List.set_cons_zero, List.set_cons_succ]
    refine wpAnyH_take (i := 2) (v := ?_) (arr_at rfl) (by kernel_rfl) (by kernel_rfl) (by kernel_rfl) (fun _ _ _ h => h) ?_ (by assumption) ?_
    rotate_left
    · first
      | (refine Or.inr ⟨by rfl, ?_⟩; with_reducible rfl)
      | (refine Or.inl ⟨by rfl, ?_⟩; intro w hSw; (try dsimp only at hSw); go_simp; done)
      | (refine Or.inl ⟨by rfl, ?_⟩; intro w hSw; (try dsimp only at hSw); go_simp; with_reducible rfl)
    try simp only [Act.put, List.setIfInBounds_toArray, List.set_cons_zero, List.set_cons_succ]
    refine wpAnyH_take (i := 3) (v := ?_) (arr_at rfl) (by kernel_rfl) (by kernel_rfl) (by kernel_rfl) (fun _ _ _ h => h) ?_ (by assumption) ?_
    rotate_left
    · first
      | (refine Or.inr ⟨by rfl, ?_⟩; with_reducible rfl)
      | (refine Or.inl ⟨by rfl, ?_⟩; intro w hSw; (try dsimp only at hSw); go_simp; done)
      | (refine Or.inl ⟨by rfl, ?_⟩; intro w hSw; (try dsimp only at hSw); go_simp; with_reducible rfl)
    try simp only [Act.put, List.setIfInBounds_toArray, List.set_cons_zero, List.set_cons_succ]
    refine wpAnyH_take (i := 4) (v := ?_) (arr_at rfl) (by kernel_rfl) (by kernel_rfl) (by kernel_rfl) (fun _ _ _ h => h) ?_ (by assumption) ?_
    rotate_left
    · first
      | (refine Or.inr ⟨by rfl, ?_⟩; with_reducible rfl)
      | (refine Or.inl ⟨by rfl, ?_⟩; intro w hSw; (try dsimp only at hSw); go_simp; done)
      | (refine Or.inl ⟨by rfl, ?_⟩; intro w hSw; (try dsimp only at hSw); go_simp; with_reducible rfl)
    try simp only [Act.put, List.setIfInBounds_toArray, List.set_cons_zero, List.set_cons_succ]
    refine wpAnyH_take (i := 5) (v := ?_) (arr_at rfl) (by kernel_rfl) (by kernel_rfl) (by kernel_rfl) (fun _ _ _ h => h) ?_ (by assumption) ?_
    rotate_left
    · first
      | (refine Or.inr ⟨by rfl, ?_⟩; with_reducible rfl)
      | (refine Or.inl ⟨by rfl, ?_⟩; intro w hSw; (try dsimp only at hSw); go_simp; done)
      | (refine Or.inl ⟨by rfl, ?_⟩; intro w hSw; (try dsimp only at hSw); go_simp; with_reducible rfl)
    try simp only [Act.put, List.setIfInBounds_toArray, List.set_cons_zero, List.set_cons_succ]
    refine wpAnyH_take (i := 6) (v := ?_) (arr_at rfl) (by kernel_rfl) (by kernel_rfl) (by kernel_rfl) (fun _ _ _ h => h) ?_ (by assumption) ?_
    rotate_left
    · first
      | (refine Or.inr ⟨by rfl, ?_⟩; with_reducible rfl)
      | (refine Or.inl ⟨by rfl, ?_⟩; intro w hSw; (try dsimp only at hSw); go_simp; done)
      | (refine Or.inl ⟨by rfl, ?_⟩; intro w hSw; (try dsimp only at hSw); go_simp; with_reducible rfl)
    try simp only [Act.put, List.setIfInBounds_toArray, List.set_cons_zero, List.set_cons_succ]
    refine wpAnyH_take (i := 7) (v := ?_) (arr_at rfl) (by kernel_rfl) (by kernel_rfl) (by kernel_rfl) (fun _ _ _ h => h) ?_ (by assumption) ?_
    rotate_left
    · first
      | (refine Or.inr ⟨by rfl, ?_⟩; with_reducible rfl)
      | (refine Or.inl ⟨by rfl, ?_⟩; intro w hSw; (try dsimp only at hSw); go_simp; done)
      | (refine Or.inl ⟨by rfl, ?_⟩; intro w hSw; (try dsimp only at hSw); go_simp; with_reducible rfl)
    try simp only [Act.put, List.setIfInBounds_toArray, List.set_cons_zero, List.set_cons_succ]
    refine wpAnyH_take (i := 8) (v := ?_) (arr_at rfl) (by kernel_rfl) (by kernel_rfl) (by kernel_rfl) (fun _ _ _ h => h) ?_ (by assumption) ?_
    rotate_left
    · first
      | (refine Or.inr ⟨by rfl, ?_⟩; with_reducible rfl)
      | (refine Or.inl ⟨by rfl, ?_⟩; intro w hSw; (try dsimp only at hSw); go_simp; done)
      | (refine Or.inl ⟨by rfl, ?_⟩; intro w hSw; (try dsimp only at hSw); go_simp; with_reducible rfl)
    try simp only [Act.put, List.setIfInBounds_toArray, List.set_cons_zero, List.set_cons_succ]
    refine wpAnyH_take (i := 9) (v := ?_) (arr_at rfl) (by kernel_rfl) (by kernel_rfl) (by kernel_rfl) (fun _ _ _ h => h) ?_ (by assumption) ?_
    rotate_left
    · first
      | (refine Or.inr ⟨by rfl, ?_⟩; with_reducible rfl)
      | (refine Or.inl ⟨by rfl, ?_⟩; intro w hSw; (try dsimp only at hSw); go_simp; done)
      | (refine Or.inl ⟨by rfl, ?_⟩; intro w hSw; (try dsimp only at hSw); go_simp; with_reducible rfl)
    try simp only [Act.put, List.setIfInBounds_toArray, List.set_cons_zero, List.set_cons_succ]
    refine wpAnyH_take (i := 10) (v := ?_) (arr_at rfl) (by kernel_rfl) (by kernel_rfl) (by kernel_rfl) (fun _ _ _ h => h) ?_ (by assumption) ?_
    rotate_left
    · first
      | (refine Or.inr ⟨by rfl, ?_⟩; with_reducible rfl)
      | (refine Or.inl ⟨by rfl, ?_⟩; intro w hSw; (try dsimp only at hSw); go_simp; done)
      | (refine Or.inl ⟨by rfl, ?_⟩; intro w hSw; (try dsimp only at hSw); go_simp; with_reducible rfl)
    try simp only [Act.put, List.setIfInBounds_toArray, List.set_cons_zero, List.set_cons_succ]
    refine wpAnyH_take (i := 11) (v := ?_) (arr_at rfl) (by kernel_rfl) (by kernel_rfl) (by kernel_rfl) (fun _ _ _ h => h) ?_ (by assumption) ?_
    rotate_left
    · first
      | (refine Or.inr ⟨by rfl, ?_⟩; with_reducible rfl)
      | (refine Or.inl ⟨by rfl, ?_⟩; intro w hSw; (try dsimp only at hSw); go_simp; done)
      | (refine Or.inl ⟨by rfl, ?_⟩; intro w hSw; (try dsimp only at hSw); go_simp; with_reducible rfl)
    try simp only [Act.put, List.setIfInBounds_toArray, List.set_cons_zero, List.set_cons_succ]
    refine wpAnyH_take (i := 12) (v := ?_) (arr_at rfl) (by kernel_rfl) (by kernel_rfl) (by kernel_rfl) (fun _ _ _ h => h) ?_ (by assumption) ?_
    rotate_left
    · first
      | (refine Or.inr ⟨by rfl, ?_⟩; with_reducible rfl)
      | (refine Or.inl ⟨by rfl, ?_⟩; intro w hSw; (try dsimp only at hSw); go_simp; done)
      | (refine Or.inl ⟨by rfl, ?_⟩; intro w hSw; (try dsimp only at hSw); go_simp; with_reducible rfl)
    try simp only [Act.put, List.setIfInBounds_toArray, List.set_cons_zero, List.set_cons_succ]
    refine wpAnyH_ready (rs := [13]) (by kernel_rfl) (by simp) ?_
    refine AllReadyH.cons (arr_at rfl) (fun K hK => ?_) AllReadyH.nil
    go_simp
    go_at_call 43; refine (c_ssize _ _ _ hb).mono ?_; rintro e w' ⟨rfl, hq⟩
    refine hK.out _ _ ?_ (fun hHeld => ?_)
    · (try dsimp only); first | exact ⟨by simp [go_sem], by simp [go_sem], by simp [go_sem], by simp [go_sem], Bl.drewN ((Below.refl _ _).alloc (Nat.le_refl _) _) 1, (Blk.new w _ _).lt⟩ | exact keep4c (by assumption) (by assumption) | exact keep4 (by assumption) (by first | assumption | simp [go_sem]) (by first | assumption | simp [go_sem]) (by first | assumption | simp [go_sem]) (by first | assumption | simp [go_sem]) (by first | assumption | exact Bl.drewN ((Below.refl _ _).alloc (Nat.le_refl _) _) 1) (by first | assumption | exact (Blk.new w _ _).lt)
    clear hK K
    try simp only [Act.put, List.setIfInBounds_toArray, List.set_cons_zero, List.set_cons_succ]
    refine wpAnyH_take (i := 14) (v := ?_) (arr_at rfl) (by kernel_rfl) (by kernel_rfl) (by kernel_rfl) (fun _ _ _ h => h) ?_ (by assumption) ?_
    rotate_left
    · first
      | (refine Or.inr ⟨by rfl, ?_⟩; with_reducible rfl)
      | (refine Or.inl ⟨by rfl, ?_⟩; intro w hSw; (try dsimp only at hSw); go_simp; done)
      | (refine Or.inl ⟨by rfl, ?_⟩; intro w hSw; (try dsimp only at hSw); go_simp; with_reducible rfl)
    try simp only [Act.put, List.setIfInBounds_toArray, List.set_cons_zero, List.set_cons_succ]
    refine wpAnyH_take (i := 15) (v := ?_) (arr_at rfl) (by kernel_rfl) (by kernel_rfl) (by kernel_rfl) (fun _ _ _ h => h) ?_ (by assumption) ?_
    rotate_left
    · first
      | (refine Or.inr ⟨by rfl, ?_⟩; with_reducible rfl)
      | (refine Or.inl ⟨by rfl, ?_⟩; intro w hSw; (try dsimp only at hSw); go_simp; done)
      | (refine Or.inl ⟨by rfl, ?_⟩; intro w hSw; (try dsimp only at hSw); go_simp; with_reducible rfl)
    try simp only [Act.put, List.setIfInBounds_toArray, List.set_cons_zero, List.set_cons_succ]
    refine wpAnyH_take (i := 16) (v := ?_) (arr_at rfl) (by kernel_rfl) (by kernel_rfl) (by kernel_rfl) (fun _ _ _ h => h) ?_ (by assumption) ?_
    rotate_left
    · first
      | (refine Or.inr ⟨by rfl, ?_⟩; with_reducible rfl)
      | (refine Or.inl ⟨by rfl, ?_⟩; intro w hSw; (try dsimp only at hSw); go_simp; done)
      | (refine Or.inl ⟨by rfl, ?_⟩; intro w hSw; (try dsimp only at hSw); go_simp; with_reducible rfl)
    try simp only [Act.put, List.setIfInBounds_toArray, List.set_cons_zero, List.set_cons_succ]
    refine wpAnyH_ready (rs := [17]) (by kernel_rfl) (by simp) ?_
    refine AllReadyH.cons (arr_at rfl) (fun K hK => ?_) AllReadyH.nil
    go_simp
    go_at_call 42; refine (c_inRangeV _ _ _ _ _ hp).mono ?_; rintro e w' ⟨rfl, rfl⟩
    refine hK.out _ _ ?_ (fun hHeld => ?_)
    · (try dsimp only); first | exact ⟨by simp [go_sem], by simp [go_sem], by simp [go_sem], by simp [go_sem], Bl.drewN ((Below.refl _ _).alloc (Nat.le_refl _) _) 1, (Blk.new w _ _).lt⟩ | exact keep4c (by assumption) (by assumption) | exact keep4 (by assumption) (by first | assumption | simp [go_sem]) (by first | assumption | simp [go_sem]) (by first | assumption | simp [go_sem]) (by first | assumption | simp [go_sem]) (by first | assumption | exact Bl.drewN ((Below.refl _ _).alloc (Nat.le_refl _) _) 1) (by first | assumption | exact (Blk.new w _ _).lt)
    clear hK K
    try simp only [Act.put, List.setIfInBounds_toArray, List.set_cons_zero, List.set_cons_succ]
    refine wpAnyH_take (i := 18) (v := ?_) (arr_at rfl) (by kernel_rfl) (by kernel_rfl) (by kernel_rfl) (fun _ _ _ h => h) ?_ (by assumption) ?_
    rotate_left
    · first
      | (refine Or.inr ⟨by rfl, ?_⟩; with_reducible rfl)
      | (refine Or.inl ⟨by rfl, ?_⟩; intro w hSw; (try dsimp only at hSw); go_simp; done)
      | (refine Or.inl ⟨by rfl, ?_⟩; intro w hSw; (try dsimp only at hSw); go_simp; with_reducible rfl)
    try simp only [Act.put, List.setIfInBounds_toArray, List.set_cons_zero, List.set_cons_succ]
    refine wpAnyH_take (i := 19) (v := ?_) (arr_at rfl) (by kernel_rfl) (by kernel_rfl) (by kernel_rfl) (fun _ _ _ h => h) ?_ (by assumption) ?_
    rotate_left
    · first
      | (refine Or.inr ⟨by rfl, ?_⟩; with_reducible rfl)
      | (refine Or.inl ⟨by rfl, ?_⟩; intro w hSw; (try dsimp only at hSw); go_simp; done)
      | (refine Or.inl ⟨by rfl, ?_⟩; intro w hSw; (try dsimp only at hSw); go_simp; with_reducible rfl)
    try simp only [Act.put, List.setIfInBounds_toArray, List.set_cons_zero, List.set_cons_succ]
    refine wpAnyH_done (by kernel_rfl) ?_ _
    go_wp2
    go_ret
    exact ⟨ret_int (by unfold ownOf; rw [hv, hp]; rfl), hHeld.2.2.2.2.1⟩
  · have hpp := inB_true hp
    have hba := inB_true (vNet_base hn)
    have hd : 0 ≤ (p - fi).tdiv si ∧ (p - fi).tdiv si ≤ p - fi := by
      rw [Int.tdiv_eq_ediv_of_nonneg (by omega)]
      exact ⟨Int.ediv_nonneg (by omega) (by omega), Int.ediv_le_self _ (by omega)⟩
    have e4 : IntKind.i64.wrap (p - fi) = p - fi := IntWalk.i64_in _ (by omega)
    have e5 : IntKind.i64.wrap (ba + (p - fi).tdiv si) = ba + (p - fi).tdiv si := IntWalk.i64_in _ (by omega)
    have e6 : IntKind.i64.wrap ((p - fi).tdiv si) = (p - fi).tdiv si := IntWalk.i64_in _ (by omega)
    have hz : si ≠ 0 := by omega
    clear hm hs hf hd hba hpp
    go_enter Try.func18, Try.ntmps18
    go_wp2
    refine wp_region_held_drew (S := (fun w' => w'.cell? ⟨w.heap.size, 0, none⟩ = some (.int .i64 ba) ∧ w'.cell? ⟨w.heap.size, 1, none⟩ = some (.int .i64 bi) ∧ w'.cell? ⟨w.heap.size, 2, none⟩ = some (.int .i64 fi) ∧ w'.cell? ⟨w.heap.size, 3, none⟩ = some (.int .i64 si) ∧ Below w.heap.size w w' ∧ w.heap.size < w'.heap.size)) (by kernel_rfl) ?_ (fun hHeld => ?_)
    · (try dsimp only); first | exact ⟨by simp [go_sem], by simp [go_sem], by simp [go_sem], by simp [go_sem], Bl.drewN ((Below.refl _ _).alloc (Nat.le_refl _) _) 1, (Blk.new w _ _).lt⟩ | exact keep4c (by assumption) (by assumption) | exact keep4 (by assumption) (by first | assumption | simp [go_sem]) (by first | assumption | simp [go_sem]) (by first | assumption | simp [go_sem]) (by first | assumption | simp [go_sem]) (by first | assumption | exact Bl.drewN ((Below.refl _ _).alloc (Nat.le_refl _) _) 1) (by first | assumption | exact (Blk.new w _ _).lt)
    refine wpAnyH_take (i := 0) (v := ?_) (arr_at rfl) (by kernel_rfl) (by kernel_rfl) (by kernel_rfl) (fun _ _ _ h => h) ?_ (by assumption) ?_
    rotate_left
    · first
      | (refine Or.inr ⟨by rfl, ?_⟩; with_reducible rfl)
      | (refine Or.inl ⟨by rfl, ?_⟩; intro w hSw; (try dsimp only at hSw); go_simp; done)
      | (refine Or.inl ⟨by rfl, ?_⟩; intro w hSw; (try dsimp only at hSw); go_simp; with_reducible rfl)
    try simp only [Act.put, List.setIfInBounds_toArray, List.set_cons_zero, List.set_cons_succ]
    refine wpAnyH_ready (rs := [1]) (by kernel_rfl) (by simp) ?_
    refine AllReadyH.cons (arr_at rfl) (fun K hK => ?_) AllReadyH.nil
    go_simp
    go_at_call 41; refine (c_validPlan _ _ _ _ _).mono ?_; rw [hv]; rintro e w1 ⟨rfl, hq⟩
    refine hK.out _ _ ?_ (fun hHeld => ?_)
    · (try dsimp only); first | exact ⟨by simp [go_sem], by simp [go_sem], by simp [go_sem], by simp [go_sem], Bl.drewN ((Below.refl _ _).alloc (Nat.le_refl _) _) 1, (Blk.new w _ _).lt⟩ | exact keep4c (by assumption) (by assumption) | exact keep4 (by assumption) (by first | assumption | simp [go_sem]) (by first | assumption | simp [go_sem]) (by first | assumption | simp [go_sem]) (by first | assumption | simp [go_sem]) (by first | assumption | exact Bl.drewN ((Below.refl _ _).alloc (Nat.le_refl _) _) 1) (by first | assumption | exact (Blk.new w _ _).lt)
    clear hK K
    try simp only [Act.put, List.setIfInBounds_toArray, List.set_cons_zero, List.set_cons_succ]
    refine wpAnyH_take (i := 2) (v := ?_) (arr_at rfl) (by kernel_rfl) (by kernel_rfl) (by kernel_rfl) (fun _ _ _ h => h) ?_ (by assumption) ?_
    rotate_left
    · first
      | (refine Or.inr ⟨by rfl, ?_⟩; with_reducible rfl)
      | (refine Or.inl ⟨by rfl, ?_⟩; intro w hSw; (try dsimp only at hSw); go_simp; done)
      | (refine Or.inl ⟨by rfl, ?_⟩; intro w hSw; (try dsimp only at hSw); go_simp; with_reducible rfl)
    try simp only [Act.put, List.setIfInBounds_toArray, List.set_cons_zero, List.set_cons_succ]
    refine wpAnyH_take (i := 3) (v := ?_) (arr_at rfl) (by kernel_rfl) (by kernel_rfl) (by kernel_rfl) (fun _ _ _ h => h) ?_ (by assumption) ?_
    rotate_left
    · first
      | (refine Or.inr ⟨by rfl, ?_⟩; with_reducible rfl)
      | (refine Or.inl ⟨by rfl, ?_⟩; intro w hSw; (try dsimp only at hSw); go_simp; done)
      | (refine Or.inl ⟨by rfl, ?_⟩; intro w hSw; (try dsimp only at hSw); go_simp; with_reducible rfl)
    try simp only [Act.put, List.setIfInBounds_toArray, List.set_cons_zero, List.set_cons_succ]
    refine wpAnyH_take (i := 4) (v := ?_) (arr_at rfl) (by kernel_rfl) (by kernel_rfl) (by kernel_rfl) (fun _ _ _ h => h) ?_ (by assumption) ?_
    rotate_left
    · first
      | (refine Or.inr ⟨by rfl, ?_⟩; with_reducible rfl)
      | (refine Or.inl ⟨by rfl, ?_⟩; intro w hSw; (try dsimp only at hSw); go_simp; done)
      | (refine Or.inl ⟨by rfl, ?_⟩; intro w hSw; (try dsimp only at hSw); go_simp; with_reducible rfl)
    try simp only [Act.put, List.setIfInBounds_toArray, List.set_cons_zero, List.set_cons_succ]
    refine wpAnyH_take (i := 5) (v := ?_) (arr_at rfl) (by kernel_rfl) (by kernel_rfl) (by kernel_rfl) (fun _ _ _ h => h) ?_ (by assumption) ?_
    rotate_left
    · first
      | (refine Or.inr ⟨by rfl, ?_⟩; with_reducible rfl)
      | (refine Or.inl ⟨by rfl, ?_⟩; intro w hSw; (try dsimp only at hSw); go_simp; done)
      | (refine Or.inl ⟨by rfl, ?_⟩; intro w hSw; (try dsimp only at hSw); go_simp; with_reducible rfl)
    try simp only [Act.put, List.setIfInBounds_toArray, List.set_cons_zero, List.set_cons_succ]
    refine wpAnyH_take (i := 6) (v := ?_) (arr_at rfl) (by kernel_rfl) (by kernel_rfl) (by kernel_rfl) (fun _ _ _ h => h) ?_ (by assumption) ?_
    rotate_left
    · first
      | (refine Or.inr ⟨by rfl, ?_⟩; with_reducible rfl)
      | (refine Or.inl ⟨by rfl, ?_⟩; intro w hSw; (try dsimp only at hSw); go_simp; done)
      | (refine Or.inl ⟨by rfl, ?_⟩; intro w hSw; (try dsimp only at hSw); go_simp; with_reducible rfl)
    try simp only [Act.put, List.setIfInBounds_toArray, List.set_cons_zero, List.set_cons_succ]
    refine wpAnyH_take (i := 7) (v := ?_) (arr_at rfl) (by kernel_rfl) (by kernel_rfl) (by kernel_rfl) (fun _ _ _ h => h) ?_ (by assumption) ?_
    rotate_left
    · first
      | (refine Or.inr ⟨by rfl, ?_⟩; with_reducible rfl)
      | (refine Or.inl ⟨by rfl, ?_⟩; intro w hSw; (try dsimp only at hSw); go_simp; done)
      | (refine Or.inl ⟨by rfl, ?_⟩; intro w hSw; (try dsimp only at hSw); go_simp; with_reducible rfl)
    try simp only [Act.put, List.setIfInBounds_toArray, List.set_cons_zero, List.set_cons_succ]
    refine wpAnyH_take (i := 8) (v := ?_) (arr_at rfl) (by kernel_rfl) (by kernel_rfl) (by kernel_rfl) (fun _ _ _ h => h) ?_ (by assumption) ?_
    rotate_left
    · first
      | (refine Or.inr ⟨by rfl, ?_⟩; with_reducible rfl)
      | (refine Or.inl ⟨by rfl, ?_⟩; intro w hSw; (try dsimp only at hSw); go_simp; done)
      | (refine Or.inl ⟨by rfl, ?_⟩; intro w hSw; (try dsimp only at hSw); go_simp; with_reducible rfl)
    try simp only [Act.put, List.setIfInBounds_toArray, List.set_cons_zero, List.set_cons_succ]
    refine wpAnyH_take (i := 9) (v := ?_) (arr_at rfl) (by kernel_rfl) (by kernel_rfl) (by kernel_rfl) (fun _ _ _ h => h) ?_ (by assumption) ?_
    rotate_left
    · first
      | (refine Or.inr ⟨by rfl, ?_⟩; with_reducible rfl)
      | (refine Or.inl ⟨by rfl, ?_⟩; intro w hSw; (try dsimp only at hSw); go_simp; done)
      | (refine Or.inl ⟨by rfl, ?_⟩; intro w hSw; (try dsimp only at hSw); go_simp; with_reducible rfl)
    try simp only [Act.put, List.setIfInBounds_toArray, List.set_cons_zero, List.set_cons_succ]
    refine wpAnyH_take (i := 10) (v := ?_) (arr_at rfl) (by kernel_rfl) (by kernel_rfl) (by kernel_rfl) (fun _ _ _ h => h) ?_ (by assumption) ?_
    rotate_left
    · first
      | (refine Or.inr ⟨by rfl, ?_⟩; with_reducible rfl)
      | (refine Or.inl ⟨by rfl, ?_⟩; intro w hSw; (try dsimp only at hSw); go_simp; done)
      | (refine Or.inl ⟨by rfl, ?_⟩; intro w hSw; (try dsimp only at hSw); go_simp; with_reducible rfl)
    try simp only [Act.put, List.setIfInBounds_toArray, List.set_cons_zero, List.set_cons_succ]
    refine wpAnyH_take (i := 11) (v := ?_) (arr_at rfl) (by kernel_rfl) (by kernel_rfl) (by kernel_rfl) (fun _ _ _ h => h) ?_ (by assumption) ?_
    rotate_left
    · first
      | (refine Or.inr ⟨by rfl, ?_⟩; with_reducible rfl)
      | (refine Or.inl ⟨by rfl, ?_⟩; intro w hSw; (try dsimp only at hSw); go_simp; done)
      | (refine Or.inl ⟨by rfl, ?_⟩; intro w hSw; (try dsimp only at hSw); go_simp; with_reducible rfl)
    try simp only [Act.put, List.setIfInBounds_toArray, List.set_cons_zero, List.set_cons_succ]
    refine wpAnyH_take (i := 12) (v := ?_) (arr_at rfl) (by kernel_rfl) (by kernel_rfl) (by kernel_rfl) (fun _ _ _ h => h) ?_ (by assumption) ?_
    rotate_left
    · first
      | (refine Or.inr ⟨by rfl, ?_⟩; with_reducible rfl)
      | (refine Or.inl ⟨by rfl, ?_⟩; intro w hSw; (try dsimp only at hSw); go_simp; done)
      | (refine Or.inl ⟨by rfl, ?_⟩; intro w hSw; (try dsimp only at hSw); go_simp; with_reducible rfl)
    try simp only [Act.put, List.setIfInBounds_toArray, List.set_cons_zero, List.set_cons_succ]
    refine wpAnyH_ready (rs := [13]) (by kernel_rfl) (by simp) ?_
    refine AllReadyH.cons (arr_at rfl) (fun K hK => ?_) AllReadyH.nil
    go_simp
    go_at_call 43; refine (c_ssize _ _ _ hb).mono ?_; rintro e w' ⟨rfl, hq⟩
    refine hK.out _ _ ?_ (fun hHeld => ?_)
    · (try dsimp only); first | exact ⟨by simp [go_sem], by simp [go_sem], by simp [go_sem], by simp [go_sem], Bl.drewN ((Below.refl _ _).alloc (Nat.le_refl _) _) 1, (Blk.new w _ _).lt⟩ | exact keep4c (by assumption) (by assumption) | exact keep4 (by assumption) (by first | assumption | simp [go_sem]) (by first | assumption | simp [go_sem]) (by first | assumption | simp [go_sem]) (by first | assumption | simp [go_sem]) (by first | assumption | exact Bl.drewN ((Below.refl _ _).alloc (Nat.le_refl _) _) 1) (by first | assumption | exact (Blk.new w _ _).lt)
    clear hK K
    try simp only [Act.put, List.setIfInBounds_toArray, List.set_cons_zero, List.set_cons_succ]
    refine wpAnyH_take (i := 14) (v := ?_) (arr_at rfl) (by kernel_rfl) (by kernel_rfl) (by kernel_rfl) (fun _ _ _ h => h) ?_ (by assumption) ?_
    rotate_left
    · first
      | (refine Or.inr ⟨by rfl, ?_⟩; with_reducible rfl)
      | (refine Or.inl ⟨by rfl, ?_⟩; intro w hSw; (try dsimp only at hSw); go_simp; done)
      | (refine Or.inl ⟨by rfl, ?_⟩; intro w hSw; (try dsimp only at hSw); go_simp; with_reducible rfl)
    try simp only [Act.put, List.setIfInBounds_toArray, List.set_cons_zero, List.set_cons_succ]
    refine wpAnyH_take (i := 15) (v := ?_) (arr_at rfl) (by kernel_rfl) (by kernel_rfl) (by kernel_rfl) (fun _ _ _ h => h) ?_ (by assumption) ?_
    rotate_left
    · first
      | (refine Or.inr ⟨by rfl, ?_⟩; with_reducible rfl)
      | (refine Or.inl ⟨by rfl, ?_⟩; intro w hSw; (try dsimp only at hSw); go_simp; done)
      | (refine Or.inl ⟨by rfl, ?_⟩; intro w hSw; (try dsimp only at hSw); go_simp; with_reducible rfl)
    try simp only [Act.put, List.setIfInBounds_toArray, List.set_cons_zero, List.set_cons_succ]
    refine wpAnyH_take (i := 16) (v := ?_) (arr_at rfl) (by kernel_rfl) (by kernel_rfl) (by kernel_rfl) (fun _ _ _ h => h) ?_ (by assumption) ?_
    rotate_left
    · first
      | (refine Or.inr ⟨by rfl, ?_⟩; with_reducible rfl)
      | (refine Or.inl ⟨by rfl, ?_⟩; intro w hSw; (try dsimp only at hSw); go_simp; done)
      | (refine Or.inl ⟨by rfl, ?_⟩; intro w hSw; (try dsimp only at hSw); go_simp; with_reducible rfl)
    try simp only [Act.put, List.setIfInBounds_toArray, List.set_cons_zero, List.set_cons_succ]
    refine wpAnyH_ready (rs := [17]) (by kernel_rfl) (by simp) ?_
    refine AllReadyH.cons (arr_at rfl) (fun K hK => ?_) AllReadyH.nil
    go_simp
    go_at_call 42; refine (c_inRangeV _ _ _ _ _ hp).mono ?_; rintro e w' ⟨rfl, rfl⟩
    refine hK.out _ _ ?_ (fun hHeld => ?_)
    · (try dsimp only); first | exact ⟨by simp [go_sem], by simp [go_sem], by simp [go_sem], by simp [go_sem], Bl.drewN ((Below.refl _ _).alloc (Nat.le_refl _) _) 1, (Blk.new w _ _).lt⟩ | exact keep4c (by assumption) (by assumption) | exact keep4 (by assumption) (by first | assumption | simp [go_sem]) (by first | assumption | simp [go_sem]) (by first | assumption | simp [go_sem]) (by first | assumption | simp [go_sem]) (by first | assumption | exact Bl.drewN ((Below.refl _ _).alloc (Nat.le_refl _) _) 1) (by first | assumption | exact (Blk.new w _ _).lt)
    clear hK K
    try simp only [Act.put, List.setIfInBounds_toArray, List.set_cons_zero, List.set_cons_succ]
    refine wpAnyH_take (i := 18) (v := ?_) (arr_at rfl) (by kernel_rfl) (by kernel_rfl) (by kernel_rfl) (fun _ _ _ h => h) ?_ (by assumption) ?_
    rotate_left
    · first
      | (refine Or.inr ⟨by rfl, ?_⟩; with_reducible rfl)
      | (refine Or.inl ⟨by rfl, ?_⟩; intro w hSw; (try dsimp only at hSw); go_simp; done)
      | (refine Or.inl ⟨by rfl, ?_⟩; intro w hSw; (try dsimp only at hSw); go_simp; with_reducible rfl)
    try simp only [Act.put, List.setIfInBounds_toArray, List.set_cons_zero, List.set_cons_succ]
    refine wpAnyH_take (i := 19) (v := ?_) (arr_at rfl) (by kernel_rfl) (by kernel_rfl) (by kernel_rfl) (fun _ _ _ h => h) ?_ (by assumption) ?_
    rotate_left
    · first
      | (refine Or.inr ⟨by rfl, ?_⟩; with_reducible rfl)
      | (refine Or.inl ⟨by rfl, ?_⟩; intro w hSw; (try dsimp only at hSw); go_simp; done)
      | (refine Or.inl ⟨by rfl, ?_⟩; intro w hSw; (try dsimp only at hSw); go_simp; with_reducible rfl)
    try simp only [Act.put, List.setIfInBounds_toArray, List.set_cons_zero, List.set_cons_succ]
    refine wpAnyH_done (by kernel_rfl) ?_ _
    obtain ⟨k0, k1, k2, k3, kB, kl⟩ := hHeld
    go_wp2
    go_quiet (fail)
    go_wp2
    go_ret
    exact ⟨ret_int (by unfold ownOf; rw [hv, hp]; rfl), Bl.drewN kB _⟩
end Go.Proofs.Ytaneiilbkkfnoaa
