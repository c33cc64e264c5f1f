/- Contracts of the functions on plans: the port for a wanted port. -/
import Derived.Test.YtaneiilbkkfnoaaB5
namespace Go.Proofs.Ytaneiilbkkfnoaa
open Go.RowKit

theorem pib_none {ba bi fi si a want : Int} {zs : List Int} (ho : ownB ba bi fi si a = true) (hw : inB want 0 65535 = true) (h : ∀ j, j < si.toNat → hasB zs (pAt ba fi si a want j) = true) :
    pib ba bi fi si a want zs = -1 := by
  unfold pib; rw [ho, hw, firstUp_none (fun j hj => by simp [h j hj])]; rfl
theorem pib_some {ba bi fi si a want : Int} {zs : List Int} {k : Nat} (ho : ownB ba bi fi si a = true) (hw : inB want 0 65535 = true) (hk : k < si.toNat) (h : ∀ j, j < k → hasB zs (pAt ba fi si a want j) = true)
    (hx : hasB zs (pAt ba fi si a want k) = false) : pib ba bi fi si a want zs = pAt ba fi si a want k := by
  unfold pib; rw [ho, hw, firstUp_some hk (by simp [hx]) (fun j hj => by simp [h j hj])]; rfl

set_option maxHeartbeats 1600000 in
theorem c_PortInBlock (ba bi fi si a want : Int) (A : Option Addr) (n c : Nat) (zs : List Int) (w : World) (hn : zs.length = n) (h : RI w A zs) (hl : n ≤ 1099511627776) :
    Calls Try.prog 24 #[.agg #[.int .i64 ba, .int .i64 bi, .int .i64 fi, .int .i64 si], .int .i64 a, .int .i64 want, .slice A n c] w fun e w' => e = .returned (.int .i64 (pib ba bi fi si a want zs)) ∧ Below w.heap.size w w' := by
  cases ho : ownB ba bi fi si a
  · go_enter Try.func24, Try.ntmps24
    go_wp2_with (go_at_call 45; refine (c_owns _ _ _ _ _ _).mono ?_; rw [ho]; rintro e w1 ⟨rfl, hq⟩; have k0 : w1.cell? ⟨w.heap.size, 0, none⟩ = some (.int .i64 ba) := (hq.cell (Blk.new w _ _).lt).trans (by simp [go_sem]); have k1 : w1.cell? ⟨w.heap.size, 1, none⟩ = some (.int .i64 bi) := (hq.cell (Blk.new w _ _).lt).trans (by simp [go_sem]); have k2 : w1.cell? ⟨w.heap.size, 2, none⟩ = some (.int .i64 fi) := (hq.cell (Blk.new w _ _).lt).trans (by simp [go_sem]); have k3 : w1.cell? ⟨w.heap.size, 3, none⟩ = some (.int .i64 si) := (hq.cell (Blk.new w _ _).lt).trans (by simp [go_sem]); have kB : Below w.heap.size w w1 := Bl.then ((Below.refl _ _).alloc (Nat.le_refl _) _) hq)
    go_ret
    exact ⟨ret_int (by unfold pib; rw [ho]; rfl), kB⟩
  cases hw : inB want 0 65535
  · go_enter Try.func24, Try.ntmps24
    go_wp2_with (first
      | (go_at_call 45; refine (c_owns _ _ _ _ _ _).mono ?_; rw [ho]; rintro e w1 ⟨rfl, hq⟩; have k0 : w1.cell? ⟨w.heap.size, 0, none⟩ = some (.int .i64 ba) := (hq.cell (Blk.new w _ _).lt).trans (by simp [go_sem]); have k1 : w1.cell? ⟨w.heap.size, 1, none⟩ = some (.int .i64 bi) := (hq.cell (Blk.new w _ _).lt).trans (by simp [go_sem]); have k2 : w1.cell? ⟨w.heap.size, 2, none⟩ = some (.int .i64 fi) := (hq.cell (Blk.new w _ _).lt).trans (by simp [go_sem]); have k3 : w1.cell? ⟨w.heap.size, 3, none⟩ = some (.int .i64 si) := (hq.cell (Blk.new w _ _).lt).trans (by simp [go_sem]); have kB : Below w.heap.size w w1 := Bl.then ((Below.refl _ _).alloc (Nat.le_refl _) _) hq)
      | (go_at_call 50; refine (c_isWordV _ _ _ hw).mono ?_; rintro e w' ⟨rfl, rfl⟩))
    go_ret
    exact ⟨ret_int (by unfold pib; rw [ho, hw]; rfl), kB⟩
  have hb := own_bd ho
  have hww := inB_true hw
  go_enter Try.func24, Try.ntmps24
  go_wp2_with (first
    | (go_at_call 45; refine (c_owns _ _ _ _ _ _).mono ?_; rw [ho]; rintro e w1 ⟨rfl, hq⟩; have k0 : w1.cell? ⟨w.heap.size, 0, none⟩ = some (.int .i64 ba) := (hq.cell (Blk.new w _ _).lt).trans (by simp [go_sem]); have k1 : w1.cell? ⟨w.heap.size, 1, none⟩ = some (.int .i64 bi) := (hq.cell (Blk.new w _ _).lt).trans (by simp [go_sem]); have k2 : w1.cell? ⟨w.heap.size, 2, none⟩ = some (.int .i64 fi) := (hq.cell (Blk.new w _ _).lt).trans (by simp [go_sem]); have k3 : w1.cell? ⟨w.heap.size, 3, none⟩ = some (.int .i64 si) := (hq.cell (Blk.new w _ _).lt).trans (by simp [go_sem]); have kB : Below w.heap.size w w1 := Bl.then ((Below.refl _ _).alloc (Nat.le_refl _) _) hq)
    | (go_at_call 50; refine (c_isWordV _ _ _ hw).mono ?_; rintro e w' ⟨rfl, rfl⟩))
  have kl : w.heap.size < w1.heap.size := Nat.lt_of_lt_of_le (Blk.new w _ _).lt hq.size
  go_loopw [22] (fun i wr => ∃ k : Nat, (k : Int) ≤ si ∧ i = .int .i64 k ∧ Hid (∀ j, j < k → hasB zs (pAt ba fi si a want j) = true) ∧ Hid (wr.cell? ⟨w.heap.size, 0, none⟩ = some (.int .i64 ba) ∧ wr.cell? ⟨w.heap.size, 1, none⟩ = some (.int .i64 bi) ∧ wr.cell? ⟨w.heap.size, 2, none⟩ = some (.int .i64 fi) ∧ wr.cell? ⟨w.heap.size, 3, none⟩ = some (.int .i64 si) ∧ Below w.heap.size w wr ∧ w.heap.size < wr.heap.size)) (fun i _ => si.toNat - (intOf i).toNat)
  case atStart => exact ⟨0, by omega, rfl, fun j hj => absurd hj (by omega), k0, k1, k2, k3, kB, kl⟩
  case round =>
    obtain ⟨k, hk, rfl, hP, hH⟩ := hrel
    have hS := hH.out
    by_cases hlt : (k : Int) < si
    · have hd : 0 ≤ (want + k).tmod si ∧ (want + k).tmod si < si := by
        rw [Int.tmod_eq_emod_of_nonneg (by omega)]
        exact ⟨Int.emod_nonneg _ (by omega), Int.emod_lt_of_pos _ (by omega)⟩
      have e1 : IntKind.i64.wrap (want + k) = want + k := IntWalk.i64_in _ (by omega)
      have e2 : IntKind.i64.wrap ((want + k).tmod si) = (want + k).tmod si := IntWalk.i64_in _ (by omega)
      have e3 : IntKind.i64.wrap (fi + (a - ba) * si + (want + k).tmod si) = fi + (a - ba) * si + (want + k).tmod si := IntWalk.i64_in _ (by omega)
      have hz : si ≠ 0 := by omega
      have hR : RI wr A zs := h.to hS.2.2.2.2.1
      have h16 : si ≤ 16 := by omega
      clear hd hww hb
      cases hx : hasB zs (pAt ba fi si a want k)
      · go_wp2
        refine wp_region_held_drew (S := (fun w' => w'.cell? ⟨w.heap.size, 0, none⟩ = some (.int .i64 ba) ∧ w'.cell? ⟨w.heap.size, 1, none⟩ = some (.int .i64 bi) ∧ w'.cell? ⟨w.heap.size, 2, none⟩ = some (.int .i64 fi) ∧ w'.cell? ⟨w.heap.size, 3, none⟩ = some (.int .i64 si) ∧ Below w.heap.size w w' ∧ w.heap.size < w'.heap.size)) (by kernel_rfl) ?_ (fun hHeld => ?_)
        · (try dsimp only); first | exact ⟨hS.1, hS.2.1, hS.2.2.1, hS.2.2.2.1, Bl.drewN hS.2.2.2.2.1 1, hS.2.2.2.2.2⟩ | exact ⟨by simp [go_sem], by simp [go_sem], by simp [go_sem], by simp [go_sem], Bl.drewN ((Below.refl _ _).alloc (Nat.le_refl _) _) 1, (Blk.new w _ _).lt⟩ | exact keep4c (by assumption) (by assumption) | exact keep4 (by assumption) (by first | assumption | simp [go_sem]) (by first | assumption | simp [go_sem]) (by first | assumption | simp [go_sem]) (by first | assumption | simp [go_sem]) (by first | assumption | exact Bl.drewN ((Below.refl _ _).alloc (Nat.le_refl _) _) 1) (by first | assumption | exact (Blk.new w _ _).lt)
        refine wpAnyH_take (i := 0) (v := ?_) (arr_at rfl) (by kernel_rfl) (by kernel_rfl) (by kernel_rfl) (fun _ _ _ h => h) ?_ (by assumption) ?_
        rotate_left
        · first
          | (refine Or.inr ⟨by rfl, ?_⟩; with_reducible rfl)
          | (refine Or.inl ⟨by rfl, ?_⟩; intro w hSw; (try dsimp only at hSw); go_simp; done)
          | (refine Or.inl ⟨by rfl, ?_⟩; intro w hSw; (try dsimp only at hSw); go_simp; with_reducible rfl)
        try simp only [Act.put, List.setIfInBounds_toArray, List.set_cons_zero, List.set_cons_succ]
        refine wpAnyH_take (i := 1) (v := ?_) (arr_at rfl) (by kernel_rfl) (by kernel_rfl) (by kernel_rfl) (fun _ _ _ h => h) ?_ (by assumption) ?_
        rotate_left
        · first
          | (refine Or.inr ⟨by rfl, ?_⟩; with_reducible rfl)
          | (refine Or.inl ⟨by rfl, ?_⟩; intro w hSw; (try dsimp only at hSw); go_simp; done)
          | (refine Or.inl ⟨by rfl, ?_⟩; intro w hSw; (try dsimp only at hSw); go_simp; with_reducible rfl)
        try simp only [Act.put, List.setIfInBounds_toArray, List.set_cons_zero, List.set_cons_succ]
        refine wpAnyH_take (i := 3) (v := ?_) (arr_at rfl) (by kernel_rfl) (by kernel_rfl) (by kernel_rfl) (fun _ _ _ h => h) ?_ (by assumption) ?_
        rotate_left
        · first
          | (refine Or.inr ⟨by rfl, ?_⟩; with_reducible rfl)
          | (refine Or.inl ⟨by rfl, ?_⟩; intro w hSw; (try dsimp only at hSw); go_simp; done)
          | (refine Or.inl ⟨by rfl, ?_⟩; intro w hSw; (try dsimp only at hSw); go_simp; with_reducible rfl)
        try simp only [Act.put, List.setIfInBounds_toArray, List.set_cons_zero, List.set_cons_succ]
        refine wpAnyH_take (i := 4) (v := ?_) (arr_at rfl) (by kernel_rfl) (by kernel_rfl) (by kernel_rfl) (fun _ _ _ h => h) ?_ (by assumption) ?_
        rotate_left
        · first
          | (refine Or.inr ⟨by rfl, ?_⟩; with_reducible rfl)
          | (refine Or.inl ⟨by rfl, ?_⟩; intro w hSw; (try dsimp only at hSw); go_simp; done)
          | (refine Or.inl ⟨by rfl, ?_⟩; intro w hSw; (try dsimp only at hSw); go_simp; with_reducible rfl)
        try simp only [Act.put, List.setIfInBounds_toArray, List.set_cons_zero, List.set_cons_succ]
        refine wpAnyH_take (i := 5) (v := ?_) (arr_at rfl) (by kernel_rfl) (by kernel_rfl) (by kernel_rfl) (fun _ _ _ h => h) ?_ (by assumption) ?_
        rotate_left
        · first
          | (refine Or.inr ⟨by rfl, ?_⟩; with_reducible rfl)
          | (refine Or.inl ⟨by rfl, ?_⟩; intro w hSw; (try dsimp only at hSw); go_simp; done)
          | (refine Or.inl ⟨by rfl, ?_⟩; intro w hSw; (try dsimp only at hSw); go_simp; with_reducible rfl)
        try simp only [Act.put, List.setIfInBounds_toArray, List.set_cons_zero, List.set_cons_succ]
        refine wpAnyH_take (i := 6) (v := ?_) (arr_at rfl) (by kernel_rfl) (by kernel_rfl) (by kernel_rfl) (fun _ _ _ h => h) ?_ (by assumption) ?_
        rotate_left
        · first
          | (refine Or.inr ⟨by rfl, ?_⟩; with_reducible rfl)
          | (refine Or.inl ⟨by rfl, ?_⟩; intro w hSw; (try dsimp only at hSw); go_simp; done)
          | (refine Or.inl ⟨by rfl, ?_⟩; intro w hSw; (try dsimp only at hSw); go_simp; with_reducible rfl)
        try simp only [Act.put, List.setIfInBounds_toArray, List.set_cons_zero, List.set_cons_succ]
        refine wpAnyH_take (i := 7) (v := ?_) (arr_at rfl) (by kernel_rfl) (by kernel_rfl) (by kernel_rfl) (fun _ _ _ h => h) ?_ (by assumption) ?_
        rotate_left
        · first
          | (refine Or.inr ⟨by rfl, ?_⟩; with_reducible rfl)
          | (refine Or.inl ⟨by rfl, ?_⟩; intro w hSw; (try dsimp only at hSw); go_simp; done)
          | (refine Or.inl ⟨by rfl, ?_⟩; intro w hSw; (try dsimp only at hSw); go_simp; with_reducible rfl)
        try simp only [Act.put, List.setIfInBounds_toArray, List.set_cons_zero, List.set_cons_succ]
        refine wpAnyH_take (i := 8) (v := ?_) (arr_at rfl) (by kernel_rfl) (by kernel_rfl) (by kernel_rfl) (fun _ _ _ h => h) ?_ (by assumption) ?_
        rotate_left
        · first
          | (refine Or.inr ⟨by rfl, ?_⟩; with_reducible rfl)
          | (refine Or.inl ⟨by rfl, ?_⟩; intro w hSw; (try dsimp only at hSw); go_simp; done)
          | (refine Or.inl ⟨by rfl, ?_⟩; intro w hSw; (try dsimp only at hSw); go_simp; with_reducible rfl)
        try simp only [Act.put, List.setIfInBounds_toArray, List.set_cons_zero, List.set_cons_succ]
        refine wpAnyH_ready (rs := [2]) (by kernel_rfl) (by simp) ?_
        refine AllReadyH.cons (arr_at rfl) (fun K hK => ?_) AllReadyH.nil
        go_simp
        go_at_call 46; refine (c_block _ _ _ _ _ _ ho).mono ?_; rintro e w' ⟨rfl, hq⟩
        refine hK.out _ _ ?_ (fun hHeld => ?_)
        · (try dsimp only); first | exact ⟨hS.1, hS.2.1, hS.2.2.1, hS.2.2.2.1, Bl.drewN hS.2.2.2.2.1 1, hS.2.2.2.2.2⟩ | exact ⟨by simp [go_sem], by simp [go_sem], by simp [go_sem], by simp [go_sem], Bl.drewN ((Below.refl _ _).alloc (Nat.le_refl _) _) 1, (Blk.new w _ _).lt⟩ | exact keep4c (by assumption) (by assumption) | exact keep4 (by assumption) (by first | assumption | simp [go_sem]) (by first | assumption | simp [go_sem]) (by first | assumption | simp [go_sem]) (by first | assumption | simp [go_sem]) (by first | assumption | exact Bl.drewN ((Below.refl _ _).alloc (Nat.le_refl _) _) 1) (by first | assumption | exact (Blk.new w _ _).lt)
        clear hK K
        try simp only [Act.put, List.setIfInBounds_toArray, List.set_cons_zero, List.set_cons_succ]
        refine wpAnyH_take (i := 9) (v := ?_) (arr_at rfl) (by kernel_rfl) (by kernel_rfl) (by kernel_rfl) (fun _ _ _ h => h) ?_ (by assumption) ?_
        rotate_left
        · first
          | (refine Or.inr ⟨by rfl, ?_⟩; with_reducible rfl)
          | (refine Or.inl ⟨by rfl, ?_⟩; intro w hSw; (try dsimp only at hSw); go_simp; done)
          | (refine Or.inl ⟨by rfl, ?_⟩; intro w hSw; (try dsimp only at hSw); go_simp; with_reducible rfl)
        try simp only [Act.put, List.setIfInBounds_toArray, List.set_cons_zero, List.set_cons_succ]
        refine wpAnyH_take (i := 10) (v := ?_) (arr_at rfl) (by kernel_rfl) (by kernel_rfl) (by kernel_rfl) (fun _ _ _ h => h) ?_ (by assumption) ?_
        rotate_left
        · first
          | (refine Or.inr ⟨by rfl, ?_⟩; with_reducible rfl)
          | (refine Or.inl ⟨by rfl, ?_⟩; intro w hSw; (try dsimp only at hSw); go_simp; done)
          | (refine Or.inl ⟨by rfl, ?_⟩; intro w hSw; (try dsimp only at hSw); go_simp; with_reducible rfl)
        try simp only [Act.put, List.setIfInBounds_toArray, List.set_cons_zero, List.set_cons_succ]
        refine wpAnyH_done (by kernel_rfl) ?_ _
        clear hS
        go_wp2_with (go_at_call 51; refine (c_Contains _ _ _ zs _ _ _ hn (RI.to (w := wr.drew) hR hq) hl hx).mono ?_; rintro e w' ⟨rfl, rfl⟩)
        go_ret
        exact ⟨ret_int (by rw [pib_some ho hw (by omega) hP.out hx]; rfl), hHeld.2.2.2.2.1⟩
      · go_wp2
        refine wp_region_held_drew (S := (fun w' => w'.cell? ⟨w.heap.size, 0, none⟩ = some (.int .i64 ba) ∧ w'.cell? ⟨w.heap.size, 1, none⟩ = some (.int .i64 bi) ∧ w'.cell? ⟨w.heap.size, 2, none⟩ = some (.int .i64 fi) ∧ w'.cell? ⟨w.heap.size, 3, none⟩ = some (.int .i64 si) ∧ Below w.heap.size w w' ∧ w.heap.size < w'.heap.size)) (by kernel_rfl) ?_ (fun hHeld => ?_)
        · (try dsimp only); first | exact ⟨hS.1, hS.2.1, hS.2.2.1, hS.2.2.2.1, Bl.drewN hS.2.2.2.2.1 1, hS.2.2.2.2.2⟩ | exact ⟨by simp [go_sem], by simp [go_sem], by simp [go_sem], by simp [go_sem], Bl.drewN ((Below.refl _ _).alloc (Nat.le_refl _) _) 1, (Blk.new w _ _).lt⟩ | exact keep4c (by assumption) (by assumption) | exact keep4 (by assumption) (by first | assumption | simp [go_sem]) (by first | assumption | simp [go_sem]) (by first | assumption | simp [go_sem]) (by first | assumption | simp [go_sem]) (by first | assumption | exact Bl.drewN ((Below.refl _ _).alloc (Nat.le_refl _) _) 1) (by first | assumption | exact (Blk.new w _ _).lt)
        refine wpAnyH_take (i := 0) (v := ?_) (arr_at rfl) (by kernel_rfl) (by kernel_rfl) (by kernel_rfl) (fun _ _ _ h => h) ?_ (by assumption) ?_
        rotate_left
        · first
          | (refine Or.inr ⟨by rfl, ?_⟩; with_reducible rfl)
          | (refine Or.inl ⟨by rfl, ?_⟩; intro w hSw; (try dsimp only at hSw); go_simp; done)
          | (refine Or.inl ⟨by rfl, ?_⟩; intro w hSw; (try dsimp only at hSw); go_simp; with_reducible rfl)
        try simp only [Act.put, List.setIfInBounds_toArray, List.set_cons_zero, List.set_cons_succ]
        refine wpAnyH_take (i := 1) (v := ?_) (arr_at rfl) (by kernel_rfl) (by kernel_rfl) (by kernel_rfl) (fun _ _ _ h => h) ?_ (by assumption) ?_
        rotate_left
        · first
          | (refine Or.inr ⟨by rfl, ?_⟩; with_reducible rfl)
          | (refine Or.inl ⟨by rfl, ?_⟩; intro w hSw; (try dsimp only at hSw); go_simp; done)
          | (refine Or.inl ⟨by rfl, ?_⟩; intro w hSw; (try dsimp only at hSw); go_simp; with_reducible rfl)
        try simp only [Act.put, List.setIfInBounds_toArray, List.set_cons_zero, List.set_cons_succ]
        refine wpAnyH_take (i := 3) (v := ?_) (arr_at rfl) (by kernel_rfl) (by kernel_rfl) (by kernel_rfl) (fun _ _ _ h => h) ?_ (by assumption) ?_
        rotate_left
        · first
          | (refine Or.inr ⟨by rfl, ?_⟩; with_reducible rfl)
          | (refine Or.inl ⟨by rfl, ?_⟩; intro w hSw; (try dsimp only at hSw); go_simp; done)
          | (refine Or.inl ⟨by rfl, ?_⟩; intro w hSw; (try dsimp only at hSw); go_simp; with_reducible rfl)
        try simp only [Act.put, List.setIfInBounds_toArray, List.set_cons_zero, List.set_cons_succ]
        refine wpAnyH_take (i := 4) (v := ?_) (arr_at rfl) (by kernel_rfl) (by kernel_rfl) (by kernel_rfl) (fun _ _ _ h => h) ?_ (by assumption) ?_
        rotate_left
        · first
          | (refine Or.inr ⟨by rfl, ?_⟩; with_reducible rfl)
          | (refine Or.inl ⟨by rfl, ?_⟩; intro w hSw; (try dsimp only at hSw); go_simp; done)
          | (refine Or.inl ⟨by rfl, ?_⟩; intro w hSw; (try dsimp only at hSw); go_simp; with_reducible rfl)
        try simp only [Act.put, List.setIfInBounds_toArray, List.set_cons_zero, List.set_cons_succ]
        refine wpAnyH_take (i := 5) (v := ?_) (arr_at rfl) (by kernel_rfl) (by kernel_rfl) (by kernel_rfl) (fun _ _ _ h => h) ?_ (by assumption) ?_
        rotate_left
        · first
          | (refine Or.inr ⟨by rfl, ?_⟩; with_reducible rfl)
          | (refine Or.inl ⟨by rfl, ?_⟩; intro w hSw; (try dsimp only at hSw); go_simp; done)
          | (refine Or.inl ⟨by rfl, ?_⟩; intro w hSw; (try dsimp only at hSw); go_simp; with_reducible rfl)
        try simp only [Act.put, List.setIfInBounds_toArray, List.set_cons_zero, List.set_cons_succ]
        refine wpAnyH_take (i := 6) (v := ?_) (arr_at rfl) (by kernel_rfl) (by kernel_rfl) (by kernel_rfl) (fun _ _ _ h => h) ?_ (by assumption) ?_
        rotate_left
        · first
          | (refine Or.inr ⟨by rfl, ?_⟩; with_reducible rfl)
          | (refine Or.inl ⟨by rfl, ?_⟩; intro w hSw; (try dsimp only at hSw); go_simp; done)
          | (refine Or.inl ⟨by rfl, ?_⟩; intro w hSw; (try dsimp only at hSw); go_simp; with_reducible rfl)
        try simp only [Act.put, List.setIfInBounds_toArray, List.set_cons_zero, List.set_cons_succ]
        refine wpAnyH_take (i := 7) (v := ?_) (arr_at rfl) (by kernel_rfl) (by kernel_rfl) (by kernel_rfl) (fun _ _ _ h => h) ?_ (by assumption) ?_
        rotate_left
        · first
          | (refine Or.inr ⟨by rfl, ?_⟩; with_reducible rfl)
          | (refine Or.inl ⟨by rfl, ?_⟩; intro w hSw; (try dsimp only at hSw); go_simp; done)
          | (refine Or.inl ⟨by rfl, ?_⟩; intro w hSw; (try dsimp only at hSw); go_simp; with_reducible rfl)
        try simp only [Act.put, List.setIfInBounds_toArray, List.set_cons_zero, List.set_cons_succ]
        refine wpAnyH_take (i := 8) (v := ?_) (arr_at rfl) (by kernel_rfl) (by kernel_rfl) (by kernel_rfl) (fun _ _ _ h => h) ?_ (by assumption) ?_
        rotate_left
        · first
          | (refine Or.inr ⟨by rfl, ?_⟩; with_reducible rfl)
          | (refine Or.inl ⟨by rfl, ?_⟩; intro w hSw; (try dsimp only at hSw); go_simp; done)
          | (refine Or.inl ⟨by rfl, ?_⟩; intro w hSw; (try dsimp only at hSw); go_simp; with_reducible rfl)
        try simp only [Act.put, List.setIfInBounds_toArray, List.set_cons_zero, List.set_cons_succ]
        refine wpAnyH_ready (rs := [2]) (by kernel_rfl) (by simp) ?_
        refine AllReadyH.cons (arr_at rfl) (fun K hK => ?_) AllReadyH.nil
        go_simp
        go_at_call 46; refine (c_block _ _ _ _ _ _ ho).mono ?_; rintro e w' ⟨rfl, hq⟩
        refine hK.out _ _ ?_ (fun hHeld => ?_)
        · (try dsimp only); first | exact ⟨hS.1, hS.2.1, hS.2.2.1, hS.2.2.2.1, Bl.drewN hS.2.2.2.2.1 1, hS.2.2.2.2.2⟩ | exact ⟨by simp [go_sem], by simp [go_sem], by simp [go_sem], by simp [go_sem], Bl.drewN ((Below.refl _ _).alloc (Nat.le_refl _) _) 1, (Blk.new w _ _).lt⟩ | exact keep4c (by assumption) (by assumption) | exact keep4 (by assumption) (by first | assumption | simp [go_sem]) (by first | assumption | simp [go_sem]) (by first | assumption | simp [go_sem]) (by first | assumption | simp [go_sem]) (by first | assumption | exact Bl.drewN ((Below.refl _ _).alloc (Nat.le_refl _) _) 1) (by first | assumption | exact (Blk.new w _ _).lt)
        clear hK K
        try simp only [Act.put, List.setIfInBounds_toArray, List.set_cons_zero, List.set_cons_succ]
        refine wpAnyH_take (i := 9) (v := ?_) (arr_at rfl) (by kernel_rfl) (by kernel_rfl) (by kernel_rfl) (fun _ _ _ h => h) ?_ (by assumption) ?_
        rotate_left
        · first
          | (refine Or.inr ⟨by rfl, ?_⟩; with_reducible rfl)
          | (refine Or.inl ⟨by rfl, ?_⟩; intro w hSw; (try dsimp only at hSw); go_simp; done)
          | (refine Or.inl ⟨by rfl, ?_⟩; intro w hSw; (try dsimp only at hSw); go_simp; with_reducible rfl)
        try simp only [Act.put, List.setIfInBounds_toArray, List.set_cons_zero, List.set_cons_succ]
        refine wpAnyH_take (i := 10) (v := ?_) (arr_at rfl) (by kernel_rfl) (by kernel_rfl) (by kernel_rfl) (fun _ _ _ h => h) ?_ (by assumption) ?_
        rotate_left
        · first
          | (refine Or.inr ⟨by rfl, ?_⟩; with_reducible rfl)
          | (refine Or.inl ⟨by rfl, ?_⟩; intro w hSw; (try dsimp only at hSw); go_simp; done)
          | (refine Or.inl ⟨by rfl, ?_⟩; intro w hSw; (try dsimp only at hSw); go_simp; with_reducible rfl)
        try simp only [Act.put, List.setIfInBounds_toArray, List.set_cons_zero, List.set_cons_succ]
        refine wpAnyH_done (by kernel_rfl) ?_ _
        clear hS
        go_wp2_with (go_at_call 51; refine (c_Contains _ _ _ zs _ _ _ hn (RI.to (w := wr.drew) hR hq) hl hx).mono ?_; rintro e w' ⟨rfl, rfl⟩)
        go_roundw
        case rel => exact ⟨k + 1, by omega, by go_num, upTo_succ hP.out hx, hHeld⟩
        case measure => simp [intOf]; omega
    · go_wp2
      go_ret
      exact ⟨ret_int (by rw [pib_none ho hw (fun j hj => hP.out j (by omega))]), hS.2.2.2.2.1⟩

set_option maxHeartbeats 1600000 in
theorem c_sPortInBlock (ba bi fi si a want : Int) (A : Option Addr) (n c : Nat) (zs : List Int) (w : World) (hn : zs.length = n) (h : RI w A zs) (hl : n ≤ 1099511627776) :
    Calls Try.prog 21 #[.agg #[.int .i64 ba, .int .i64 bi, .int .i64 fi, .int .i64 si], .int .i64 a, .int .i64 want, .slice A n c] w fun e w' => e = .returned (.int .i64 (pib ba bi fi si a want zs)) ∧ Below w.heap.size w w' := by
  cases hv : vPlan ba bi fi si
  · go_enter Try.func21, Try.ntmps21
    go_wp2_with (go_at_call 41; refine (c_validPlan _ _ _ _ _).mono ?_; rw [hv]; rintro e w1 ⟨rfl, hq⟩; have k0 : w1.cell? ⟨w.heap.size, 0, none⟩ = some (.int .i64 ba) := (hq.cell (Blk.new w _ _).lt).trans (by simp [go_sem]); have k1 : w1.cell? ⟨w.heap.size, 1, none⟩ = some (.int .i64 bi) := (hq.cell (Blk.new w _ _).lt).trans (by simp [go_sem]); have k2 : w1.cell? ⟨w.heap.size, 2, none⟩ = some (.int .i64 fi) := (hq.cell (Blk.new w _ _).lt).trans (by simp [go_sem]); have k3 : w1.cell? ⟨w.heap.size, 3, none⟩ = some (.int .i64 si) := (hq.cell (Blk.new w _ _).lt).trans (by simp [go_sem]); have kB : Below w.heap.size w w1 := Bl.then ((Below.refl _ _).alloc (Nat.le_refl _) _) hq)
    go_ret
    exact ⟨ret_int (by unfold pib ownB; rw [hv]; rfl), kB⟩
  have hn := vPlan_net hv
  cases hi : inN ba bi a
  · go_enter Try.func21, Try.ntmps21
    go_wp2_with (first
      | (go_at_call 41; refine (c_validPlan _ _ _ _ _).mono ?_; rw [hv]; rintro e w1 ⟨rfl, hq⟩; have k0 : w1.cell? ⟨w.heap.size, 0, none⟩ = some (.int .i64 ba) := (hq.cell (Blk.new w _ _).lt).trans (by simp [go_sem]); have k1 : w1.cell? ⟨w.heap.size, 1, none⟩ = some (.int .i64 bi) := (hq.cell (Blk.new w _ _).lt).trans (by simp [go_sem]); have k2 : w1.cell? ⟨w.heap.size, 2, none⟩ = some (.int .i64 fi) := (hq.cell (Blk.new w _ _).lt).trans (by simp [go_sem]); have k3 : w1.cell? ⟨w.heap.size, 3, none⟩ = some (.int .i64 si) := (hq.cell (Blk.new w _ _).lt).trans (by simp [go_sem]); have kB : Below w.heap.size w w1 := Bl.then ((Below.refl _ _).alloc (Nat.le_refl _) _) hq)
      | (go_at_call 47; refine (c_inNet _ _ _ _ hn).mono ?_; rw [hi]; rintro e w2 ⟨rfl, hq2⟩))
    go_ret
    exact ⟨ret_int (by unfold pib ownB; rw [hv, hi]; rfl), two kB hq2⟩
  have ho : ownB ba bi fi si a = true := by unfold ownB; rw [hv, hi]; rfl
  cases hw : inB want 0 65535
  · go_enter Try.func21, Try.ntmps21
    go_wp2_with (first
      | (go_at_call 41; refine (c_validPlan _ _ _ _ _).mono ?_; rw [hv]; rintro e w1 ⟨rfl, hq⟩; have k0 : w1.cell? ⟨w.heap.size, 0, none⟩ = some (.int .i64 ba) := (hq.cell (Blk.new w _ _).lt).trans (by simp [go_sem]); have k1 : w1.cell? ⟨w.heap.size, 1, none⟩ = some (.int .i64 bi) := (hq.cell (Blk.new w _ _).lt).trans (by simp [go_sem]); have k2 : w1.cell? ⟨w.heap.size, 2, none⟩ = some (.int .i64 fi) := (hq.cell (Blk.new w _ _).lt).trans (by simp [go_sem]); have k3 : w1.cell? ⟨w.heap.size, 3, none⟩ = some (.int .i64 si) := (hq.cell (Blk.new w _ _).lt).trans (by simp [go_sem]); have kB : Below w.heap.size w w1 := Bl.then ((Below.refl _ _).alloc (Nat.le_refl _) _) hq)
      | (go_at_call 47; refine (c_inNet _ _ _ _ hn).mono ?_; rw [hi]; rintro e w2 ⟨rfl, hq2⟩)
      | (go_at_call 42; refine (c_inRangeV _ _ _ _ _ hw).mono ?_; rintro e w' ⟨rfl, rfl⟩))
    go_ret
    exact ⟨ret_int (by unfold pib; rw [ho, hw]; rfl), two kB hq2⟩
  have hb := own_bd ho
  have hww := inB_true hw
  have e1 : IntKind.i64.wrap (a - ba) = a - ba := IntWalk.i64_in _ (by omega)
  have e2 : IntKind.i64.wrap ((a - ba) * si) = (a - ba) * si := IntWalk.i64_in _ (by omega)
  have e3 : IntKind.i64.wrap (fi + (a - ba) * si) = fi + (a - ba) * si := IntWalk.i64_in _ (by omega)
  have f1 : wrap64 (a - ba) = a - ba := wrap64_id (by omega) (by omega)
  have f2 : wrap64 ((a - ba) * si) = (a - ba) * si := wrap64_id (by omega) (by omega)
  have f3 : wrap64 (fi + (a - ba) * si) = fi + (a - ba) * si := wrap64_id (by omega) (by omega)
  go_enter Try.func21, Try.ntmps21
  go_wp2_with (first
    | (go_at_call 41; refine (c_validPlan _ _ _ _ _).mono ?_; rw [hv]; rintro e w1 ⟨rfl, hq⟩; have k0 : w1.cell? ⟨w.heap.size, 0, none⟩ = some (.int .i64 ba) := (hq.cell (Blk.new w _ _).lt).trans (by simp [go_sem]); have k1 : w1.cell? ⟨w.heap.size, 1, none⟩ = some (.int .i64 bi) := (hq.cell (Blk.new w _ _).lt).trans (by simp [go_sem]); have k2 : w1.cell? ⟨w.heap.size, 2, none⟩ = some (.int .i64 fi) := (hq.cell (Blk.new w _ _).lt).trans (by simp [go_sem]); have k3 : w1.cell? ⟨w.heap.size, 3, none⟩ = some (.int .i64 si) := (hq.cell (Blk.new w _ _).lt).trans (by simp [go_sem]); have kB : Below w.heap.size w w1 := Bl.then ((Below.refl _ _).alloc (Nat.le_refl _) _) hq)
    | (go_at_call 47; refine (c_inNet _ _ _ _ hn).mono ?_; rw [hi]; rintro e w2 ⟨rfl, hq2⟩; have hl1 : w.heap.size < w1.heap.size := Nat.lt_of_lt_of_le (Blk.new w _ _).lt hq.size; have j0 := (hq2.cell (p := ⟨w.heap.size, 0, none⟩) hl1).trans k0; have j1 := (hq2.cell (p := ⟨w.heap.size, 1, none⟩) hl1).trans k1; have j2 := (hq2.cell (p := ⟨w.heap.size, 2, none⟩) hl1).trans k2; have j3 := (hq2.cell (p := ⟨w.heap.size, 3, none⟩) hl1).trans k3)
    | (go_at_call 42; refine (c_inRangeV _ _ _ _ _ hw).mono ?_; rintro e w' ⟨rfl, rfl⟩))
  have hR : RI w2 A zs := h.to (two kB hq2)
  go_loop [10] (fun i => ∃ k : Nat, (k : Int) ≤ si ∧ i = .int .i64 k ∧ Hid (∀ j, j < k → hasB zs (pAt ba fi si a want j) = true)) (fun i => si.toNat - (intOf i).toNat)
  case atStart => exact ⟨0, by omega, rfl, fun j hj => absurd hj (by omega)⟩
  case round =>
    obtain ⟨k, hk, rfl, hP⟩ := hrel
    by_cases hlt : (k : Int) < si
    · have hd : 0 ≤ (want + k).tmod si ∧ (want + k).tmod si < si := by
        rw [Int.tmod_eq_emod_of_nonneg (by omega)]
        exact ⟨Int.emod_nonneg _ (by omega), Int.emod_lt_of_pos _ (by omega)⟩
      have e4 : IntKind.i64.wrap (want + k) = want + k := IntWalk.i64_in _ (by omega)
      have e5 : IntKind.i64.wrap ((want + k).tmod si) = (want + k).tmod si := IntWalk.i64_in _ (by omega)
      have e6 : IntKind.i64.wrap (fi + (a - ba) * si + (want + k).tmod si) = fi + (a - ba) * si + (want + k).tmod si := IntWalk.i64_in _ (by omega)
      have f4 : wrap64 (want + k) = want + k := wrap64_id (by omega) (by omega)
      have f5 : wrap64 ((want + k).tmod si) = (want + k).tmod si := wrap64_id (by omega) (by omega)
      have f6 : wrap64 (fi + (a - ba) * si + (want + k).tmod si) = fi + (a - ba) * si + (want + k).tmod si := wrap64_id (by omega) (by omega)
      have hz : si ≠ 0 := by omega
      have h16 : si ≤ 16 := by omega
      clear hd hww hb
      cases hx : hasB zs (pAt ba fi si a want k)
      · go_wp2_with (go_at_call 48; refine (c_sIsIn _ _ _ zs _ _ _ ‹_› hR hl hx).mono ?_; rintro e w' ⟨rfl, rfl⟩)
        go_ret
        exact ⟨ret_int (by rw [pib_some ho hw (by omega) hP.out hx]; rfl), two kB hq2⟩
      · go_wp2_with (go_at_call 48; refine (c_sIsIn _ _ _ zs _ _ _ ‹_› hR hl hx).mono ?_; rintro e w' ⟨rfl, rfl⟩)
        go_round
        case rel => exact ⟨k + 1, by omega, by go_num, upTo_succ hP.out hx⟩
        case measure => simp [intOf]; omega
    · go_wp2
      go_ret
      exact ⟨ret_int (by rw [pib_none ho hw (fun j hj => hP.out j (by omega))]), two kB hq2⟩
end Go.Proofs.Ytaneiilbkkfnoaa
