/- Contracts of the functions on plans: how many ports of a block are free. -/
import Derived.Test.YtaneiilbkkfnoaaB6
namespace Go.Proofs.Ytaneiilbkkfnoaa
open Go.RowKit

/-- Whether the k-th port of a block is free. -/
def fAt (ba fi si a : Int) (zs : List Int) (k : Nat) : Bool := !hasB zs (fi + (a - ba) * si + k)
theorem fib_eq {ba bi fi si a : Int} {zs : List Int} (ho : ownB ba bi fi si a = true) : fib ba bi fi si a zs = (cntUp (fAt ba fi si a zs) si.toNat : Nat) := by
  unfold fib; rw [ho]; rfl

set_option maxHeartbeats 1600000 in
theorem c_FreeInBlock (ba bi fi si a : Int) (A : Option Addr) (n c : Nat) (zs : List Int) (w : World) (hn : zs.length = n) (h : RI w A zs) (hl : n ≤ 1099511627776) :
    Calls Try.prog 30 #[.agg #[.int .i64 ba, .int .i64 bi, .int .i64 fi, .int .i64 si], .int .i64 a, .slice A n c] w fun e w' => e = .returned (.int .i64 (fib ba bi fi si a zs)) ∧ Below w.heap.size w w' := by
  cases ho : ownB ba bi fi si a
  · go_enter Try.func30, Try.ntmps30
    go_wp2_with (go_at_call 45; refine (c_owns _ _ _ _ _ _).mono ?_; rw [ho]; rintro e w1 ⟨rfl, hq⟩; have k0 : w1.cell? ⟨w.heap.size, 0, none⟩ = some (.int .i64 ba) := (hq.cell (Blk.new w _ _).lt).trans (by simp [go_sem]); have k1 : w1.cell? ⟨w.heap.size, 1, none⟩ = some (.int .i64 bi) := (hq.cell (Blk.new w _ _).lt).trans (by simp [go_sem]); have k2 : w1.cell? ⟨w.heap.size, 2, none⟩ = some (.int .i64 fi) := (hq.cell (Blk.new w _ _).lt).trans (by simp [go_sem]); have k3 : w1.cell? ⟨w.heap.size, 3, none⟩ = some (.int .i64 si) := (hq.cell (Blk.new w _ _).lt).trans (by simp [go_sem]); have kB : Below w.heap.size w w1 := Bl.then ((Below.refl _ _).alloc (Nat.le_refl _) _) hq)
    go_ret
    exact ⟨ret_int (by unfold fib; rw [ho]; rfl), kB⟩
  have hb := own_bd ho
  go_enter Try.func30, Try.ntmps30
  go_wp2_with (go_at_call 45; refine (c_owns _ _ _ _ _ _).mono ?_; rw [ho]; rintro e w1 ⟨rfl, hq⟩; have k0 : w1.cell? ⟨w.heap.size, 0, none⟩ = some (.int .i64 ba) := (hq.cell (Blk.new w _ _).lt).trans (by simp [go_sem]); have k1 : w1.cell? ⟨w.heap.size, 1, none⟩ = some (.int .i64 bi) := (hq.cell (Blk.new w _ _).lt).trans (by simp [go_sem]); have k2 : w1.cell? ⟨w.heap.size, 2, none⟩ = some (.int .i64 fi) := (hq.cell (Blk.new w _ _).lt).trans (by simp [go_sem]); have k3 : w1.cell? ⟨w.heap.size, 3, none⟩ = some (.int .i64 si) := (hq.cell (Blk.new w _ _).lt).trans (by simp [go_sem]); have kB : Below w.heap.size w w1 := Bl.then ((Below.refl _ _).alloc (Nat.le_refl _) _) hq)
  have kl : w.heap.size < w1.heap.size := Nat.lt_of_lt_of_le (Blk.new w _ _).lt hq.size
  go_loopw [7, 15] (fun m i wr => ∃ k : Nat, (k : Int) ≤ si ∧ i = .int .i64 k ∧ m = .int .i64 (cntUp (fAt ba fi si a zs) k : Nat) ∧ Hid (wr.cell? ⟨w.heap.size, 0, none⟩ = some (.int .i64 ba) ∧ wr.cell? ⟨w.heap.size, 1, none⟩ = some (.int .i64 bi) ∧ wr.cell? ⟨w.heap.size, 2, none⟩ = some (.int .i64 fi) ∧ wr.cell? ⟨w.heap.size, 3, none⟩ = some (.int .i64 si) ∧ Below w.heap.size w wr ∧ w.heap.size < wr.heap.size)) (fun _ i _ => si.toNat - (intOf i).toNat)
  case atStart => exact ⟨0, by omega, rfl, rfl, k0, k1, k2, k3, kB, kl⟩
  case round =>
    obtain ⟨k, hk, rfl, rfl, hH⟩ := hrel
    obtain ⟨s0, s1, s2, s3, sB, sl⟩ := hH.out
    have hc := cntUp_le (fAt ba fi si a zs) k
    by_cases hlt : (k : Int) < si
    · have f1 : wrap64 (fi + (a - ba) * si + k) = fi + (a - ba) * si + k := wrap64_id (by omega) (by omega)
      have e1 : IntKind.i64.wrap (fi + (a - ba) * si + k) = fi + (a - ba) * si + k := IntWalk.i64_in _ (by omega)
      have hR : RI wr A zs := h.to sB
      have h16 : si ≤ 16 := by omega
      have hcs := cntUp_succ (fAt ba fi si a zs) k
      clear hb
      cases hx : hasB zs (fi + (a - ba) * si + k)
      · have hfa : fAt ba fi si a zs k = true := by unfold fAt; rw [hx]; rfl
        rw [hfa] at hcs
        clear hfa
        go_wp2_with (first
          | (go_at_call 46; refine (c_block _ _ _ _ _ _ ho).mono ?_; rintro e w2 ⟨rfl, hq2⟩)
          | (go_at_call 51; refine (c_Contains _ _ _ zs _ _ _ hn (hR.to hq2) hl hx).mono ?_; rintro e w' ⟨rfl, rfl⟩))
        go_roundw
        case rel => exact ⟨k + 1, by omega, by go_num, by rw [hcs]; go_num, keep4 hq2 s0 s1 s2 s3 sB sl⟩
        case measure => simp [intOf]; omega
      · have hfa : fAt ba fi si a zs k = false := by unfold fAt; rw [hx]; rfl
        rw [hfa] at hcs
        clear hfa
        go_wp2_with (first
          | (go_at_call 46; refine (c_block _ _ _ _ _ _ ho).mono ?_; rintro e w2 ⟨rfl, hq2⟩)
          | (go_at_call 51; refine (c_Contains _ _ _ zs _ _ _ hn (hR.to hq2) hl hx).mono ?_; rintro e w' ⟨rfl, rfl⟩))
        go_roundw
        case rel => exact ⟨k + 1, by omega, by go_num, by rw [hcs]; simp, keep4 hq2 s0 s1 s2 s3 sB sl⟩
        case measure => simp [intOf]; omega
    · go_wp2
      go_ret
      exact ⟨ret_int (by rw [fib_eq ho, show si.toNat = k by omega]), sB⟩

set_option maxHeartbeats 1600000 in
theorem c_sFreeInBlock (ba bi fi si a : Int) (A : Option Addr) (n c : Nat) (zs : List Int) (w : World) (hlen : zs.length = n) (h : RI w A zs) (hl : n ≤ 1099511627776) :
    Calls Try.prog 29 #[.agg #[.int .i64 ba, .int .i64 bi, .int .i64 fi, .int .i64 si], .int .i64 a, .slice A n c] w fun e w' => e = .returned (.int .i64 (fib ba bi fi si a zs)) ∧ Below w.heap.size w w' := by
  cases hv : vPlan ba bi fi si
  · go_enter Try.func29, Try.ntmps29
    go_wp2_with (go_at_call 41; refine (c_validPlan _ _ _ _ _).mono ?_; rw [hv]; rintro e w1 ⟨rfl, hq⟩; have k0 : w1.cell? ⟨w.heap.size, 0, none⟩ = some (.int .i64 ba) := (hq.cell (Blk.new w _ _).lt).trans (by simp [go_sem]); have k1 : w1.cell? ⟨w.heap.size, 1, none⟩ = some (.int .i64 bi) := (hq.cell (Blk.new w _ _).lt).trans (by simp [go_sem]); have k2 : w1.cell? ⟨w.heap.size, 2, none⟩ = some (.int .i64 fi) := (hq.cell (Blk.new w _ _).lt).trans (by simp [go_sem]); have k3 : w1.cell? ⟨w.heap.size, 3, none⟩ = some (.int .i64 si) := (hq.cell (Blk.new w _ _).lt).trans (by simp [go_sem]); have kB : Below w.heap.size w w1 := Bl.then ((Below.refl _ _).alloc (Nat.le_refl _) _) hq)
    go_ret
    exact ⟨ret_int (by unfold fib ownB; rw [hv]; rfl), kB⟩
  have hn := vPlan_net hv
  cases hi : inN ba bi a
  · go_enter Try.func29, Try.ntmps29
    go_wp2_with (first
      | (go_at_call 41; refine (c_validPlan _ _ _ _ _).mono ?_; rw [hv]; rintro e w1 ⟨rfl, hq⟩; have k0 : w1.cell? ⟨w.heap.size, 0, none⟩ = some (.int .i64 ba) := (hq.cell (Blk.new w _ _).lt).trans (by simp [go_sem]); have k1 : w1.cell? ⟨w.heap.size, 1, none⟩ = some (.int .i64 bi) := (hq.cell (Blk.new w _ _).lt).trans (by simp [go_sem]); have k2 : w1.cell? ⟨w.heap.size, 2, none⟩ = some (.int .i64 fi) := (hq.cell (Blk.new w _ _).lt).trans (by simp [go_sem]); have k3 : w1.cell? ⟨w.heap.size, 3, none⟩ = some (.int .i64 si) := (hq.cell (Blk.new w _ _).lt).trans (by simp [go_sem]); have kB : Below w.heap.size w w1 := Bl.then ((Below.refl _ _).alloc (Nat.le_refl _) _) hq)
      | (go_at_call 47; refine (c_inNet _ _ _ _ hn).mono ?_; rw [hi]; rintro e w2 ⟨rfl, hq2⟩))
    go_ret
    exact ⟨ret_int (by unfold fib ownB; rw [hv, hi]; rfl), two kB hq2⟩
  have ho : ownB ba bi fi si a = true := by unfold ownB; rw [hv, hi]; rfl
  have hb := own_bd ho
  have e1 : IntKind.i64.wrap (a - ba) = a - ba := IntWalk.i64_in _ (by omega)
  have e2 : IntKind.i64.wrap ((a - ba) * si) = (a - ba) * si := IntWalk.i64_in _ (by omega)
  have e3 : IntKind.i64.wrap (fi + (a - ba) * si) = fi + (a - ba) * si := IntWalk.i64_in _ (by omega)
  have f1 : wrap64 (a - ba) = a - ba := wrap64_id (by omega) (by omega)
  have f2 : wrap64 ((a - ba) * si) = (a - ba) * si := wrap64_id (by omega) (by omega)
  have f3 : wrap64 (fi + (a - ba) * si) = fi + (a - ba) * si := wrap64_id (by omega) (by omega)
  go_enter Try.func29, Try.ntmps29
  go_wp2_with (first
    | (go_at_call 41; refine (c_validPlan _ _ _ _ _).mono ?_; rw [hv]; rintro e w1 ⟨rfl, hq⟩; have k0 : w1.cell? ⟨w.heap.size, 0, none⟩ = some (.int .i64 ba) := (hq.cell (Blk.new w _ _).lt).trans (by simp [go_sem]); have k1 : w1.cell? ⟨w.heap.size, 1, none⟩ = some (.int .i64 bi) := (hq.cell (Blk.new w _ _).lt).trans (by simp [go_sem]); have k2 : w1.cell? ⟨w.heap.size, 2, none⟩ = some (.int .i64 fi) := (hq.cell (Blk.new w _ _).lt).trans (by simp [go_sem]); have k3 : w1.cell? ⟨w.heap.size, 3, none⟩ = some (.int .i64 si) := (hq.cell (Blk.new w _ _).lt).trans (by simp [go_sem]); have kB : Below w.heap.size w w1 := Bl.then ((Below.refl _ _).alloc (Nat.le_refl _) _) hq)
    | (go_at_call 47; refine (c_inNet _ _ _ _ hn).mono ?_; rw [hi]; rintro e w2 ⟨rfl, hq2⟩; have hl1 : w.heap.size < w1.heap.size := Nat.lt_of_lt_of_le (Blk.new w _ _).lt hq.size; have j0 := (hq2.cell (p := ⟨w.heap.size, 0, none⟩) hl1).trans k0; have j1 := (hq2.cell (p := ⟨w.heap.size, 1, none⟩) hl1).trans k1; have j2 := (hq2.cell (p := ⟨w.heap.size, 2, none⟩) hl1).trans k2; have j3 := (hq2.cell (p := ⟨w.heap.size, 3, none⟩) hl1).trans k3))
  have hR : RI w2 A zs := h.to (two kB hq2)
  go_loop [7, 9] (fun m i => ∃ k : Nat, (k : Int) ≤ si ∧ i = .int .i64 k ∧ m = .int .i64 (cntUp (fAt ba fi si a zs) k : Nat)) (fun _ i => si.toNat - (intOf i).toNat)
  case atStart => exact ⟨0, by omega, rfl, rfl⟩
  case round =>
    obtain ⟨k, hk, rfl, rfl⟩ := hrel
    have hc := cntUp_le (fAt ba fi si a zs) k
    by_cases hlt : (k : Int) < si
    · have e4 : IntKind.i64.wrap (fi + (a - ba) * si + k) = fi + (a - ba) * si + k := IntWalk.i64_in _ (by omega)
      have f4 : wrap64 (fi + (a - ba) * si + k) = fi + (a - ba) * si + k := wrap64_id (by omega) (by omega)
      have h16 : si ≤ 16 := by omega
      have hcs := cntUp_succ (fAt ba fi si a zs) k
      clear hb
      cases hx : hasB zs (fi + (a - ba) * si + k)
      · have hfa : fAt ba fi si a zs k = true := by unfold fAt; rw [hx]; rfl
        rw [hfa] at hcs
        clear hfa
        go_wp2_with (first
          | (go_at_call 48; refine (c_sIsIn _ _ _ zs _ _ _ hlen hR hl hx).mono ?_; rintro e w' ⟨rfl, rfl⟩)
          | (go_at_call 54; refine (c_sToInt _ _).mono ?_; rintro e w' ⟨rfl, rfl⟩))
        go_round
        case rel => exact ⟨k + 1, by omega, by go_num, by rw [hcs]; go_num⟩
        case measure => simp [intOf]; omega
      · have hfa : fAt ba fi si a zs k = false := by unfold fAt; rw [hx]; rfl
        rw [hfa] at hcs
        clear hfa
        go_wp2_with (first
          | (go_at_call 48; refine (c_sIsIn _ _ _ zs _ _ _ hlen hR hl hx).mono ?_; rintro e w' ⟨rfl, rfl⟩)
          | (go_at_call 54; refine (c_sToInt _ _).mono ?_; rintro e w' ⟨rfl, rfl⟩))
        go_round
        case rel => exact ⟨k + 1, by omega, by go_num, by rw [hcs]; go_num⟩
        case measure => simp [intOf]; omega
    · go_wp2
      go_ret
      exact ⟨ret_int (by rw [fib_eq ho, show si.toNat = k by omega]), two kB hq2⟩
end Go.Proofs.Ytaneiilbkkfnoaa
