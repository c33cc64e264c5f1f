/- The walk of the law FnMovedByOne. -/
import Derived.Test.YtcfleoobhgagoaaL9
import Derived.Test.YtcfleoobhgagoaaL7
namespace Go.Proofs.Ytcfleoobhgagoaa
open Go.RowKit

set_option maxHeartbeats 1600000 in
theorem l_FnMovedByOne (A : Option Addr) (n c : Nat) (w : World) (h : RB w A n) (hc : n ≤ c) :
    Calls Try.prog 19 #[.slice A n c] w fun e w' => e = .returned (.bool true) ∧ Below w.heap.size w w' := by
  by_cases hbig : 1048576 < n
  · go_enter Try.func19, Try.ntmps19
    go_wp2
    go_ret
    exact ⟨rfl, Below.refl _ _⟩
  go_enter Try.func19, Try.ntmps19
  go_wp2_with fail
  refine (c_DrawMovedBy _ _ _ _ h hc).mono ?_
  rintro e w1 ⟨C, d, zs, C2, d2, ys, D, d', qs, rfl, hd, hl, hz, hd2, hl2, hy, hd', hl', hq, B⟩
  clear h
  have hres := mvV_bd zs ys qs
  go_wp2_with fail
  refine (n_iMovedBy _ _ _ _ _ _ _ _ _ zs ys qs _ hz hy hq rfl rfl rfl (by omega) (by omega) (by omega)).mono ?_
  rintro e w2 ⟨G, _, dg, rfl, rfl, OG, b⟩
  replace hz := hz.to b
  replace hy := hy.to b
  replace hq := hq.to b
  replace B := Bl.then B b
  clear b
  go_wp2_with fail
  refine (n_sMovedBy _ _ _ _ _ _ _ _ _ zs ys qs _ hz hy hq rfl rfl rfl (by omega) (by omega) (by omega)).mono ?_
  rintro e w3 ⟨W, _, dw, rfl, rfl, OW', b⟩
  replace OG := OG.to b
  replace hz := hz.to b
  replace hy := hy.to b
  replace hq := hq.to b
  replace B := Bl.then B b
  clear b
  go_wp2_with fail
  refine (n_equalInts _ _ _ _ _ _ _ _ _ OG.ri.1 OW'.ri.1 rfl rfl (by omega)).mono ?_
  rintro e w4 ⟨rfl, b⟩
  replace OG := OG.to b
  replace hz := hz.to b
  replace hy := hy.to b
  replace hq := hq.to b
  replace B := Bl.then B b
  clear b OW'
  rw [eqL_same]
  by_cases h0 : (mvV zs ys qs).length = 0
  · have hz0 : (((mvV zs ys qs).length : Int) == 0) = true := by rw [beq_iff_eq]; omega
    have H0 := Lib.hid h0
    clear h0
    go_wp2_with fail
    refine (n_sMovedBy _ _ _ _ _ _ _ _ _ zs ys qs _ hz hy hq rfl rfl rfl (by omega) (by omega) (by omega)).mono ?_
    rintro e w5 ⟨W, _, dw, rfl, rfl, OW', b⟩
    replace OG := OG.to b
    replace B := Bl.then B b
    clear b
    go_wp2_with fail
    refine (n_equalInts _ _ _ _ _ _ _ _ _ OG.ri.1 OW'.ri.1 rfl rfl (by omega)).mono ?_
    rintro e w6 ⟨rfl, b⟩
    replace B := Bl.then B b
    rw [eqL_same]
    go_wp2
    go_ret
    exact ⟨rfl, B⟩
  have hz0 : (((mvV zs ys qs).length : Int) == 0) = false := by rw [beq_eq_false_iff_ne]; omega
  obtain ⟨v1, v2, v3, hV⟩ := mvV_pos h0
  have H1 := Lib.hid (mvV_one v1 v2 v3)
  have l1 := vPool_len v1
  have l2 := vPool_len v2
  have hq12 := (ask_at v3).1
  clear v1 v2 v3 hV h0
  have hd1 : (1 : Int) ≤ d := by omega
  have hd3 : (1 : Int) ≤ d2 := by omega
  have hz1 : 0 < zs.length := by omega
  have hy1 : 0 < ys.length := by omega
  go_wp2_with fail
  replace hz : RI w4.drew C zs := hz
  replace hy : RI w4.drew C2 ys := hy
  replace hq : RI w4.drew D qs := hq
  replace OG : OW w4.drew _ _ G _ dg (mvV zs ys qs) := OG.drewN 1
  replace B : Below w.heap.size w w4.drew := Bl.drewN B 1
  refine wp_region_held_drew (S := (fun _ => True)) (by kernel_rfl) ?_ (fun hHeld => ?_)
  · (try dsimp only); all_goals trivial
  refine wpAnyH_take (i := 0) (v := ?_) (arr_at rfl) (by kernel_rfl) (by kernel_rfl) (by kernel_rfl) (fun _ _ _ h => h) ?_ (by assumption) ?_
  rotate_left
  · first
    | (refine Or.inr ⟨by rfl, ?_⟩; with_reducible rfl)
    | (refine Or.inl ⟨by rfl, ?_⟩; intro w hSw; (try dsimp only at hSw); go_simp; done)
    | (refine Or.inl ⟨by rfl, ?_⟩; intro w hSw; (try dsimp only at hSw); go_simp; with_reducible rfl)
  try simp only [Act.put, List.setIfInBounds_toArray, List.set_cons_zero, List.set_cons_succ]
  refine wpAnyH_take (i := 1) (v := ?_) (arr_at rfl) (by kernel_rfl) (by kernel_rfl) (by kernel_rfl) (fun _ _ _ h => h) ?_ (by assumption) ?_
  rotate_left
  · first
    | (refine Or.inr ⟨by rfl, ?_⟩; with_reducible rfl)
    | (refine Or.inl ⟨by rfl, ?_⟩; intro w hSw; (try dsimp only at hSw); go_simp; done)
    | (refine Or.inl ⟨by rfl, ?_⟩; intro w hSw; (try dsimp only at hSw); go_simp; with_reducible rfl)
  try simp only [Act.put, List.setIfInBounds_toArray, List.set_cons_zero, List.set_cons_succ]
  refine wpAnyH_take (i := 2) (v := ?_) (arr_at rfl) (by kernel_rfl) (by kernel_rfl) (by kernel_rfl) (fun _ _ _ h => h) ?_ (by assumption) ?_
  rotate_left
  · first
    | (refine Or.inr ⟨by rfl, ?_⟩; with_reducible rfl)
    | (refine Or.inl ⟨by rfl, ?_⟩; intro w hSw; (try dsimp only at hSw); go_simp; done)
    | (refine Or.inl ⟨by rfl, ?_⟩; intro w hSw; (try dsimp only at hSw); go_simp; with_reducible rfl)
  try simp only [Act.put, List.setIfInBounds_toArray, List.set_cons_zero, List.set_cons_succ]
  refine wpAnyH_take (i := 3) (v := ?_) (arr_at rfl) (by kernel_rfl) (by kernel_rfl) (by kernel_rfl) (fun _ _ _ h => h) ?_ (by assumption) ?_
  rotate_left
  · first
    | (refine Or.inr ⟨by rfl, ?_⟩; with_reducible rfl)
    | (refine Or.inl ⟨by rfl, ?_⟩; intro w hSw; (try dsimp only at hSw); go_simp; done)
    | (refine Or.inl ⟨by rfl, ?_⟩; intro w hSw; (try dsimp only at hSw); go_simp; with_reducible rfl)
  try simp only [Act.put, List.setIfInBounds_toArray, List.set_cons_zero, List.set_cons_succ]
  refine wpAnyH_take (i := 4) (v := ?_) (arr_at rfl) (by kernel_rfl) (by kernel_rfl) (by kernel_rfl) (fun _ _ _ h => h) ?_ (by assumption) ?_
  rotate_left
  · first
    | (refine Or.inr ⟨by rfl, ?_⟩; with_reducible rfl)
    | (refine Or.inl ⟨by rfl, ?_⟩; intro w hSw; (try dsimp only at hSw); go_simp; done)
    | (refine Or.inl ⟨by rfl, ?_⟩; intro w hSw; (try dsimp only at hSw); go_simp; with_reducible rfl)
  try simp only [Act.put, List.setIfInBounds_toArray, List.set_cons_zero, List.set_cons_succ]
  refine wpAnyH_ready (rs := [5]) (by kernel_rfl) (by simp) ?_
  refine AllReadyH.cons (arr_at rfl) (fun K hK => ?_) AllReadyH.nil
  go_simp
  go_at_call 38; refine (n_iMovedBy _ _ _ _ _ _ _ _ _ (zs.take 1) (ys.take 1) qs _ (hz.take 1) (hy.take 1) hq (by rw [List.length_take]; omega) (by rw [List.length_take]; omega) rfl (by omega) (by omega) (by omega)).mono ?_; rw [H1.out]; rintro e w5 ⟨X, _, dx, rfl, rfl, OX, b⟩; replace OG := OG.to b; replace hz := hz.to b; replace hy := hy.to b; replace hq := hq.to b; replace B := Bl.then B b; clear b
  refine hK.out _ _ ?_ (fun hHeld => ?_)
  · (try dsimp only); all_goals trivial
  clear hK K
  try simp only [Act.put, List.setIfInBounds_toArray, List.set_cons_zero, List.set_cons_succ]
  refine wpAnyH_take (i := 6) (v := ?_) (arr_at rfl) (by kernel_rfl) (by kernel_rfl) (by kernel_rfl) (fun _ _ _ h => h) ?_ (by assumption) ?_
  rotate_left
  · first
    | (refine Or.inr ⟨by rfl, ?_⟩; with_reducible rfl)
    | (refine Or.inl ⟨by rfl, ?_⟩; intro w hSw; (try dsimp only at hSw); go_simp; done)
    | (refine Or.inl ⟨by rfl, ?_⟩; intro w hSw; (try dsimp only at hSw); go_simp; with_reducible rfl)
  try simp only [Act.put, List.setIfInBounds_toArray, List.set_cons_zero, List.set_cons_succ]
  refine wpAnyH_done (by kernel_rfl) ?_ _
  obtain ⟨cb, co, rfl, _, hc0⟩ := hz.get (k := 0) hz1
  obtain ⟨cb2, co2, rfl, _, hc2⟩ := hy.get (k := 0) hy1
  simp only [Nat.add_zero] at hc0 hc2
  by_cases he : nth zs 0 = nth ys 0
  · have hb : (nth zs 0 == nth ys 0) = true := by rw [beq_iff_eq]; exact he
    rw [if_pos he] at OX ⊢
    clear he
    go_wp2
    go_quiet (fail)
    go_wp2
    go_ret
    exact ⟨ret_bool (by simp), Bl.drewN B _⟩
  · have hb : (nth zs 0 == nth ys 0) = false := by rw [beq_eq_false_iff_ne]; exact he
    rw [if_neg he] at OX ⊢
    clear he
    go_wp2
    go_quiet (fail)
    rename_i nq
    go_wp2_with fail
    refine (n_equalInts _ _ _ _ _ _ _ _ _ (OX.drewN nq).ri.1 (hq.drewN nq) rfl rfl (by omega)).mono ?_
    rintro e w6 ⟨rfl, b⟩
    rw [eqL_same]
    go_wp2
    go_ret
    exact ⟨rfl, Bl.then (Bl.drewN B nq) b⟩
end Go.Proofs.Ytcfleoobhgagoaa
