/- The walk of the law FnFullestAddrOne. -/
import Derived.Test.YtcfleoobhgagoaaL6
import Derived.Test.YtcfleoobhgagoaaGen3
import Derived.Deep.RegionHeld3
namespace Go.Proofs.Ytcfleoobhgagoaa
open Go.RowKit
theorem arr_at {α : Type} {l : List α} {i : Nat} {x : α} (h : l[i]? = some x) : l.toArray[i]? = some x := by simpa using h
theorem RI.at0 {w : World} {b o : Nat} {zs : List Int} (h : RI w (some ⟨b, o, none⟩) zs) (h0 : 0 < zs.length) : w.cell? ⟨b, o, none⟩ = some (.int .i64 (nth zs 0)) := by
  obtain ⟨b', o', e, _, hc⟩ := h.get h0
  cases e
  simpa using hc

set_option maxHeartbeats 1600000 in
theorem l_FnFullestAddrOne (A : Option Addr) (n c : Nat) (w : World) (h : RB w A n) (hc : n ≤ c) :
    Calls Try.prog 16 #[.slice A n c] w fun e w' => e = .returned (.bool true) ∧ Below w.heap.size w w' := by
  by_cases hbig : 1048576 < n
  · go_enter Try.func16, Try.ntmps16
    go_wp2
    go_ret
    exact ⟨rfl, Below.refl _ _⟩
  go_enter Try.func16, Try.ntmps16
  go_wp2_with fail
  refine (c_DrawFullestAddr _ _ _ _ h hc).mono ?_
  rintro e w1 ⟨C, d, zs, D, d', qs, rfl, hd, hl, hz, hd', hl', hq, B⟩
  clear h
  go_wp2_with fail
  refine (n_iFullestAddr _ _ _ _ _ _ zs qs _ hz hq rfl rfl (by omega) (by omega)).mono ?_
  rintro e w2 ⟨rfl, b⟩
  replace hz := hz.to b
  replace hq := hq.to b
  replace B := Bl.then B b
  clear b
  generalize hn : full zs qs = o
  have HN := Lib.hid hn
  clear hn
  go_wp2_with fail
  refine (n_sFullestAddr _ _ _ _ _ _ zs qs _ hz hq rfl rfl (by omega) (by omega)).mono ?_
  rintro e w4 ⟨rfl, b⟩
  replace hz := hz.to b
  replace hq := hq.to b
  replace B := Bl.then B b
  clear b
  rw [HN.out]
  by_cases ho : o < 0
  · have t0 : decide (o < 0) = true := by rw [decide_eq_true_eq]; exact ho
    go_wp2_with fail
    refine (n_sFullestAddr _ _ _ _ _ _ zs qs _ hz hq rfl rfl (by omega) (by omega)).mono ?_
    rintro e w5 ⟨rfl, b⟩
    rw [HN.out]
    go_wp2
    go_ret
    exact ⟨ret_bool (by simp), Bl.then B b⟩
  have t0 : decide (o < 0) = false := by rw [decide_eq_false_iff_not]; exact ho
  obtain ⟨hv, ha, hf⟩ := full_pos (zs := zs) (qs := qs) (by rw [HN.out]; exact ho)
  rw [HN.out] at hf
  have hvl := vPool_len hv
  have hm := amaxUp_lt (cs := pcs zs qs) (n := zs.length) (by omega)
  have hx : hasB zs o = true := by rw [hf]; exact hasB_nth hm
  have HX := Lib.hid hx
  have H1 := Lib.hid (full_one hv ha)
  have H2 := Lib.hid (full_none hv)
  clear hx hf hm hv ha ho
  obtain ⟨cb, co, rfl, hcb, hc0⟩ := hz.get (k := 0) (by omega)
  clear hcb hc0
  have hd1 : (1 : Int) ≤ d := by omega
  have hz0 : 0 < zs.length := by omega
  go_wp2_with fail
  replace hz : RI w4.drew (some ⟨cb, co, none⟩) zs := hz
  replace hq : RI w4.drew D qs := hq
  replace B : Below w.heap.size w w4.drew := Bl.drewN B 1
  refine wp_region_held_drew (S := (fun w' => w'.cell? ⟨cb, co, none⟩ = some (.int .i64 (nth zs 0)))) (by kernel_rfl) ?_ (fun hHeld => ?_)
  · (try dsimp only); exact RI.at0 hz (by omega)
  refine wpAnyH_take (i := 0) (v := ?_) (arr_at rfl) (by kernel_rfl) (by kernel_rfl) (by kernel_rfl) (fun _ _ _ h => h) ?_ (by assumption) ?_
  rotate_left
  · first
    | (refine Or.inr ⟨by rfl, ?_⟩; with_reducible rfl)
    | (refine Or.inl ⟨by rfl, ?_⟩; intro w hSw; (try dsimp only at hSw); go_simp; done)
    | (refine Or.inl ⟨by rfl, ?_⟩; intro w hSw; (try dsimp only at hSw); go_simp; with_reducible rfl)
  try simp only [Act.put, List.setIfInBounds_toArray, List.set_cons_zero, List.set_cons_succ]
  refine wpAnyH_take (i := 1) (v := ?_) (arr_at rfl) (by kernel_rfl) (by kernel_rfl) (by kernel_rfl) (fun _ _ _ h => h) ?_ (by assumption) ?_
  rotate_left
  · first
    | (refine Or.inr ⟨by rfl, ?_⟩; with_reducible rfl)
    | (refine Or.inl ⟨by rfl, ?_⟩; intro w hSw; (try dsimp only at hSw); go_simp; done)
    | (refine Or.inl ⟨by rfl, ?_⟩; intro w hSw; (try dsimp only at hSw); go_simp; with_reducible rfl)
  try simp only [Act.put, List.setIfInBounds_toArray, List.set_cons_zero, List.set_cons_succ]
  refine wpAnyH_ready (rs := [2]) (by kernel_rfl) (by simp) ?_
  refine AllReadyH.cons (arr_at rfl) (fun K hK => ?_) AllReadyH.nil
  go_simp
  go_at_call 32; refine (c_isIn _ _ zs _ _ hz (by omega)).mono ?_; rw [HX.out]; rintro e w' ⟨rfl, rfl⟩
  refine hK.out _ _ ?_ (fun hHeld => ?_)
  · (try dsimp only); exact RI.at0 hz (by omega)
  clear hK K
  try simp only [Act.put, List.setIfInBounds_toArray, List.set_cons_zero, List.set_cons_succ]
  refine wpAnyH_take (i := 3) (v := ?_) (arr_at rfl) (by kernel_rfl) (by kernel_rfl) (by kernel_rfl) (fun _ _ _ h => h) ?_ (by assumption) ?_
  rotate_left
  · first
    | (refine Or.inr ⟨by rfl, ?_⟩; with_reducible rfl)
    | (refine Or.inl ⟨by rfl, ?_⟩; intro w hSw; (try dsimp only at hSw); go_simp; done)
    | (refine Or.inl ⟨by rfl, ?_⟩; intro w hSw; (try dsimp only at hSw); go_simp; with_reducible rfl)
  try simp only [Act.put, List.setIfInBounds_toArray, List.set_cons_zero, List.set_cons_succ]
  refine wpAnyH_take (i := 4) (v := ?_) (arr_at rfl) (by kernel_rfl) (by kernel_rfl) (by kernel_rfl) (fun _ _ _ h => h) ?_ (by assumption) ?_
  rotate_left
  · first
    | (refine Or.inr ⟨by rfl, ?_⟩; with_reducible rfl)
    | (refine Or.inl ⟨by rfl, ?_⟩; intro w hSw; (try dsimp only at hSw); go_simp; done)
    | (refine Or.inl ⟨by rfl, ?_⟩; intro w hSw; (try dsimp only at hSw); go_simp; with_reducible rfl)
  try simp only [Act.put, List.setIfInBounds_toArray, List.set_cons_zero, List.set_cons_succ]
  refine wpAnyH_take (i := 5) (v := ?_) (arr_at rfl) (by kernel_rfl) (by kernel_rfl) (by kernel_rfl) (fun _ _ _ h => h) ?_ (by assumption) ?_
  rotate_left
  · first
    | (refine Or.inr ⟨by rfl, ?_⟩; with_reducible rfl)
    | (refine Or.inl ⟨by rfl, ?_⟩; intro w hSw; (try dsimp only at hSw); go_simp; done)
    | (refine Or.inl ⟨by rfl, ?_⟩; intro w hSw; (try dsimp only at hSw); go_simp; with_reducible rfl)
  try simp only [Act.put, List.setIfInBounds_toArray, List.set_cons_zero, List.set_cons_succ]
  refine wpAnyH_take (i := 6) (v := ?_) (arr_at rfl) (by kernel_rfl) (by kernel_rfl) (by kernel_rfl) (fun _ _ _ h => h) ?_ (by assumption) ?_
  rotate_left
  · first
    | (refine Or.inr ⟨by rfl, ?_⟩; with_reducible rfl)
    | (refine Or.inl ⟨by rfl, ?_⟩; intro w hSw; (try dsimp only at hSw); go_simp; done)
    | (refine Or.inl ⟨by rfl, ?_⟩; intro w hSw; (try dsimp only at hSw); go_simp; with_reducible rfl)
  try simp only [Act.put, List.setIfInBounds_toArray, List.set_cons_zero, List.set_cons_succ]
  refine wpAnyH_take (i := 8) (v := ?_) (arr_at rfl) (by kernel_rfl) (by kernel_rfl) (by kernel_rfl) (fun _ _ _ h => h) ?_ (by assumption) ?_
  rotate_left
  · first
    | (refine Or.inr ⟨by rfl, ?_⟩; with_reducible rfl)
    | (refine Or.inl ⟨by rfl, ?_⟩; intro w hSw; (try dsimp only at hSw); go_simp; done)
    | (refine Or.inl ⟨by rfl, ?_⟩; intro w hSw; (try dsimp only at hSw); go_simp; with_reducible rfl)
  try simp only [Act.put, List.setIfInBounds_toArray, List.set_cons_zero, List.set_cons_succ]
  refine wpAnyH_take (i := 9) (v := ?_) (arr_at rfl) (by kernel_rfl) (by kernel_rfl) (by kernel_rfl) (fun _ _ _ h => h) ?_ (by assumption) ?_
  rotate_left
  · first
    | (refine Or.inr ⟨by rfl, ?_⟩; with_reducible rfl)
    | (refine Or.inl ⟨by rfl, ?_⟩; intro w hSw; (try dsimp only at hSw); go_simp; done)
    | (refine Or.inl ⟨by rfl, ?_⟩; intro w hSw; (try dsimp only at hSw); go_simp; with_reducible rfl)
  try simp only [Act.put, List.setIfInBounds_toArray, List.set_cons_zero, List.set_cons_succ]
  refine wpAnyH_take (i := 10) (v := ?_) (arr_at rfl) (by kernel_rfl) (by kernel_rfl) (by kernel_rfl) (fun _ _ _ h => h) ?_ (by assumption) ?_
  rotate_left
  · first
    | (refine Or.inr ⟨by rfl, ?_⟩; with_reducible rfl)
    | (refine Or.inl ⟨by rfl, ?_⟩; intro w hSw; (try dsimp only at hSw); go_simp; done)
    | (refine Or.inl ⟨by rfl, ?_⟩; intro w hSw; (try dsimp only at hSw); go_simp; with_reducible rfl)
  try simp only [Act.put, List.setIfInBounds_toArray, List.set_cons_zero, List.set_cons_succ]
  refine wpAnyH_ready (rs := [7]) (by kernel_rfl) (by simp) ?_
  refine AllReadyH.cons (arr_at rfl) (fun K hK => ?_) AllReadyH.nil
  go_simp
  go_at_call 34; refine (n_iFullestAddr _ _ _ _ _ _ (zs.take 1) qs _ (hz.take 1) hq (by rw [List.length_take]; omega) rfl (by omega) (by omega)).mono ?_; rw [H1.out]; rintro e w' ⟨rfl, hb⟩; replace hz := hz.to hb; replace hq := hq.to hb; replace B := Bl.then B hb
  refine hK.out _ _ ?_ (fun hHeld => ?_)
  · (try dsimp only); exact RI.at0 hz (by omega)
  clear hK K
  try simp only [Act.put, List.setIfInBounds_toArray, List.set_cons_zero, List.set_cons_succ]
  refine wpAnyH_take (i := 11) (v := ?_) (arr_at rfl) (by kernel_rfl) (by kernel_rfl) (by kernel_rfl) (fun _ _ _ h => h) ?_ (by assumption) ?_
  rotate_left
  · first
    | (refine Or.inr ⟨by rfl, ?_⟩; with_reducible rfl)
    | (refine Or.inl ⟨by rfl, ?_⟩; intro w hSw; (try dsimp only at hSw); go_simp; done)
    | (refine Or.inl ⟨by rfl, ?_⟩; intro w hSw; (try dsimp only at hSw); go_simp; with_reducible rfl)
  try simp only [Act.put, List.setIfInBounds_toArray, List.set_cons_zero, List.set_cons_succ]
  refine wpAnyH_take (i := 12) (v := ?_) (arr_at rfl) (by kernel_rfl) (by kernel_rfl) (by kernel_rfl) (fun _ _ _ h => h) ?_ (by assumption) ?_
  rotate_left
  · first
    | (refine Or.inr ⟨by rfl, ?_⟩; with_reducible rfl)
    | (refine Or.inl ⟨by rfl, ?_⟩; intro w hSw; (try dsimp only at hSw); go_simp; done)
    | (refine Or.inl ⟨by rfl, ?_⟩; intro w hSw; (try dsimp only at hSw); go_simp; with_reducible rfl)
  try simp only [Act.put, List.setIfInBounds_toArray, List.set_cons_zero, List.set_cons_succ]
  refine wpAnyH_take (i := 13) (v := ?_) (arr_at rfl) (by kernel_rfl) (by kernel_rfl) (by kernel_rfl) (fun _ _ _ h => h) ?_ (by assumption) ?_
  rotate_left
  · first
    | (refine Or.inr ⟨by rfl, ?_⟩; with_reducible rfl)
    | (refine Or.inl ⟨by rfl, ?_⟩; intro w hSw; (try dsimp only at hSw); go_simp; done)
    | (refine Or.inl ⟨by rfl, ?_⟩; intro w hSw; (try dsimp only at hSw); go_simp; with_reducible rfl)
  try simp only [Act.put, List.setIfInBounds_toArray, List.set_cons_zero, List.set_cons_succ]
  refine wpAnyH_take (i := 14) (v := ?_) (arr_at rfl) (by kernel_rfl) (by kernel_rfl) (by kernel_rfl) (fun _ _ _ h => h) ?_ (by assumption) ?_
  rotate_left
  · first
    | (refine Or.inr ⟨by rfl, ?_⟩; with_reducible rfl)
    | (refine Or.inl ⟨by rfl, ?_⟩; intro w hSw; (try dsimp only at hSw); go_simp; done)
    | (refine Or.inl ⟨by rfl, ?_⟩; intro w hSw; (try dsimp only at hSw); go_simp; with_reducible rfl)
  try simp only [Act.put, List.setIfInBounds_toArray, List.set_cons_zero, List.set_cons_succ]
  refine wpAnyH_take (i := 16) (v := ?_) (arr_at rfl) (by kernel_rfl) (by kernel_rfl) (by kernel_rfl) (fun _ _ _ h => h) ?_ (by assumption) ?_
  rotate_left
  · first
    | (refine Or.inr ⟨by rfl, ?_⟩; with_reducible rfl)
    | (refine Or.inl ⟨by rfl, ?_⟩; intro w hSw; (try dsimp only at hSw); go_simp; done)
    | (refine Or.inl ⟨by rfl, ?_⟩; intro w hSw; (try dsimp only at hSw); go_simp; with_reducible rfl)
  try simp only [Act.put, List.setIfInBounds_toArray, List.set_cons_zero, List.set_cons_succ]
  refine wpAnyH_take (i := 17) (v := ?_) (arr_at rfl) (by kernel_rfl) (by kernel_rfl) (by kernel_rfl) (fun _ _ _ h => h) ?_ (by assumption) ?_
  rotate_left
  · first
    | (refine Or.inr ⟨by rfl, ?_⟩; with_reducible rfl)
    | (refine Or.inl ⟨by rfl, ?_⟩; intro w hSw; (try dsimp only at hSw); go_simp; done)
    | (refine Or.inl ⟨by rfl, ?_⟩; intro w hSw; (try dsimp only at hSw); go_simp; with_reducible rfl)
  try simp only [Act.put, List.setIfInBounds_toArray, List.set_cons_zero, List.set_cons_succ]
  refine wpAnyH_take (i := 18) (v := ?_) (arr_at rfl) (by kernel_rfl) (by kernel_rfl) (by kernel_rfl) (fun _ _ _ h => h) ?_ (by assumption) ?_
  rotate_left
  · first
    | (refine Or.inr ⟨by rfl, ?_⟩; with_reducible rfl)
    | (refine Or.inl ⟨by rfl, ?_⟩; intro w hSw; (try dsimp only at hSw); go_simp; done)
    | (refine Or.inl ⟨by rfl, ?_⟩; intro w hSw; (try dsimp only at hSw); go_simp; with_reducible rfl)
  try simp only [Act.put, List.setIfInBounds_toArray, List.set_cons_zero, List.set_cons_succ]
  refine wpAnyH_ready (rs := [15]) (by kernel_rfl) (by simp) ?_
  refine AllReadyH.cons (arr_at rfl) (fun K hK => ?_) AllReadyH.nil
  go_simp
  go_at_call 34; refine (n_iFullestAddr _ _ _ _ _ _ zs [] _ hz (RI.nil _ _) rfl rfl (by omega) (by simp)).mono ?_; rw [H2.out]; rintro e w' ⟨rfl, hb⟩; replace hz := hz.to hb; replace hq := hq.to hb; replace B := Bl.then B hb
  refine hK.out _ _ ?_ (fun hHeld => ?_)
  · (try dsimp only); exact RI.at0 hz (by omega)
  clear hK K
  try simp only [Act.put, List.setIfInBounds_toArray, List.set_cons_zero, List.set_cons_succ]
  refine wpAnyH_take (i := 19) (v := ?_) (arr_at rfl) (by kernel_rfl) (by kernel_rfl) (by kernel_rfl) (fun _ _ _ h => h) ?_ (by assumption) ?_
  rotate_left
  · first
    | (refine Or.inr ⟨by rfl, ?_⟩; with_reducible rfl)
    | (refine Or.inl ⟨by rfl, ?_⟩; intro w hSw; (try dsimp only at hSw); go_simp; done)
    | (refine Or.inl ⟨by rfl, ?_⟩; intro w hSw; (try dsimp only at hSw); go_simp; with_reducible rfl)
  try simp only [Act.put, List.setIfInBounds_toArray, List.set_cons_zero, List.set_cons_succ]
  refine wpAnyH_take (i := 20) (v := ?_) (arr_at rfl) (by kernel_rfl) (by kernel_rfl) (by kernel_rfl) (fun _ _ _ h => h) ?_ (by assumption) ?_
  rotate_left
  · first
    | (refine Or.inr ⟨by rfl, ?_⟩; with_reducible rfl)
    | (refine Or.inl ⟨by rfl, ?_⟩; intro w hSw; (try dsimp only at hSw); go_simp; done)
    | (refine Or.inl ⟨by rfl, ?_⟩; intro w hSw; (try dsimp only at hSw); go_simp; with_reducible rfl)
  try simp only [Act.put, List.setIfInBounds_toArray, List.set_cons_zero, List.set_cons_succ]
  refine wpAnyH_take (i := 21) (v := ?_) (arr_at rfl) (by kernel_rfl) (by kernel_rfl) (by kernel_rfl) (fun _ _ _ h => h) ?_ (by assumption) ?_
  rotate_left
  · first
    | (refine Or.inr ⟨by rfl, ?_⟩; with_reducible rfl)
    | (refine Or.inl ⟨by rfl, ?_⟩; intro w hSw; (try dsimp only at hSw); go_simp; done)
    | (refine Or.inl ⟨by rfl, ?_⟩; intro w hSw; (try dsimp only at hSw); go_simp; with_reducible rfl)
  try simp only [Act.put, List.setIfInBounds_toArray, List.set_cons_zero, List.set_cons_succ]
  refine wpAnyH_done (by kernel_rfl) ?_ _
  go_wp2
  go_ret
  exact ⟨ret_bool (by simp), B⟩
end Go.Proofs.Ytcfleoobhgagoaa
