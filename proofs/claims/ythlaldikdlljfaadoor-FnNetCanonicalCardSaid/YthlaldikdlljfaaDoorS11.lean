/- Contracts: the reference's parseEnd, ParseEnd, ParseNet. -/
import Derived.Test.YthlaldikdlljfaaDoorS10
namespace Go.Proofs.YthlaldikdlljfaaDoor
open Go.RowKit

set_option maxHeartbeats 3200000 in
theorem c_sEnd (s : ByteArray) (w : World) (hs : s.size ≤ 4000000000) :
    Calls Tryd.prog 68 #[.string s] w fun e w' => e = .returned (parV (parE s.data.toList)) ∧ Below w.heap.size w w' := by
  have r0 := Blk.new w 25 #[.int .i64 0, .int .i64 0]
  have B : Below w.heap.size w (w.alloc (.cells #[.int .i64 0, .int .i64 0] 25)) := (Below.refl _ _).alloc (Nat.le_refl _) _
  go_enter Tryd.func68, Tryd.ntmps68
  go_wp2_with fail
  refine (c_splitAt s 58 _ hs).mono ?_
  rintro e w1 ⟨v, xs, rfl, ho, hxs, hq⟩
  replace r0 := r0.to hq
  replace B := Bl.then B hq
  clear hq
  by_cases h2 : xs.length = 2
  · obtain ⟨gg, cc, x, y, rfl, rfl, hgb, hgl, hc0, hc1⟩ := so_two ho h2
    obtain ⟨q1, q2⟩ := two_parts hxs.symm
    obtain ⟨l1, l2⟩ := cut_len q1
    rw [← size_list, ← size_list] at l1 l2
    have hv : parE s.data.toList = if inB (addrV x.data.toList) 0 65535 && inB (numV y.data.toList) 0 65535 then some (addrV x.data.toList, numV y.data.toList) else none := by unfold parE; rw [q1]
    have HV := Lib.hid hv
    clear hv q1 q2 hxs h2 ho hgb
    have hx := addrV_bd x.data.toList
    have hy := numV_bd y.data.toList
    generalize ha : addrV x.data.toList = a at hx HV
    generalize hn : numV y.data.toList = n at hy HV
    have HA := Lib.hid ha
    have HP := Lib.hid hn
    clear ha hn
    go_wp2_with fail
    refine wp_region_held_drew (S := (fun w' => w'.cell? ⟨gg, 0, none⟩ = some (.string x) ∧ w'.cell? ⟨gg, 1, none⟩ = some (.string y))) (by kernel_rfl) ?_ (fun hHeld => ?_)
    · (try dsimp only); exact ⟨hc0, hc1⟩
    replace r0 : Blk w1.drew w.heap.size _ _ := r0; replace B : Below w.heap.size w w1.drew := Bl.drewN B 1; replace hc0 : w1.drew.cell? ⟨gg, 0, none⟩ = some (.string x) := hc0; replace hc1 : w1.drew.cell? ⟨gg, 1, none⟩ = some (.string y) := hc1; replace hgl : gg < w1.drew.heap.size := hgl; generalize World.drew w1 = wq at *
    refine wpAnyH_take (i := 0) (v := ?_) (arr_at rfl) (by kernel_rfl) (by kernel_rfl) (by kernel_rfl) (fun _ _ _ h => h) ?_ (by assumption) ?_
    rotate_left
    · first
      | (refine Or.inr ⟨by rfl, ?_⟩; with_reducible rfl)
      | (refine Or.inl ⟨by rfl, ?_⟩; intro w hSw; (try dsimp only at hSw); go_simp; done)
      | (refine Or.inl ⟨by rfl, ?_⟩; intro w hSw; (try dsimp only at hSw); go_simp; with_reducible rfl)
    try simp only [Act.put, List.setIfInBounds_toArray, List.set_cons_zero, List.set_cons_succ]
    refine wpAnyH_take (i := 1) (v := ?_) (arr_at rfl) (by kernel_rfl) (by kernel_rfl) (by kernel_rfl) (fun _ _ _ h => h) ?_ (by assumption) ?_
    rotate_left
    · first
      | (refine Or.inr ⟨by rfl, ?_⟩; with_reducible rfl)
      | (refine Or.inl ⟨by rfl, ?_⟩; intro w hSw; (try dsimp only at hSw); go_simp; done)
      | (refine Or.inl ⟨by rfl, ?_⟩; intro w hSw; (try dsimp only at hSw); go_simp; with_reducible rfl)
    try simp only [Act.put, List.setIfInBounds_toArray, List.set_cons_zero, List.set_cons_succ]
    refine wpAnyH_take (i := 2) (v := ?_) (arr_at rfl) (by kernel_rfl) (by kernel_rfl) (by kernel_rfl) (fun _ _ _ h => h) ?_ (by assumption) ?_
    rotate_left
    · first
      | (refine Or.inr ⟨by rfl, ?_⟩; with_reducible rfl)
      | (refine Or.inl ⟨by rfl, ?_⟩; intro w hSw; (try dsimp only at hSw); go_simp; done)
      | (refine Or.inl ⟨by rfl, ?_⟩; intro w hSw; (try dsimp only at hSw); go_simp; with_reducible rfl)
    try simp only [Act.put, List.setIfInBounds_toArray, List.set_cons_zero, List.set_cons_succ]
    refine wpAnyH_take (i := 4) (v := ?_) (arr_at rfl) (by kernel_rfl) (by kernel_rfl) (by kernel_rfl) (fun _ _ _ h => h) ?_ (by assumption) ?_
    rotate_left
    · first
      | (refine Or.inr ⟨by rfl, ?_⟩; with_reducible rfl)
      | (refine Or.inl ⟨by rfl, ?_⟩; intro w hSw; (try dsimp only at hSw); go_simp; done)
      | (refine Or.inl ⟨by rfl, ?_⟩; intro w hSw; (try dsimp only at hSw); go_simp; with_reducible rfl)
    try simp only [Act.put, List.setIfInBounds_toArray, List.set_cons_zero, List.set_cons_succ]
    refine wpAnyH_take (i := 5) (v := ?_) (arr_at rfl) (by kernel_rfl) (by kernel_rfl) (by kernel_rfl) (fun _ _ _ h => h) ?_ (by assumption) ?_
    rotate_left
    · first
      | (refine Or.inr ⟨by rfl, ?_⟩; with_reducible rfl)
      | (refine Or.inl ⟨by rfl, ?_⟩; intro w hSw; (try dsimp only at hSw); go_simp; done)
      | (refine Or.inl ⟨by rfl, ?_⟩; intro w hSw; (try dsimp only at hSw); go_simp; with_reducible rfl)
    try simp only [Act.put, List.setIfInBounds_toArray, List.set_cons_zero, List.set_cons_succ]
    refine wpAnyH_take (i := 6) (v := ?_) (arr_at rfl) (by kernel_rfl) (by kernel_rfl) (by kernel_rfl) (fun _ _ _ h => h) ?_ (by assumption) ?_
    rotate_left
    · first
      | (refine Or.inr ⟨by rfl, ?_⟩; with_reducible rfl)
      | (refine Or.inl ⟨by rfl, ?_⟩; intro w hSw; (try dsimp only at hSw); go_simp; done)
      | (refine Or.inl ⟨by rfl, ?_⟩; intro w hSw; (try dsimp only at hSw); go_simp; with_reducible rfl)
    try simp only [Act.put, List.setIfInBounds_toArray, List.set_cons_zero, List.set_cons_succ]
    refine wpAnyH_ready (rs := [3, 9]) (by kernel_rfl) (by simp) ?_
    refine AllReadyH.cons (arr_at rfl) (fun K hK => ?_) (AllReadyH.cons (arr_at rfl) (fun K hK => ?_) AllReadyH.nil)
    · go_simp
      go_at_call 66; refine (c_parseAddr x _ (by omega)).mono ?_; rw [HA.out]; rintro e wd ⟨rfl, hq⟩; (replace r0 := r0.to hq; replace hc0 := cell_keep hc0 hq; replace hc1 := cell_keep hc1 hq; replace B := Bl.then B hq; (first | (replace k1 := k1.to hq) | skip); (first | (replace hgl := Nat.lt_of_lt_of_le hgl hq.size) | skip); clear hq)
      refine hK.out _ _ ?_ (fun hHeld => ?_)
      · (try dsimp only); exact ⟨hc0, hc1⟩
      clear hK K
      try simp only [Act.put, List.setIfInBounds_toArray, List.set_cons_zero, List.set_cons_succ]
      refine wpAnyH_ready (rs := [7, 9]) (by kernel_rfl) (by simp) ?_
      refine AllReadyH.cons (arr_at rfl) (fun K hK => ?_) (AllReadyH.cons (arr_at rfl) (fun K hK => ?_) AllReadyH.nil)
      · go_simp
        go_at_call 67; refine (c_parseInt y _ (by omega)).mono ?_; rw [HP.out]; rintro e we ⟨rfl, hq⟩; (replace r0 := r0.to hq; replace hc0 := cell_keep hc0 hq; replace hc1 := cell_keep hc1 hq; replace B := Bl.then B hq; (first | (replace k1 := k1.to hq) | skip); (first | (replace hgl := Nat.lt_of_lt_of_le hgl hq.size) | skip); clear hq)
        refine hK.out _ _ ?_ (fun hHeld => ?_)
        · (try dsimp only); exact ⟨hc0, hc1⟩
        clear hK K
        try simp only [Act.put, List.setIfInBounds_toArray, List.set_cons_zero, List.set_cons_succ]
        refine wpAnyH_take (i := 8) (v := ?_) (arr_at rfl) (by kernel_rfl) (by kernel_rfl) (by kernel_rfl) (fun _ _ _ h => h) ?_ (by assumption) ?_
        rotate_left
        · first
          | (refine Or.inr ⟨by rfl, ?_⟩; with_reducible rfl)
          | (refine Or.inl ⟨by rfl, ?_⟩; intro w hSw; (try dsimp only at hSw); go_simp; done)
          | (refine Or.inl ⟨by rfl, ?_⟩; intro w hSw; (try dsimp only at hSw); go_simp; with_reducible rfl)
        try simp only [Act.put, List.setIfInBounds_toArray, List.set_cons_zero, List.set_cons_succ]
        refine wpAnyH_ready (rs := [9]) (by kernel_rfl) (by simp) ?_
        refine AllReadyH.cons (arr_at rfl) (fun K hK => ?_) AllReadyH.nil
        go_simp
        have hb5 : w.heap.size < we.heap.size := r0.lt; have hg5 : gg < we.heap.size := hgl; have k1 := Blk.new we 25 #[.int .i64 0, .int .i64 0]; have hal : Below we.heap.size we (we.alloc (.cells #[.int .i64 0, .int .i64 0] 25)) := (Below.refl _ _).alloc (Nat.le_refl _) _; replace r0 := r0.to hal; replace hc0 := cell_keep hc0 hal; replace hc1 := cell_keep hc1 hal; replace B := Bl.then B hal; clear hal hgl; generalize we.alloc (.cells #[.int .i64 0, .int .i64 0] 25) = wz at *; generalize we.heap.size = b5 at hb5 hg5 k1 ⊢
        refine hK.out _ _ ?_ (fun hHeld => ?_)
        · (try dsimp only); exact ⟨hc0, hc1⟩
        clear hK K
        try simp only [Act.put, List.setIfInBounds_toArray, List.set_cons_zero, List.set_cons_succ]
        refine wpAnyH_ready (rs := [10]) (by kernel_rfl) (by simp) ?_
        refine AllReadyH.cons (arr_at rfl) (fun K hK => ?_) AllReadyH.nil
        have e0 := k1.cell 0; have e1 := k1.cell 1; have f0 := k1.frozen 0; have f1 := k1.frozen 1; have hlt5 := k1.lt; simp only [List.getElem?_toArray, List.getElem?_cons_zero, List.getElem?_cons_succ] at e0 e1; go_simp; generalize hwf : ((wz.setCell { block := b5, off := 0 } (Value.int IntKind.i64 a)).setCell { block := b5, off := 1 } (Value.int IntKind.i64 n)) = wf; replace r0 : Blk wf w.heap.size 25 #[.int .i64 0, .int .i64 0] := (by rw [← hwf]; exact (r0.far (Nat.ne_of_lt hb5) _).far (Nat.ne_of_lt hb5) _); replace hc0 : wf.cell? ⟨gg, 0, none⟩ = some (.string x) := (by rw [← hwf]; exact (cell_far (Nat.ne_of_lt hg5)).trans ((cell_far (Nat.ne_of_lt hg5)).trans hc0)); replace hc1 : wf.cell? ⟨gg, 1, none⟩ = some (.string y) := (by rw [← hwf]; exact (cell_far (Nat.ne_of_lt hg5)).trans ((cell_far (Nat.ne_of_lt hg5)).trans hc1)); replace B : Below w.heap.size w wf := (by rw [← hwf]; exact (B.setCell (Nat.le_of_lt hb5) _).setCell (Nat.le_of_lt hb5) _); replace k1 : Blk wf b5 25 #[.int .i64 a, .int .i64 n] := (by rw [← hwf]; exact (k1.set_ 0 _).set_ 1 _); clear hwf e0 e1 f0 f1 hlt5
        refine hK.out _ _ ?_ (fun hHeld => ?_)
        · (try dsimp only); exact ⟨hc0, hc1⟩
        clear hK K
        try simp only [Act.put, List.setIfInBounds_toArray, List.set_cons_zero, List.set_cons_succ]
        refine wpAnyH_done (by kernel_rfl) ?_ _
        have m0 := k1.cell 0; have m1 := k1.cell 1; simp only [List.getElem?_toArray, List.getElem?_cons_zero, List.getElem?_cons_succ] at m0 m1; go_wp2_with fail; refine (c_validEnd a n _).mono ?_; rintro e wg ⟨rfl, hq⟩; replace r0 := r0.to hq; replace k1 := k1.to hq; replace B := Bl.then B hq; clear hq m0 m1; have m0 := k1.cell 0; have m1 := k1.cell 1; simp only [List.getElem?_toArray, List.getElem?_cons_zero, List.getElem?_cons_succ] at m0 m1; have e0 := r0.cell 0; have e1 := r0.cell 1; have f0 := r0.frozen 0; have f1 := r0.frozen 1; have hlt0 := r0.lt; simp only [List.getElem?_toArray, List.getElem?_cons_zero, List.getElem?_cons_succ] at e0 e1; cases hv : inB a 0 65535 && inB n 0 65535; (focus have HO : Hid (parE s.data.toList = none) := (by rw [Hid, HV.out, hv]; rfl); clear hv; go_wp2; generalize hwh : ((wg.setCell { block := w.heap.size, off := 0 } (Value.int IntKind.i64 0)).setCell { block := w.heap.size, off := 1 } (Value.int IntKind.i64 0)) = wh; have z : Blk wh w.heap.size 25 #[.int .i64 0, .int .i64 0] := (by rw [← hwh]; exact (r0.set_ 0 _).set_ 1 _); have Bf : Below w.heap.size w wh := (by rw [← hwh]; exact (B.setCell (Nat.le_refl _) _).setCell (Nat.le_refl _) _); have z0 := z.cell 0; have z1 := z.cell 1; simp only [List.getElem?_toArray, List.getElem?_cons_zero, List.getElem?_cons_succ] at z0 z1; refine bodyPost_ret (v := .tuple #[.agg #[.int .i64 0, .int .i64 0], .bool false]) (by simp [results, Tryd.results68, go_sem, z0, z1]) rfl ?_; exact ⟨by rw [HO.out]; rfl, Bf⟩); (focus have HO : Hid (parE s.data.toList = some (a, n)) := (by rw [Hid, HV.out, hv]; rfl); clear hv; go_wp2; generalize hwh : ((wg.setCell { block := w.heap.size, off := 0 } (Value.int IntKind.i64 a)).setCell { block := w.heap.size, off := 1 } (Value.int IntKind.i64 n)) = wh; have z : Blk wh w.heap.size 25 #[.int .i64 a, .int .i64 n] := (by rw [← hwh]; exact (r0.set_ 0 _).set_ 1 _); have Bf : Below w.heap.size w wh := (by rw [← hwh]; exact (B.setCell (Nat.le_refl _) _).setCell (Nat.le_refl _) _); have z0 := z.cell 0; have z1 := z.cell 1; simp only [List.getElem?_toArray, List.getElem?_cons_zero, List.getElem?_cons_succ] at z0 z1; refine bodyPost_ret (v := .tuple #[.agg #[.int .i64 a, .int .i64 n], .bool true]) (by simp [results, Tryd.results68, go_sem, z0, z1]) rfl ?_; exact ⟨by rw [HO.out]; rfl, Bf⟩)
      · go_simp
        have hb5 : w.heap.size < wd.heap.size := r0.lt; have hg5 : gg < wd.heap.size := hgl; have k1 := Blk.new wd 25 #[.int .i64 0, .int .i64 0]; have hal : Below wd.heap.size wd (wd.alloc (.cells #[.int .i64 0, .int .i64 0] 25)) := (Below.refl _ _).alloc (Nat.le_refl _) _; replace r0 := r0.to hal; replace hc0 := cell_keep hc0 hal; replace hc1 := cell_keep hc1 hal; replace B := Bl.then B hal; clear hal hgl; generalize wd.alloc (.cells #[.int .i64 0, .int .i64 0] 25) = wx at *; generalize wd.heap.size = b5 at hb5 hg5 k1 ⊢
        refine hK.out _ _ ?_ (fun hHeld => ?_)
        · (try dsimp only); exact ⟨hc0, hc1⟩
        clear hK K
        try simp only [Act.put, List.setIfInBounds_toArray, List.set_cons_zero, List.set_cons_succ]
        refine wpAnyH_ready (rs := [7]) (by kernel_rfl) (by simp) ?_
        refine AllReadyH.cons (arr_at rfl) (fun K hK => ?_) AllReadyH.nil
        go_simp
        go_at_call 67; refine (c_parseInt y _ (by omega)).mono ?_; rw [HP.out]; rintro e wz ⟨rfl, hq⟩; (replace r0 := r0.to hq; replace hc0 := cell_keep hc0 hq; replace hc1 := cell_keep hc1 hq; replace B := Bl.then B hq; (first | (replace k1 := k1.to hq) | skip); (first | (replace hgl := Nat.lt_of_lt_of_le hgl hq.size) | skip); clear hq)
        refine hK.out _ _ ?_ (fun hHeld => ?_)
        · (try dsimp only); exact ⟨hc0, hc1⟩
        clear hK K
        try simp only [Act.put, List.setIfInBounds_toArray, List.set_cons_zero, List.set_cons_succ]
        refine wpAnyH_take (i := 8) (v := ?_) (arr_at rfl) (by kernel_rfl) (by kernel_rfl) (by kernel_rfl) (fun _ _ _ h => h) ?_ (by assumption) ?_
        rotate_left
        · first
          | (refine Or.inr ⟨by rfl, ?_⟩; with_reducible rfl)
          | (refine Or.inl ⟨by rfl, ?_⟩; intro w hSw; (try dsimp only at hSw); go_simp; done)
          | (refine Or.inl ⟨by rfl, ?_⟩; intro w hSw; (try dsimp only at hSw); go_simp; with_reducible rfl)
        try simp only [Act.put, List.setIfInBounds_toArray, List.set_cons_zero, List.set_cons_succ]
        refine wpAnyH_ready (rs := [10]) (by kernel_rfl) (by simp) ?_
        refine AllReadyH.cons (arr_at rfl) (fun K hK => ?_) AllReadyH.nil
        have e0 := k1.cell 0; have e1 := k1.cell 1; have f0 := k1.frozen 0; have f1 := k1.frozen 1; have hlt5 := k1.lt; simp only [List.getElem?_toArray, List.getElem?_cons_zero, List.getElem?_cons_succ] at e0 e1; go_simp; generalize hwf : ((wz.setCell { block := b5, off := 0 } (Value.int IntKind.i64 a)).setCell { block := b5, off := 1 } (Value.int IntKind.i64 n)) = wf; replace r0 : Blk wf w.heap.size 25 #[.int .i64 0, .int .i64 0] := (by rw [← hwf]; exact (r0.far (Nat.ne_of_lt hb5) _).far (Nat.ne_of_lt hb5) _); replace hc0 : wf.cell? ⟨gg, 0, none⟩ = some (.string x) := (by rw [← hwf]; exact (cell_far (Nat.ne_of_lt hg5)).trans ((cell_far (Nat.ne_of_lt hg5)).trans hc0)); replace hc1 : wf.cell? ⟨gg, 1, none⟩ = some (.string y) := (by rw [← hwf]; exact (cell_far (Nat.ne_of_lt hg5)).trans ((cell_far (Nat.ne_of_lt hg5)).trans hc1)); replace B : Below w.heap.size w wf := (by rw [← hwf]; exact (B.setCell (Nat.le_of_lt hb5) _).setCell (Nat.le_of_lt hb5) _); replace k1 : Blk wf b5 25 #[.int .i64 a, .int .i64 n] := (by rw [← hwf]; exact (k1.set_ 0 _).set_ 1 _); clear hwf e0 e1 f0 f1 hlt5
        refine hK.out _ _ ?_ (fun hHeld => ?_)
        · (try dsimp only); exact ⟨hc0, hc1⟩
        clear hK K
        try simp only [Act.put, List.setIfInBounds_toArray, List.set_cons_zero, List.set_cons_succ]
        refine wpAnyH_done (by kernel_rfl) ?_ _
        have m0 := k1.cell 0; have m1 := k1.cell 1; simp only [List.getElem?_toArray, List.getElem?_cons_zero, List.getElem?_cons_succ] at m0 m1; go_wp2_with fail; refine (c_validEnd a n _).mono ?_; rintro e wg ⟨rfl, hq⟩; replace r0 := r0.to hq; replace k1 := k1.to hq; replace B := Bl.then B hq; clear hq m0 m1; have m0 := k1.cell 0; have m1 := k1.cell 1; simp only [List.getElem?_toArray, List.getElem?_cons_zero, List.getElem?_cons_succ] at m0 m1; have e0 := r0.cell 0; have e1 := r0.cell 1; have f0 := r0.frozen 0; have f1 := r0.frozen 1; have hlt0 := r0.lt; simp only [List.getElem?_toArray, List.getElem?_cons_zero, List.getElem?_cons_succ] at e0 e1; cases hv : inB a 0 65535 && inB n 0 65535; (focus have HO : Hid (parE s.data.toList = none) := (by rw [Hid, HV.out, hv]; rfl); clear hv; go_wp2; generalize hwh : ((wg.setCell { block := w.heap.size, off := 0 } (Value.int IntKind.i64 0)).setCell { block := w.heap.size, off := 1 } (Value.int IntKind.i64 0)) = wh; have z : Blk wh w.heap.size 25 #[.int .i64 0, .int .i64 0] := (by rw [← hwh]; exact (r0.set_ 0 _).set_ 1 _); have Bf : Below w.heap.size w wh := (by rw [← hwh]; exact (B.setCell (Nat.le_refl _) _).setCell (Nat.le_refl _) _); have z0 := z.cell 0; have z1 := z.cell 1; simp only [List.getElem?_toArray, List.getElem?_cons_zero, List.getElem?_cons_succ] at z0 z1; refine bodyPost_ret (v := .tuple #[.agg #[.int .i64 0, .int .i64 0], .bool false]) (by simp [results, Tryd.results68, go_sem, z0, z1]) rfl ?_; exact ⟨by rw [HO.out]; rfl, Bf⟩); (focus have HO : Hid (parE s.data.toList = some (a, n)) := (by rw [Hid, HV.out, hv]; rfl); clear hv; go_wp2; generalize hwh : ((wg.setCell { block := w.heap.size, off := 0 } (Value.int IntKind.i64 a)).setCell { block := w.heap.size, off := 1 } (Value.int IntKind.i64 n)) = wh; have z : Blk wh w.heap.size 25 #[.int .i64 a, .int .i64 n] := (by rw [← hwh]; exact (r0.set_ 0 _).set_ 1 _); have Bf : Below w.heap.size w wh := (by rw [← hwh]; exact (B.setCell (Nat.le_refl _) _).setCell (Nat.le_refl _) _); have z0 := z.cell 0; have z1 := z.cell 1; simp only [List.getElem?_toArray, List.getElem?_cons_zero, List.getElem?_cons_succ] at z0 z1; refine bodyPost_ret (v := .tuple #[.agg #[.int .i64 a, .int .i64 n], .bool true]) (by simp [results, Tryd.results68, go_sem, z0, z1]) rfl ?_; exact ⟨by rw [HO.out]; rfl, Bf⟩)
    · go_simp
      have hb5 : w.heap.size < wq.heap.size := r0.lt; have hg5 : gg < wq.heap.size := hgl; have k1 := Blk.new wq 25 #[.int .i64 0, .int .i64 0]; have hal : Below wq.heap.size wq (wq.alloc (.cells #[.int .i64 0, .int .i64 0] 25)) := (Below.refl _ _).alloc (Nat.le_refl _) _; replace r0 := r0.to hal; replace hc0 := cell_keep hc0 hal; replace hc1 := cell_keep hc1 hal; replace B := Bl.then B hal; clear hal hgl; generalize wq.alloc (.cells #[.int .i64 0, .int .i64 0] 25) = wx at *; generalize wq.heap.size = b5 at hb5 hg5 k1 ⊢
      refine hK.out _ _ ?_ (fun hHeld => ?_)
      · (try dsimp only); exact ⟨hc0, hc1⟩
      clear hK K
      try simp only [Act.put, List.setIfInBounds_toArray, List.set_cons_zero, List.set_cons_succ]
      refine wpAnyH_ready (rs := [3]) (by kernel_rfl) (by simp) ?_
      refine AllReadyH.cons (arr_at rfl) (fun K hK => ?_) AllReadyH.nil
      go_simp
      go_at_call 66; refine (c_parseAddr x _ (by omega)).mono ?_; rw [HA.out]; rintro e wd ⟨rfl, hq⟩; (replace r0 := r0.to hq; replace hc0 := cell_keep hc0 hq; replace hc1 := cell_keep hc1 hq; replace B := Bl.then B hq; (first | (replace k1 := k1.to hq) | skip); (first | (replace hgl := Nat.lt_of_lt_of_le hgl hq.size) | skip); clear hq)
      refine hK.out _ _ ?_ (fun hHeld => ?_)
      · (try dsimp only); exact ⟨hc0, hc1⟩
      clear hK K
      try simp only [Act.put, List.setIfInBounds_toArray, List.set_cons_zero, List.set_cons_succ]
      refine wpAnyH_ready (rs := [7]) (by kernel_rfl) (by simp) ?_
      refine AllReadyH.cons (arr_at rfl) (fun K hK => ?_) AllReadyH.nil
      go_simp
      go_at_call 67; refine (c_parseInt y _ (by omega)).mono ?_; rw [HP.out]; rintro e wz ⟨rfl, hq⟩; (replace r0 := r0.to hq; replace hc0 := cell_keep hc0 hq; replace hc1 := cell_keep hc1 hq; replace B := Bl.then B hq; (first | (replace k1 := k1.to hq) | skip); (first | (replace hgl := Nat.lt_of_lt_of_le hgl hq.size) | skip); clear hq)
      refine hK.out _ _ ?_ (fun hHeld => ?_)
      · (try dsimp only); exact ⟨hc0, hc1⟩
      clear hK K
      try simp only [Act.put, List.setIfInBounds_toArray, List.set_cons_zero, List.set_cons_succ]
      refine wpAnyH_take (i := 8) (v := ?_) (arr_at rfl) (by kernel_rfl) (by kernel_rfl) (by kernel_rfl) (fun _ _ _ h => h) ?_ (by assumption) ?_
      rotate_left
      · first
        | (refine Or.inr ⟨by rfl, ?_⟩; with_reducible rfl)
        | (refine Or.inl ⟨by rfl, ?_⟩; intro w hSw; (try dsimp only at hSw); go_simp; done)
        | (refine Or.inl ⟨by rfl, ?_⟩; intro w hSw; (try dsimp only at hSw); go_simp; with_reducible rfl)
      try simp only [Act.put, List.setIfInBounds_toArray, List.set_cons_zero, List.set_cons_succ]
      refine wpAnyH_ready (rs := [10]) (by kernel_rfl) (by simp) ?_
      refine AllReadyH.cons (arr_at rfl) (fun K hK => ?_) AllReadyH.nil
      have e0 := k1.cell 0; have e1 := k1.cell 1; have f0 := k1.frozen 0; have f1 := k1.frozen 1; have hlt5 := k1.lt; simp only [List.getElem?_toArray, List.getElem?_cons_zero, List.getElem?_cons_succ] at e0 e1; go_simp; generalize hwf : ((wz.setCell { block := b5, off := 0 } (Value.int IntKind.i64 a)).setCell { block := b5, off := 1 } (Value.int IntKind.i64 n)) = wf; replace r0 : Blk wf w.heap.size 25 #[.int .i64 0, .int .i64 0] := (by rw [← hwf]; exact (r0.far (Nat.ne_of_lt hb5) _).far (Nat.ne_of_lt hb5) _); replace hc0 : wf.cell? ⟨gg, 0, none⟩ = some (.string x) := (by rw [← hwf]; exact (cell_far (Nat.ne_of_lt hg5)).trans ((cell_far (Nat.ne_of_lt hg5)).trans hc0)); replace hc1 : wf.cell? ⟨gg, 1, none⟩ = some (.string y) := (by rw [← hwf]; exact (cell_far (Nat.ne_of_lt hg5)).trans ((cell_far (Nat.ne_of_lt hg5)).trans hc1)); replace B : Below w.heap.size w wf := (by rw [← hwf]; exact (B.setCell (Nat.le_of_lt hb5) _).setCell (Nat.le_of_lt hb5) _); replace k1 : Blk wf b5 25 #[.int .i64 a, .int .i64 n] := (by rw [← hwf]; exact (k1.set_ 0 _).set_ 1 _); clear hwf e0 e1 f0 f1 hlt5
      refine hK.out _ _ ?_ (fun hHeld => ?_)
      · (try dsimp only); exact ⟨hc0, hc1⟩
      clear hK K
      try simp only [Act.put, List.setIfInBounds_toArray, List.set_cons_zero, List.set_cons_succ]
      refine wpAnyH_done (by kernel_rfl) ?_ _
      have m0 := k1.cell 0; have m1 := k1.cell 1; simp only [List.getElem?_toArray, List.getElem?_cons_zero, List.getElem?_cons_succ] at m0 m1; go_wp2_with fail; refine (c_validEnd a n _).mono ?_; rintro e wg ⟨rfl, hq⟩; replace r0 := r0.to hq; replace k1 := k1.to hq; replace B := Bl.then B hq; clear hq m0 m1; have m0 := k1.cell 0; have m1 := k1.cell 1; simp only [List.getElem?_toArray, List.getElem?_cons_zero, List.getElem?_cons_succ] at m0 m1; have e0 := r0.cell 0; have e1 := r0.cell 1; have f0 := r0.frozen 0; have f1 := r0.frozen 1; have hlt0 := r0.lt; simp only [List.getElem?_toArray, List.getElem?_cons_zero, List.getElem?_cons_succ] at e0 e1; cases hv : inB a 0 65535 && inB n 0 65535; (focus have HO : Hid (parE s.data.toList = none) := (by rw [Hid, HV.out, hv]; rfl); clear hv; go_wp2; generalize hwh : ((wg.setCell { block := w.heap.size, off := 0 } (Value.int IntKind.i64 0)).setCell { block := w.heap.size, off := 1 } (Value.int IntKind.i64 0)) = wh; have z : Blk wh w.heap.size 25 #[.int .i64 0, .int .i64 0] := (by rw [← hwh]; exact (r0.set_ 0 _).set_ 1 _); have Bf : Below w.heap.size w wh := (by rw [← hwh]; exact (B.setCell (Nat.le_refl _) _).setCell (Nat.le_refl _) _); have z0 := z.cell 0; have z1 := z.cell 1; simp only [List.getElem?_toArray, List.getElem?_cons_zero, List.getElem?_cons_succ] at z0 z1; refine bodyPost_ret (v := .tuple #[.agg #[.int .i64 0, .int .i64 0], .bool false]) (by simp [results, Tryd.results68, go_sem, z0, z1]) rfl ?_; exact ⟨by rw [HO.out]; rfl, Bf⟩); (focus have HO : Hid (parE s.data.toList = some (a, n)) := (by rw [Hid, HV.out, hv]; rfl); clear hv; go_wp2; generalize hwh : ((wg.setCell { block := w.heap.size, off := 0 } (Value.int IntKind.i64 a)).setCell { block := w.heap.size, off := 1 } (Value.int IntKind.i64 n)) = wh; have z : Blk wh w.heap.size 25 #[.int .i64 a, .int .i64 n] := (by rw [← hwh]; exact (r0.set_ 0 _).set_ 1 _); have Bf : Below w.heap.size w wh := (by rw [← hwh]; exact (B.setCell (Nat.le_refl _) _).setCell (Nat.le_refl _) _); have z0 := z.cell 0; have z1 := z.cell 1; simp only [List.getElem?_toArray, List.getElem?_cons_zero, List.getElem?_cons_succ] at z0 z1; refine bodyPost_ret (v := .tuple #[.agg #[.int .i64 a, .int .i64 n], .bool true]) (by simp [results, Tryd.results68, go_sem, z0, z1]) rfl ?_; exact ⟨by rw [HO.out]; rfl, Bf⟩)
  · obtain ⟨E, cE, rfl, -, -, -⟩ := own_slice ho
    have hl : (spl s.data.toList 58).length ≠ 2 := by rw [← hxs, List.length_map]; exact h2
    have HO := Lib.hid (parE_not hl)
    have t0 : ((xs.length : Int) == 2) = false := by rw [beq_eq_false_iff_ne]; omega
    clear hl hxs ho
    have e0 := r0.cell 0
    have e1 := r0.cell 1
    have f0 := r0.frozen 0
    have f1 := r0.frozen 1
    simp only [List.getElem?_toArray, List.getElem?_cons_zero, List.getElem?_cons_succ] at e0 e1
    have hlt0 := r0.lt
    go_wp2
    generalize hwf : ((w1.setCell { block := w.heap.size, off := 0 } (Value.int IntKind.i64 0)).setCell { block := w.heap.size, off := 1 } (Value.int IntKind.i64 0)) = wf
    have z : Blk wf w.heap.size 25 #[.int .i64 0, .int .i64 0] := by rw [← hwf]; exact (r0.set_ 0 _).set_ 1 _
    have Bf : Below w.heap.size w wf := by rw [← hwf]; exact (B.setCell (Nat.le_refl _) _).setCell (Nat.le_refl _) _
    have z0 := z.cell 0
    have z1 := z.cell 1
    simp only [List.getElem?_toArray, List.getElem?_cons_zero, List.getElem?_cons_succ] at z0 z1
    refine bodyPost_ret (v := .tuple #[.agg #[.int .i64 0, .int .i64 0], .bool false]) (by simp [results, Tryd.results68, go_sem, z0, z1]) rfl ?_
    exact ⟨by rw [HO.out]; rfl, Bf⟩

set_option maxHeartbeats 3200000 in
theorem c_sNet (s : ByteArray) (w : World) (hs : s.size ≤ 4000000000) :
    Calls Tryd.prog 33 #[.string s] w fun e w' => e = .returned (parV (parN s.data.toList)) ∧ Below w.heap.size w w' := by
  have r0 := Blk.new w 31 #[.int .i64 0, .int .i64 0]
  have B : Below w.heap.size w (w.alloc (.cells #[.int .i64 0, .int .i64 0] 31)) := (Below.refl _ _).alloc (Nat.le_refl _) _
  go_enter Tryd.func33, Tryd.ntmps33
  go_wp2_with fail
  refine (c_splitAt s 47 _ hs).mono ?_
  rintro e w1 ⟨v, xs, rfl, ho, hxs, hq⟩
  replace r0 := r0.to hq
  replace B := Bl.then B hq
  clear hq
  by_cases h2 : xs.length = 2
  · obtain ⟨gg, cc, x, y, rfl, rfl, hgb, hgl, hc0, hc1⟩ := so_two ho h2
    obtain ⟨q1, q2⟩ := two_parts hxs.symm
    obtain ⟨l1, l2⟩ := cut_len q1
    rw [← size_list, ← size_list] at l1 l2
    have hv : parN s.data.toList = if vNet (addrV x.data.toList) (numV y.data.toList) then some (addrV x.data.toList, numV y.data.toList) else none := by unfold parN; rw [q1]
    have HV := Lib.hid hv
    clear hv q1 q2 hxs h2 ho hgb
    have hx := addrV_bd x.data.toList
    have hy := numV_bd y.data.toList
    generalize ha : addrV x.data.toList = a at hx HV
    generalize hn : numV y.data.toList = n at hy HV
    have HA := Lib.hid ha
    have HP := Lib.hid hn
    clear ha hn
    go_wp2_with fail
    refine wp_region_held_drew (S := (fun w' => w'.cell? ⟨gg, 0, none⟩ = some (.string x) ∧ w'.cell? ⟨gg, 1, none⟩ = some (.string y))) (by kernel_rfl) ?_ (fun hHeld => ?_)
    · (try dsimp only); exact ⟨hc0, hc1⟩
    replace r0 : Blk w1.drew w.heap.size _ _ := r0; replace B : Below w.heap.size w w1.drew := Bl.drewN B 1; replace hc0 : w1.drew.cell? ⟨gg, 0, none⟩ = some (.string x) := hc0; replace hc1 : w1.drew.cell? ⟨gg, 1, none⟩ = some (.string y) := hc1; replace hgl : gg < w1.drew.heap.size := hgl; generalize World.drew w1 = wq at *
    refine wpAnyH_take (i := 0) (v := ?_) (arr_at rfl) (by kernel_rfl) (by kernel_rfl) (by kernel_rfl) (fun _ _ _ h => h) ?_ (by assumption) ?_
    rotate_left
    · first
      | (refine Or.inr ⟨by rfl, ?_⟩; with_reducible rfl)
      | (refine Or.inl ⟨by rfl, ?_⟩; intro w hSw; (try dsimp only at hSw); go_simp; done)
      | (refine Or.inl ⟨by rfl, ?_⟩; intro w hSw; (try dsimp only at hSw); go_simp; with_reducible rfl)
    try simp only [Act.put, List.setIfInBounds_toArray, List.set_cons_zero, List.set_cons_succ]
    refine wpAnyH_take (i := 1) (v := ?_) (arr_at rfl) (by kernel_rfl) (by kernel_rfl) (by kernel_rfl) (fun _ _ _ h => h) ?_ (by assumption) ?_
    rotate_left
    · first
      | (refine Or.inr ⟨by rfl, ?_⟩; with_reducible rfl)
      | (refine Or.inl ⟨by rfl, ?_⟩; intro w hSw; (try dsimp only at hSw); go_simp; done)
      | (refine Or.inl ⟨by rfl, ?_⟩; intro w hSw; (try dsimp only at hSw); go_simp; with_reducible rfl)
    try simp only [Act.put, List.setIfInBounds_toArray, List.set_cons_zero, List.set_cons_succ]
    refine wpAnyH_take (i := 2) (v := ?_) (arr_at rfl) (by kernel_rfl) (by kernel_rfl) (by kernel_rfl) (fun _ _ _ h => h) ?_ (by assumption) ?_
    rotate_left
    · first
      | (refine Or.inr ⟨by rfl, ?_⟩; with_reducible rfl)
      | (refine Or.inl ⟨by rfl, ?_⟩; intro w hSw; (try dsimp only at hSw); go_simp; done)
      | (refine Or.inl ⟨by rfl, ?_⟩; intro w hSw; (try dsimp only at hSw); go_simp; with_reducible rfl)
    try simp only [Act.put, List.setIfInBounds_toArray, List.set_cons_zero, List.set_cons_succ]
    refine wpAnyH_take (i := 4) (v := ?_) (arr_at rfl) (by kernel_rfl) (by kernel_rfl) (by kernel_rfl) (fun _ _ _ h => h) ?_ (by assumption) ?_
    rotate_left
    · first
      | (refine Or.inr ⟨by rfl, ?_⟩; with_reducible rfl)
      | (refine Or.inl ⟨by rfl, ?_⟩; intro w hSw; (try dsimp only at hSw); go_simp; done)
      | (refine Or.inl ⟨by rfl, ?_⟩; intro w hSw; (try dsimp only at hSw); go_simp; with_reducible rfl)
    try simp only [Act.put, List.setIfInBounds_toArray, List.set_cons_zero, List.set_cons_succ]
    refine wpAnyH_take (i := 5) (v := ?_) (arr_at rfl) (by kernel_rfl) (by kernel_rfl) (by kernel_rfl) (fun _ _ _ h => h) ?_ (by assumption) ?_
    rotate_left
    · first
      | (refine Or.inr ⟨by rfl, ?_⟩; with_reducible rfl)
      | (refine Or.inl ⟨by rfl, ?_⟩; intro w hSw; (try dsimp only at hSw); go_simp; done)
      | (refine Or.inl ⟨by rfl, ?_⟩; intro w hSw; (try dsimp only at hSw); go_simp; with_reducible rfl)
    try simp only [Act.put, List.setIfInBounds_toArray, List.set_cons_zero, List.set_cons_succ]
    refine wpAnyH_take (i := 6) (v := ?_) (arr_at rfl) (by kernel_rfl) (by kernel_rfl) (by kernel_rfl) (fun _ _ _ h => h) ?_ (by assumption) ?_
    rotate_left
    · first
      | (refine Or.inr ⟨by rfl, ?_⟩; with_reducible rfl)
      | (refine Or.inl ⟨by rfl, ?_⟩; intro w hSw; (try dsimp only at hSw); go_simp; done)
      | (refine Or.inl ⟨by rfl, ?_⟩; intro w hSw; (try dsimp only at hSw); go_simp; with_reducible rfl)
    try simp only [Act.put, List.setIfInBounds_toArray, List.set_cons_zero, List.set_cons_succ]
    refine wpAnyH_ready (rs := [3, 9]) (by kernel_rfl) (by simp) ?_
    refine AllReadyH.cons (arr_at rfl) (fun K hK => ?_) (AllReadyH.cons (arr_at rfl) (fun K hK => ?_) AllReadyH.nil)
    · go_simp
      go_at_call 66; refine (c_parseAddr x _ (by omega)).mono ?_; rw [HA.out]; rintro e wd ⟨rfl, hq⟩; (replace r0 := r0.to hq; replace hc0 := cell_keep hc0 hq; replace hc1 := cell_keep hc1 hq; replace B := Bl.then B hq; (first | (replace k1 := k1.to hq) | skip); (first | (replace hgl := Nat.lt_of_lt_of_le hgl hq.size) | skip); clear hq)
      refine hK.out _ _ ?_ (fun hHeld => ?_)
      · (try dsimp only); exact ⟨hc0, hc1⟩
      clear hK K
      try simp only [Act.put, List.setIfInBounds_toArray, List.set_cons_zero, List.set_cons_succ]
      refine wpAnyH_ready (rs := [7, 9]) (by kernel_rfl) (by simp) ?_
      refine AllReadyH.cons (arr_at rfl) (fun K hK => ?_) (AllReadyH.cons (arr_at rfl) (fun K hK => ?_) AllReadyH.nil)
      · go_simp
        go_at_call 67; refine (c_parseInt y _ (by omega)).mono ?_; rw [HP.out]; rintro e we ⟨rfl, hq⟩; (replace r0 := r0.to hq; replace hc0 := cell_keep hc0 hq; replace hc1 := cell_keep hc1 hq; replace B := Bl.then B hq; (first | (replace k1 := k1.to hq) | skip); (first | (replace hgl := Nat.lt_of_lt_of_le hgl hq.size) | skip); clear hq)
        refine hK.out _ _ ?_ (fun hHeld => ?_)
        · (try dsimp only); exact ⟨hc0, hc1⟩
        clear hK K
        try simp only [Act.put, List.setIfInBounds_toArray, List.set_cons_zero, List.set_cons_succ]
        refine wpAnyH_take (i := 8) (v := ?_) (arr_at rfl) (by kernel_rfl) (by kernel_rfl) (by kernel_rfl) (fun _ _ _ h => h) ?_ (by assumption) ?_
        rotate_left
        · first
          | (refine Or.inr ⟨by rfl, ?_⟩; with_reducible rfl)
          | (refine Or.inl ⟨by rfl, ?_⟩; intro w hSw; (try dsimp only at hSw); go_simp; done)
          | (refine Or.inl ⟨by rfl, ?_⟩; intro w hSw; (try dsimp only at hSw); go_simp; with_reducible rfl)
        try simp only [Act.put, List.setIfInBounds_toArray, List.set_cons_zero, List.set_cons_succ]
        refine wpAnyH_ready (rs := [9]) (by kernel_rfl) (by simp) ?_
        refine AllReadyH.cons (arr_at rfl) (fun K hK => ?_) AllReadyH.nil
        go_simp
        have hb5 : w.heap.size < we.heap.size := r0.lt; have hg5 : gg < we.heap.size := hgl; have k1 := Blk.new we 31 #[.int .i64 0, .int .i64 0]; have hal : Below we.heap.size we (we.alloc (.cells #[.int .i64 0, .int .i64 0] 31)) := (Below.refl _ _).alloc (Nat.le_refl _) _; replace r0 := r0.to hal; replace hc0 := cell_keep hc0 hal; replace hc1 := cell_keep hc1 hal; replace B := Bl.then B hal; clear hal hgl; generalize we.alloc (.cells #[.int .i64 0, .int .i64 0] 31) = wz at *; generalize we.heap.size = b5 at hb5 hg5 k1 ⊢
        refine hK.out _ _ ?_ (fun hHeld => ?_)
        · (try dsimp only); exact ⟨hc0, hc1⟩
        clear hK K
        try simp only [Act.put, List.setIfInBounds_toArray, List.set_cons_zero, List.set_cons_succ]
        refine wpAnyH_ready (rs := [10]) (by kernel_rfl) (by simp) ?_
        refine AllReadyH.cons (arr_at rfl) (fun K hK => ?_) AllReadyH.nil
        have e0 := k1.cell 0; have e1 := k1.cell 1; have f0 := k1.frozen 0; have f1 := k1.frozen 1; have hlt5 := k1.lt; simp only [List.getElem?_toArray, List.getElem?_cons_zero, List.getElem?_cons_succ] at e0 e1; go_simp; generalize hwf : ((wz.setCell { block := b5, off := 0 } (Value.int IntKind.i64 a)).setCell { block := b5, off := 1 } (Value.int IntKind.i64 n)) = wf; replace r0 : Blk wf w.heap.size 31 #[.int .i64 0, .int .i64 0] := (by rw [← hwf]; exact (r0.far (Nat.ne_of_lt hb5) _).far (Nat.ne_of_lt hb5) _); replace hc0 : wf.cell? ⟨gg, 0, none⟩ = some (.string x) := (by rw [← hwf]; exact (cell_far (Nat.ne_of_lt hg5)).trans ((cell_far (Nat.ne_of_lt hg5)).trans hc0)); replace hc1 : wf.cell? ⟨gg, 1, none⟩ = some (.string y) := (by rw [← hwf]; exact (cell_far (Nat.ne_of_lt hg5)).trans ((cell_far (Nat.ne_of_lt hg5)).trans hc1)); replace B : Below w.heap.size w wf := (by rw [← hwf]; exact (B.setCell (Nat.le_of_lt hb5) _).setCell (Nat.le_of_lt hb5) _); replace k1 : Blk wf b5 31 #[.int .i64 a, .int .i64 n] := (by rw [← hwf]; exact (k1.set_ 0 _).set_ 1 _); clear hwf e0 e1 f0 f1 hlt5
        refine hK.out _ _ ?_ (fun hHeld => ?_)
        · (try dsimp only); exact ⟨hc0, hc1⟩
        clear hK K
        try simp only [Act.put, List.setIfInBounds_toArray, List.set_cons_zero, List.set_cons_succ]
        refine wpAnyH_done (by kernel_rfl) ?_ _
        have m0 := k1.cell 0; have m1 := k1.cell 1; simp only [List.getElem?_toArray, List.getElem?_cons_zero, List.getElem?_cons_succ] at m0 m1; go_wp2_with fail; refine (c_validNet a n _).mono ?_; rintro e wg ⟨rfl, hq⟩; replace r0 := r0.to hq; replace k1 := k1.to hq; replace B := Bl.then B hq; clear hq m0 m1; have m0 := k1.cell 0; have m1 := k1.cell 1; simp only [List.getElem?_toArray, List.getElem?_cons_zero, List.getElem?_cons_succ] at m0 m1; have e0 := r0.cell 0; have e1 := r0.cell 1; have f0 := r0.frozen 0; have f1 := r0.frozen 1; have hlt0 := r0.lt; simp only [List.getElem?_toArray, List.getElem?_cons_zero, List.getElem?_cons_succ] at e0 e1; cases hv : vNet a n; (focus have HO : Hid (parN s.data.toList = none) := (by rw [Hid, HV.out, hv]; rfl); clear hv; go_wp2; generalize hwh : ((wg.setCell { block := w.heap.size, off := 0 } (Value.int IntKind.i64 0)).setCell { block := w.heap.size, off := 1 } (Value.int IntKind.i64 0)) = wh; have z : Blk wh w.heap.size 31 #[.int .i64 0, .int .i64 0] := (by rw [← hwh]; exact (r0.set_ 0 _).set_ 1 _); have Bf : Below w.heap.size w wh := (by rw [← hwh]; exact (B.setCell (Nat.le_refl _) _).setCell (Nat.le_refl _) _); have z0 := z.cell 0; have z1 := z.cell 1; simp only [List.getElem?_toArray, List.getElem?_cons_zero, List.getElem?_cons_succ] at z0 z1; refine bodyPost_ret (v := .tuple #[.agg #[.int .i64 0, .int .i64 0], .bool false]) (by simp [results, Tryd.results33, go_sem, z0, z1]) rfl ?_; exact ⟨by rw [HO.out]; rfl, Bf⟩); (focus have HO : Hid (parN s.data.toList = some (a, n)) := (by rw [Hid, HV.out, hv]; rfl); clear hv; go_wp2; generalize hwh : ((wg.setCell { block := w.heap.size, off := 0 } (Value.int IntKind.i64 a)).setCell { block := w.heap.size, off := 1 } (Value.int IntKind.i64 n)) = wh; have z : Blk wh w.heap.size 31 #[.int .i64 a, .int .i64 n] := (by rw [← hwh]; exact (r0.set_ 0 _).set_ 1 _); have Bf : Below w.heap.size w wh := (by rw [← hwh]; exact (B.setCell (Nat.le_refl _) _).setCell (Nat.le_refl _) _); have z0 := z.cell 0; have z1 := z.cell 1; simp only [List.getElem?_toArray, List.getElem?_cons_zero, List.getElem?_cons_succ] at z0 z1; refine bodyPost_ret (v := .tuple #[.agg #[.int .i64 a, .int .i64 n], .bool true]) (by simp [results, Tryd.results33, go_sem, z0, z1]) rfl ?_; exact ⟨by rw [HO.out]; rfl, Bf⟩)
      · go_simp
        have hb5 : w.heap.size < wd.heap.size := r0.lt; have hg5 : gg < wd.heap.size := hgl; have k1 := Blk.new wd 31 #[.int .i64 0, .int .i64 0]; have hal : Below wd.heap.size wd (wd.alloc (.cells #[.int .i64 0, .int .i64 0] 31)) := (Below.refl _ _).alloc (Nat.le_refl _) _; replace r0 := r0.to hal; replace hc0 := cell_keep hc0 hal; replace hc1 := cell_keep hc1 hal; replace B := Bl.then B hal; clear hal hgl; generalize wd.alloc (.cells #[.int .i64 0, .int .i64 0] 31) = wx at *; generalize wd.heap.size = b5 at hb5 hg5 k1 ⊢
        refine hK.out _ _ ?_ (fun hHeld => ?_)
        · (try dsimp only); exact ⟨hc0, hc1⟩
        clear hK K
        try simp only [Act.put, List.setIfInBounds_toArray, List.set_cons_zero, List.set_cons_succ]
        refine wpAnyH_ready (rs := [7]) (by kernel_rfl) (by simp) ?_
        refine AllReadyH.cons (arr_at rfl) (fun K hK => ?_) AllReadyH.nil
        go_simp
        go_at_call 67; refine (c_parseInt y _ (by omega)).mono ?_; rw [HP.out]; rintro e wz ⟨rfl, hq⟩; (replace r0 := r0.to hq; replace hc0 := cell_keep hc0 hq; replace hc1 := cell_keep hc1 hq; replace B := Bl.then B hq; (first | (replace k1 := k1.to hq) | skip); (first | (replace hgl := Nat.lt_of_lt_of_le hgl hq.size) | skip); clear hq)
        refine hK.out _ _ ?_ (fun hHeld => ?_)
        · (try dsimp only); exact ⟨hc0, hc1⟩
        clear hK K
        try simp only [Act.put, List.setIfInBounds_toArray, List.set_cons_zero, List.set_cons_succ]
        refine wpAnyH_take (i := 8) (v := ?_) (arr_at rfl) (by kernel_rfl) (by kernel_rfl) (by kernel_rfl) (fun _ _ _ h => h) ?_ (by assumption) ?_
        rotate_left
        · first
          | (refine Or.inr ⟨by rfl, ?_⟩; with_reducible rfl)
          | (refine Or.inl ⟨by rfl, ?_⟩; intro w hSw; (try dsimp only at hSw); go_simp; done)
          | (refine Or.inl ⟨by rfl, ?_⟩; intro w hSw; (try dsimp only at hSw); go_simp; with_reducible rfl)
        try simp only [Act.put, List.setIfInBounds_toArray, List.set_cons_zero, List.set_cons_succ]
        refine wpAnyH_ready (rs := [10]) (by kernel_rfl) (by simp) ?_
        refine AllReadyH.cons (arr_at rfl) (fun K hK => ?_) AllReadyH.nil
        have e0 := k1.cell 0; have e1 := k1.cell 1; have f0 := k1.frozen 0; have f1 := k1.frozen 1; have hlt5 := k1.lt; simp only [List.getElem?_toArray, List.getElem?_cons_zero, List.getElem?_cons_succ] at e0 e1; go_simp; generalize hwf : ((wz.setCell { block := b5, off := 0 } (Value.int IntKind.i64 a)).setCell { block := b5, off := 1 } (Value.int IntKind.i64 n)) = wf; replace r0 : Blk wf w.heap.size 31 #[.int .i64 0, .int .i64 0] := (by rw [← hwf]; exact (r0.far (Nat.ne_of_lt hb5) _).far (Nat.ne_of_lt hb5) _); replace hc0 : wf.cell? ⟨gg, 0, none⟩ = some (.string x) := (by rw [← hwf]; exact (cell_far (Nat.ne_of_lt hg5)).trans ((cell_far (Nat.ne_of_lt hg5)).trans hc0)); replace hc1 : wf.cell? ⟨gg, 1, none⟩ = some (.string y) := (by rw [← hwf]; exact (cell_far (Nat.ne_of_lt hg5)).trans ((cell_far (Nat.ne_of_lt hg5)).trans hc1)); replace B : Below w.heap.size w wf := (by rw [← hwf]; exact (B.setCell (Nat.le_of_lt hb5) _).setCell (Nat.le_of_lt hb5) _); replace k1 : Blk wf b5 31 #[.int .i64 a, .int .i64 n] := (by rw [← hwf]; exact (k1.set_ 0 _).set_ 1 _); clear hwf e0 e1 f0 f1 hlt5
        refine hK.out _ _ ?_ (fun hHeld => ?_)
        · (try dsimp only); exact ⟨hc0, hc1⟩
        clear hK K
        try simp only [Act.put, List.setIfInBounds_toArray, List.set_cons_zero, List.set_cons_succ]
        refine wpAnyH_done (by kernel_rfl) ?_ _
        have m0 := k1.cell 0; have m1 := k1.cell 1; simp only [List.getElem?_toArray, List.getElem?_cons_zero, List.getElem?_cons_succ] at m0 m1; go_wp2_with fail; refine (c_validNet a n _).mono ?_; rintro e wg ⟨rfl, hq⟩; replace r0 := r0.to hq; replace k1 := k1.to hq; replace B := Bl.then B hq; clear hq m0 m1; have m0 := k1.cell 0; have m1 := k1.cell 1; simp only [List.getElem?_toArray, List.getElem?_cons_zero, List.getElem?_cons_succ] at m0 m1; have e0 := r0.cell 0; have e1 := r0.cell 1; have f0 := r0.frozen 0; have f1 := r0.frozen 1; have hlt0 := r0.lt; simp only [List.getElem?_toArray, List.getElem?_cons_zero, List.getElem?_cons_succ] at e0 e1; cases hv : vNet a n; (focus have HO : Hid (parN s.data.toList = none) := (by rw [Hid, HV.out, hv]; rfl); clear hv; go_wp2; generalize hwh : ((wg.setCell { block := w.heap.size, off := 0 } (Value.int IntKind.i64 0)).setCell { block := w.heap.size, off := 1 } (Value.int IntKind.i64 0)) = wh; have z : Blk wh w.heap.size 31 #[.int .i64 0, .int .i64 0] := (by rw [← hwh]; exact (r0.set_ 0 _).set_ 1 _); have Bf : Below w.heap.size w wh := (by rw [← hwh]; exact (B.setCell (Nat.le_refl _) _).setCell (Nat.le_refl _) _); have z0 := z.cell 0; have z1 := z.cell 1; simp only [List.getElem?_toArray, List.getElem?_cons_zero, List.getElem?_cons_succ] at z0 z1; refine bodyPost_ret (v := .tuple #[.agg #[.int .i64 0, .int .i64 0], .bool false]) (by simp [results, Tryd.results33, go_sem, z0, z1]) rfl ?_; exact ⟨by rw [HO.out]; rfl, Bf⟩); (focus have HO : Hid (parN s.data.toList = some (a, n)) := (by rw [Hid, HV.out, hv]; rfl); clear hv; go_wp2; generalize hwh : ((wg.setCell { block := w.heap.size, off := 0 } (Value.int IntKind.i64 a)).setCell { block := w.heap.size, off := 1 } (Value.int IntKind.i64 n)) = wh; have z : Blk wh w.heap.size 31 #[.int .i64 a, .int .i64 n] := (by rw [← hwh]; exact (r0.set_ 0 _).set_ 1 _); have Bf : Below w.heap.size w wh := (by rw [← hwh]; exact (B.setCell (Nat.le_refl _) _).setCell (Nat.le_refl _) _); have z0 := z.cell 0; have z1 := z.cell 1; simp only [List.getElem?_toArray, List.getElem?_cons_zero, List.getElem?_cons_succ] at z0 z1; refine bodyPost_ret (v := .tuple #[.agg #[.int .i64 a, .int .i64 n], .bool true]) (by simp [results, Tryd.results33, go_sem, z0, z1]) rfl ?_; exact ⟨by rw [HO.out]; rfl, Bf⟩)
    · go_simp
      have hb5 : w.heap.size < wq.heap.size := r0.lt; have hg5 : gg < wq.heap.size := hgl; have k1 := Blk.new wq 31 #[.int .i64 0, .int .i64 0]; have hal : Below wq.heap.size wq (wq.alloc (.cells #[.int .i64 0, .int .i64 0] 31)) := (Below.refl _ _).alloc (Nat.le_refl _) _; replace r0 := r0.to hal; replace hc0 := cell_keep hc0 hal; replace hc1 := cell_keep hc1 hal; replace B := Bl.then B hal; clear hal hgl; generalize wq.alloc (.cells #[.int .i64 0, .int .i64 0] 31) = wx at *; generalize wq.heap.size = b5 at hb5 hg5 k1 ⊢
      refine hK.out _ _ ?_ (fun hHeld => ?_)
      · (try dsimp only); exact ⟨hc0, hc1⟩
      clear hK K
      try simp only [Act.put, List.setIfInBounds_toArray, List.set_cons_zero, List.set_cons_succ]
      refine wpAnyH_ready (rs := [3]) (by kernel_rfl) (by simp) ?_
      refine AllReadyH.cons (arr_at rfl) (fun K hK => ?_) AllReadyH.nil
      go_simp
      go_at_call 66; refine (c_parseAddr x _ (by omega)).mono ?_; rw [HA.out]; rintro e wd ⟨rfl, hq⟩; (replace r0 := r0.to hq; replace hc0 := cell_keep hc0 hq; replace hc1 := cell_keep hc1 hq; replace B := Bl.then B hq; (first | (replace k1 := k1.to hq) | skip); (first | (replace hgl := Nat.lt_of_lt_of_le hgl hq.size) | skip); clear hq)
      refine hK.out _ _ ?_ (fun hHeld => ?_)
      · (try dsimp only); exact ⟨hc0, hc1⟩
      clear hK K
      try simp only [Act.put, List.setIfInBounds_toArray, List.set_cons_zero, List.set_cons_succ]
      refine wpAnyH_ready (rs := [7]) (by kernel_rfl) (by simp) ?_
      refine AllReadyH.cons (arr_at rfl) (fun K hK => ?_) AllReadyH.nil
      go_simp
      go_at_call 67; refine (c_parseInt y _ (by omega)).mono ?_; rw [HP.out]; rintro e wz ⟨rfl, hq⟩; (replace r0 := r0.to hq; replace hc0 := cell_keep hc0 hq; replace hc1 := cell_keep hc1 hq; replace B := Bl.then B hq; (first | (replace k1 := k1.to hq) | skip); (first | (replace hgl := Nat.lt_of_lt_of_le hgl hq.size) | skip); clear hq)
      refine hK.out _ _ ?_ (fun hHeld => ?_)
      · (try dsimp only); exact ⟨hc0, hc1⟩
      clear hK K
      try simp only [Act.put, List.setIfInBounds_toArray, List.set_cons_zero, List.set_cons_succ]
      refine wpAnyH_take (i := 8) (v := ?_) (arr_at rfl) (by kernel_rfl) (by kernel_rfl) (by kernel_rfl) (fun _ _ _ h => h) ?_ (by assumption) ?_
      rotate_left
      · first
        | (refine Or.inr ⟨by rfl, ?_⟩; with_reducible rfl)
        | (refine Or.inl ⟨by rfl, ?_⟩; intro w hSw; (try dsimp only at hSw); go_simp; done)
        | (refine Or.inl ⟨by rfl, ?_⟩; intro w hSw; (try dsimp only at hSw); go_simp; with_reducible rfl)
      try simp only [Act.put, List.setIfInBounds_toArray, List.set_cons_zero, List.set_cons_succ]
      refine wpAnyH_ready (rs := [10]) (by kernel_rfl) (by simp) ?_
      refine AllReadyH.cons (arr_at rfl) (fun K hK => ?_) AllReadyH.nil
      have e0 := k1.cell 0; have e1 := k1.cell 1; have f0 := k1.frozen 0; have f1 := k1.frozen 1; have hlt5 := k1.lt; simp only [List.getElem?_toArray, List.getElem?_cons_zero, List.getElem?_cons_succ] at e0 e1; go_simp; generalize hwf : ((wz.setCell { block := b5, off := 0 } (Value.int IntKind.i64 a)).setCell { block := b5, off := 1 } (Value.int IntKind.i64 n)) = wf; replace r0 : Blk wf w.heap.size 31 #[.int .i64 0, .int .i64 0] := (by rw [← hwf]; exact (r0.far (Nat.ne_of_lt hb5) _).far (Nat.ne_of_lt hb5) _); replace hc0 : wf.cell? ⟨gg, 0, none⟩ = some (.string x) := (by rw [← hwf]; exact (cell_far (Nat.ne_of_lt hg5)).trans ((cell_far (Nat.ne_of_lt hg5)).trans hc0)); replace hc1 : wf.cell? ⟨gg, 1, none⟩ = some (.string y) := (by rw [← hwf]; exact (cell_far (Nat.ne_of_lt hg5)).trans ((cell_far (Nat.ne_of_lt hg5)).trans hc1)); replace B : Below w.heap.size w wf := (by rw [← hwf]; exact (B.setCell (Nat.le_of_lt hb5) _).setCell (Nat.le_of_lt hb5) _); replace k1 : Blk wf b5 31 #[.int .i64 a, .int .i64 n] := (by rw [← hwf]; exact (k1.set_ 0 _).set_ 1 _); clear hwf e0 e1 f0 f1 hlt5
      refine hK.out _ _ ?_ (fun hHeld => ?_)
      · (try dsimp only); exact ⟨hc0, hc1⟩
      clear hK K
      try simp only [Act.put, List.setIfInBounds_toArray, List.set_cons_zero, List.set_cons_succ]
      refine wpAnyH_done (by kernel_rfl) ?_ _
      have m0 := k1.cell 0; have m1 := k1.cell 1; simp only [List.getElem?_toArray, List.getElem?_cons_zero, List.getElem?_cons_succ] at m0 m1; go_wp2_with fail; refine (c_validNet a n _).mono ?_; rintro e wg ⟨rfl, hq⟩; replace r0 := r0.to hq; replace k1 := k1.to hq; replace B := Bl.then B hq; clear hq m0 m1; have m0 := k1.cell 0; have m1 := k1.cell 1; simp only [List.getElem?_toArray, List.getElem?_cons_zero, List.getElem?_cons_succ] at m0 m1; have e0 := r0.cell 0; have e1 := r0.cell 1; have f0 := r0.frozen 0; have f1 := r0.frozen 1; have hlt0 := r0.lt; simp only [List.getElem?_toArray, List.getElem?_cons_zero, List.getElem?_cons_succ] at e0 e1; cases hv : vNet a n; (focus have HO : Hid (parN s.data.toList = none) := (by rw [Hid, HV.out, hv]; rfl); clear hv; go_wp2; generalize hwh : ((wg.setCell { block := w.heap.size, off := 0 } (Value.int IntKind.i64 0)).setCell { block := w.heap.size, off := 1 } (Value.int IntKind.i64 0)) = wh; have z : Blk wh w.heap.size 31 #[.int .i64 0, .int .i64 0] := (by rw [← hwh]; exact (r0.set_ 0 _).set_ 1 _); have Bf : Below w.heap.size w wh := (by rw [← hwh]; exact (B.setCell (Nat.le_refl _) _).setCell (Nat.le_refl _) _); have z0 := z.cell 0; have z1 := z.cell 1; simp only [List.getElem?_toArray, List.getElem?_cons_zero, List.getElem?_cons_succ] at z0 z1; refine bodyPost_ret (v := .tuple #[.agg #[.int .i64 0, .int .i64 0], .bool false]) (by simp [results, Tryd.results33, go_sem, z0, z1]) rfl ?_; exact ⟨by rw [HO.out]; rfl, Bf⟩); (focus have HO : Hid (parN s.data.toList = some (a, n)) := (by rw [Hid, HV.out, hv]; rfl); clear hv; go_wp2; generalize hwh : ((wg.setCell { block := w.heap.size, off := 0 } (Value.int IntKind.i64 a)).setCell { block := w.heap.size, off := 1 } (Value.int IntKind.i64 n)) = wh; have z : Blk wh w.heap.size 31 #[.int .i64 a, .int .i64 n] := (by rw [← hwh]; exact (r0.set_ 0 _).set_ 1 _); have Bf : Below w.heap.size w wh := (by rw [← hwh]; exact (B.setCell (Nat.le_refl _) _).setCell (Nat.le_refl _) _); have z0 := z.cell 0; have z1 := z.cell 1; simp only [List.getElem?_toArray, List.getElem?_cons_zero, List.getElem?_cons_succ] at z0 z1; refine bodyPost_ret (v := .tuple #[.agg #[.int .i64 a, .int .i64 n], .bool true]) (by simp [results, Tryd.results33, go_sem, z0, z1]) rfl ?_; exact ⟨by rw [HO.out]; rfl, Bf⟩)
  · obtain ⟨E, cE, rfl, -, -, -⟩ := own_slice ho
    have hl : (spl s.data.toList 47).length ≠ 2 := by rw [← hxs, List.length_map]; exact h2
    have HO := Lib.hid (parN_not hl)
    have t0 : ((xs.length : Int) == 2) = false := by rw [beq_eq_false_iff_ne]; omega
    clear hl hxs ho
    have e0 := r0.cell 0
    have e1 := r0.cell 1
    have f0 := r0.frozen 0
    have f1 := r0.frozen 1
    simp only [List.getElem?_toArray, List.getElem?_cons_zero, List.getElem?_cons_succ] at e0 e1
    have hlt0 := r0.lt
    go_wp2
    generalize hwf : ((w1.setCell { block := w.heap.size, off := 0 } (Value.int IntKind.i64 0)).setCell { block := w.heap.size, off := 1 } (Value.int IntKind.i64 0)) = wf
    have z : Blk wf w.heap.size 31 #[.int .i64 0, .int .i64 0] := by rw [← hwf]; exact (r0.set_ 0 _).set_ 1 _
    have Bf : Below w.heap.size w wf := by rw [← hwf]; exact (B.setCell (Nat.le_refl _) _).setCell (Nat.le_refl _) _
    have z0 := z.cell 0
    have z1 := z.cell 1
    simp only [List.getElem?_toArray, List.getElem?_cons_zero, List.getElem?_cons_succ] at z0 z1
    refine bodyPost_ret (v := .tuple #[.agg #[.int .i64 0, .int .i64 0], .bool false]) (by simp [results, Tryd.results33, go_sem, z0, z1]) rfl ?_
    exact ⟨by rw [HO.out]; rfl, Bf⟩

set_option maxHeartbeats 1600000 in
theorem c_sParseEnd (s : ByteArray) (w : World) (hs : s.size ≤ 4000000000) :
    Calls Tryd.prog 35 #[.string s] w fun e w' => e = .returned (parV (parE s.data.toList)) ∧ Below w.heap.size w w' := by
  have r0 := Blk.new w 25 #[.int .i64 0, .int .i64 0]
  have B : Below w.heap.size w (w.alloc (.cells #[.int .i64 0, .int .i64 0] 25)) := (Below.refl _ _).alloc (Nat.le_refl _) _
  go_enter Tryd.func35, Tryd.ntmps35
  go_wp2_with fail
  refine (c_sEnd s _ hs).mono ?_
  cases hD : parE s.data.toList with
  | none =>
    have HD := Lib.hid hD
    clear hD
    simp only [parV]
    rintro e w1 ⟨rfl, hq⟩
    replace r0 := r0.to hq
    replace B := Bl.then B hq
    clear hq
    have e0 := r0.cell 0
    have e1 := r0.cell 1
    have f0 := r0.frozen 0
    have f1 := r0.frozen 1
    simp only [List.getElem?_toArray, List.getElem?_cons_zero, List.getElem?_cons_succ] at e0 e1
    have hlt0 := r0.lt
    go_wp2
    generalize hwf : ((w1.setCell { block := w.heap.size, off := 0 } (Value.int IntKind.i64 0)).setCell { block := w.heap.size, off := 1 } (Value.int IntKind.i64 0)) = wf
    have z : Blk wf w.heap.size 25 #[.int .i64 0, .int .i64 0] := by rw [← hwf]; exact (r0.set_ 0 _).set_ 1 _
    have Bf : Below w.heap.size w wf := by rw [← hwf]; exact (B.setCell (Nat.le_refl _) _).setCell (Nat.le_refl _) _
    have z0 := z.cell 0
    have z1 := z.cell 1
    simp only [List.getElem?_toArray, List.getElem?_cons_zero, List.getElem?_cons_succ] at z0 z1
    refine bodyPost_ret (v := .tuple #[.agg #[.int .i64 0, .int .i64 0], .bool false]) (by simp [results, Tryd.results35, go_sem, z0, z1]) rfl ?_
    exact ⟨by rw [HD.out]; rfl, Bf⟩
  | some p =>
    obtain ⟨a, n⟩ := p
    have HD := Lib.hid hD
    clear hD
    simp only [parV]
    rintro e w1 ⟨rfl, hq⟩
    replace r0 := r0.to hq
    replace B := Bl.then B hq
    clear hq
    have e0 := r0.cell 0
    have e1 := r0.cell 1
    have f0 := r0.frozen 0
    have f1 := r0.frozen 1
    simp only [List.getElem?_toArray, List.getElem?_cons_zero, List.getElem?_cons_succ] at e0 e1
    have hlt0 := r0.lt
    go_wp2
    generalize hwf : ((w1.setCell { block := w.heap.size, off := 0 } (Value.int IntKind.i64 a)).setCell { block := w.heap.size, off := 1 } (Value.int IntKind.i64 n)) = wf
    have z : Blk wf w.heap.size 25 #[.int .i64 a, .int .i64 n] := by rw [← hwf]; exact (r0.set_ 0 _).set_ 1 _
    have Bf : Below w.heap.size w wf := by rw [← hwf]; exact (B.setCell (Nat.le_refl _) _).setCell (Nat.le_refl _) _
    have z0 := z.cell 0
    have z1 := z.cell 1
    simp only [List.getElem?_toArray, List.getElem?_cons_zero, List.getElem?_cons_succ] at z0 z1
    refine bodyPost_ret (v := .tuple #[.agg #[.int .i64 a, .int .i64 n], .bool true]) (by simp [results, Tryd.results35, go_sem, z0, z1]) rfl ?_
    exact ⟨by rw [HD.out]; rfl, Bf⟩
end Go.Proofs.YthlaldikdlljfaaDoor
