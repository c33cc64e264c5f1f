/- Contracts of the generator: arguments of PortInBlock and FreeInBlock. -/
import Derived.Test.YtaneiilbkkfnoaaG8
import Derived.Test.YtaneiilbkkfnoaaB4
namespace Go.Proofs.Ytaneiilbkkfnoaa
open Go.RowKit

theorem blkOf_bd (ba bi fi si a : Int) : -1 ≤ blkOf ba bi fi si a ∧ blkOf ba bi fi si a ≤ 65535 := by
  unfold blkOf
  cases h : ownB ba bi fi si a
  · rw [if_neg (by decide)]; omega
  · have := own_bd h; rw [if_pos rfl]; omega
set_option maxHeartbeats 1600000 in
theorem c_DrawPortInBlock (A : Option Addr) (n c : Nat) (w : World) (h : RB w A n) (hc : n ≤ c) :
    Calls Try.prog 32 #[.slice A n c] w fun e w' => ∃ (ba bi fi si x y : Int) (D : Option Addr) (d : Nat) (zs : List Int), e = .returned (.tuple #[.agg #[.int .i64 ba, .int .i64 bi, .int .i64 fi, .int .i64 si], .int .i64 x, .int .i64 y, .slice D zs.length d]) ∧ (-65536 ≤ ba ∧ ba ≤ 200000 ∧ -1 ≤ bi ∧ bi ≤ 17 ∧ 0 ≤ fi ∧ fi ≤ 65535 ∧ 0 ≤ si ∧ si ≤ 17) ∧ -1 ≤ x ∧ x ≤ 131071 ∧ -1 ≤ y ∧ y ≤ 65536 ∧ zs.length ≤ d ∧ zs.length ≤ 24 ∧ RI w' D zs ∧ (∀ a, D = some a → w.heap.size < a.block) ∧ Below w.heap.size w w' := by
  go_enter Try.func32, Try.ntmps32
  go_wp2_with fail
  have r0 := Blk.new w 26 #[.int .i64 0, .int .i64 0, .int .i64 0, .int .i64 0]
  have B : Below w.heap.size w (w.alloc (.cells #[.int .i64 0, .int .i64 0, .int .i64 0, .int .i64 0] 26)) := (Below.refl _ _).alloc (Nat.le_refl _) _
  refine (c_newReader _ _ _ _ (h.to B) hc).mono ?_
  rintro e w1 ⟨g, rfl, hr, hg, hb⟩
  replace r0 := r0.to hb
  replace B := Bl.then B hb
  go_wp2_with fail
  refine (c_anyPlan _ _ _ hr (by omega)).mono ?_
  rintro e w2 ⟨ba, bi, fi, si, p2, rfl, hR, hr, hp2, h2⟩
  have hgr := hr.lt
  have hlt0 := r0.lt
  have hs2 := h2.size
  have hwg : w.heap.size < g := by have := (Blk.new w 26 #[.int .i64 0, .int .i64 0, .int .i64 0, .int .i64 0]).lt; omega
  have hgne : w.heap.size ≠ g := by omega
  have hbr : w2.heap.size ≠ w.heap.size := by omega
  have k1 : Blk (w2.alloc (.cells #[.int .i64 ba, .int .i64 bi, .int .i64 fi, .int .i64 si] 26)) w2.heap.size 26 #[.int .i64 ba, .int .i64 bi, .int .i64 fi, .int .i64 si] := Blk.new w2 26 #[.int .i64 ba, .int .i64 bi, .int .i64 fi, .int .i64 si]
  replace r0 : Blk (w2.alloc (.cells #[.int .i64 ba, .int .i64 bi, .int .i64 fi, .int .i64 si] 26)) w.heap.size 26 #[.int .i64 0, .int .i64 0, .int .i64 0, .int .i64 0] := (r0.grown h2 (fun e => by injection e with e; omega)).alloc (.cells #[.int .i64 ba, .int .i64 bi, .int .i64 fi, .int .i64 si] 26)
  have hrr : Rdr (w2.alloc (.cells #[.int .i64 ba, .int .i64 bi, .int .i64 fi, .int .i64 si] 26)) g p2 := hr.alloc _
  have G : w.grownBy (w2.alloc (.cells #[.int .i64 ba, .int .i64 bi, .int .i64 fi, .int .i64 si] 26)) (some g) := grown_alloc (grown_trans (grown_of_below B (some g)) h2) (.cells #[.int .i64 ba, .int .i64 bi, .int .i64 fi, .int .i64 si] 26)
  go_wp2_with fail
  refine (c_addrNear _ _ _ _ _ hrr (by omega)).mono ?_
  rintro e w3 ⟨x, p3, rfl, hx1, hx2, hrr, hp3, hgg⟩
  have hss := hgg.size
  replace r0 := r0.grown hgg (fun e => by injection e with e; omega); replace k1 := k1.grown hgg (fun e => by injection e with e; omega); replace G := grown_trans G hgg
  clear hgg
  go_wp2_with fail
  refine (c_someWord _ _ _ hrr (by omega)).mono ?_
  rintro e w4 ⟨y1, p4, rfl, c1, d1, hrr, hp4, hgg⟩
  have hss2 := hgg.size
  replace r0 := r0.grown hgg (fun e => by injection e with e; omega); replace k1 := k1.grown hgg (fun e => by injection e with e; omega); replace G := grown_trans G hgg
  clear hgg
  go_wp2_with fail
  refine (c_someWord _ _ _ hrr (by omega)).mono ?_
  rintro e w5 ⟨y2, p5, rfl, c2, d2, hrr, hp5, hgg⟩
  have hss3 := hgg.size
  replace r0 := r0.grown hgg (fun e => by injection e with e; omega); replace k1 := k1.grown hgg (fun e => by injection e with e; omega); replace G := grown_trans G hgg
  clear hgg
  go_wp2_with fail
  refine (c_one _ _ _ _ [y1, y2, 80, -1, 65536] _ (hrr.alloc _) (by omega) (lit_ints _ rfl rfl) (by simp) (by simp) (lit_far hrr rfl)).mono ?_
  rintro e w6 ⟨y, rfl, hy9, hrr, hgg⟩
  have hyb : -1 ≤ y ∧ y ≤ 65536 := by
    simp only [List.mem_cons, List.not_mem_nil, or_false] at hy9
    omega
  clear hy9
  have hss4 : w5.heap.size ≤ w6.heap.size := by have := hgg.size; simp at this; omega
  replace r0 := (r0.alloc _).grown hgg (fun e => by injection e with e; omega)
  replace k1 := (k1.alloc _).grown hgg (fun e => by injection e with e; omega)
  replace G := grown_trans (grown_alloc G _) hgg
  clear hgg
  have hk2 := k1.lt
  have hbb := blkOf_bd ba bi fi si x
  have hf0 : -1000000 ≤ blkOf ba bi fi si x := by omega
  have hf1 : blkOf ba bi fi si x ≤ 1000000 := by omega
  go_wp2_with fail
  replace r0 : Blk w6.drew w.heap.size 26 #[.int .i64 0, .int .i64 0, .int .i64 0, .int .i64 0] := r0
  replace k1 : Blk w6.drew w2.heap.size 26 #[.int .i64 ba, .int .i64 bi, .int .i64 fi, .int .i64 si] := k1
  replace hrr : Rdr w6.drew g _ := hrr
  replace G : w.grownBy w6.drew (some g) := grown_drewN G 1
  replace hss4 : w5.heap.size ≤ w6.drew.heap.size := hss4
  refine wp_region_held_drew (S := (fun w' => w'.cell? ⟨w2.heap.size, 0, none⟩ = some (.int .i64 ba) ∧ w'.cell? ⟨w2.heap.size, 1, none⟩ = some (.int .i64 bi) ∧ w'.cell? ⟨w2.heap.size, 2, none⟩ = some (.int .i64 fi) ∧ w'.cell? ⟨w2.heap.size, 3, none⟩ = some (.int .i64 si))) (by kernel_rfl) ?_ (fun hHeld => ?_)
  · (try dsimp only); exact ⟨k1.cell 0, k1.cell 1, k1.cell 2, k1.cell 3⟩
  refine wpAnyH_take (i := 0) (v := ?_) (arr_at rfl) (by kernel_rfl) (by kernel_rfl) (by kernel_rfl) (fun _ _ _ h => h) ?_ (by assumption) ?_
  rotate_left
  · first
    | (refine Or.inr ⟨by rfl, ?_⟩; with_reducible rfl)
    | (refine Or.inl ⟨by rfl, ?_⟩; intro w hSw; (try dsimp only at hSw); go_simp; done)
    | (refine Or.inl ⟨by rfl, ?_⟩; intro w hSw; (try dsimp only at hSw); go_simp; with_reducible rfl)
  try simp only [Act.put, List.setIfInBounds_toArray, List.set_cons_zero, List.set_cons_succ]
  refine wpAnyH_take (i := 1) (v := ?_) (arr_at rfl) (by kernel_rfl) (by kernel_rfl) (by kernel_rfl) (fun _ _ _ h => h) ?_ (by assumption) ?_
  rotate_left
  · first
    | (refine Or.inr ⟨by rfl, ?_⟩; with_reducible rfl)
    | (refine Or.inl ⟨by rfl, ?_⟩; intro w hSw; (try dsimp only at hSw); go_simp; done)
    | (refine Or.inl ⟨by rfl, ?_⟩; intro w hSw; (try dsimp only at hSw); go_simp; with_reducible rfl)
  try simp only [Act.put, List.setIfInBounds_toArray, List.set_cons_zero, List.set_cons_succ]
  refine wpAnyH_take (i := 2) (v := ?_) (arr_at rfl) (by kernel_rfl) (by kernel_rfl) (by kernel_rfl) (fun _ _ _ h => h) ?_ (by assumption) ?_
  rotate_left
  · first
    | (refine Or.inr ⟨by rfl, ?_⟩; with_reducible rfl)
    | (refine Or.inl ⟨by rfl, ?_⟩; intro w hSw; (try dsimp only at hSw); go_simp; done)
    | (refine Or.inl ⟨by rfl, ?_⟩; intro w hSw; (try dsimp only at hSw); go_simp; with_reducible rfl)
  try simp only [Act.put, List.setIfInBounds_toArray, List.set_cons_zero, List.set_cons_succ]
  refine wpAnyH_take (i := 3) (v := ?_) (arr_at rfl) (by kernel_rfl) (by kernel_rfl) (by kernel_rfl) (fun _ _ _ h => h) ?_ (by assumption) ?_
  rotate_left
  · first
    | (refine Or.inr ⟨by rfl, ?_⟩; with_reducible rfl)
    | (refine Or.inl ⟨by rfl, ?_⟩; intro w hSw; (try dsimp only at hSw); go_simp; done)
    | (refine Or.inl ⟨by rfl, ?_⟩; intro w hSw; (try dsimp only at hSw); go_simp; with_reducible rfl)
  try simp only [Act.put, List.setIfInBounds_toArray, List.set_cons_zero, List.set_cons_succ]
  refine wpAnyH_take (i := 4) (v := ?_) (arr_at rfl) (by kernel_rfl) (by kernel_rfl) (by kernel_rfl) (fun _ _ _ h => h) ?_ (by assumption) ?_
  rotate_left
  · first
    | (refine Or.inr ⟨by rfl, ?_⟩; with_reducible rfl)
    | (refine Or.inl ⟨by rfl, ?_⟩; intro w hSw; (try dsimp only at hSw); go_simp; done)
    | (refine Or.inl ⟨by rfl, ?_⟩; intro w hSw; (try dsimp only at hSw); go_simp; with_reducible rfl)
  try simp only [Act.put, List.setIfInBounds_toArray, List.set_cons_zero, List.set_cons_succ]
  refine wpAnyH_take (i := 5) (v := ?_) (arr_at rfl) (by kernel_rfl) (by kernel_rfl) (by kernel_rfl) (fun _ _ _ h => h) ?_ (by assumption) ?_
  rotate_left
  · first
    | (refine Or.inr ⟨by rfl, ?_⟩; with_reducible rfl)
    | (refine Or.inl ⟨by rfl, ?_⟩; intro w hSw; (try dsimp only at hSw); go_simp; done)
    | (refine Or.inl ⟨by rfl, ?_⟩; intro w hSw; (try dsimp only at hSw); go_simp; with_reducible rfl)
  try simp only [Act.put, List.setIfInBounds_toArray, List.set_cons_zero, List.set_cons_succ]
  refine wpAnyH_ready (rs := [6]) (by kernel_rfl) (by simp) ?_
  refine AllReadyH.cons (arr_at rfl) (fun K hK => ?_) AllReadyH.nil
  go_simp
  go_at_call 28; refine (c_sBlockOf _ _ _ _ _ _).mono ?_; rintro e w' ⟨rfl, hq⟩; have hss := hq.size; replace hrr := hrr.to hq; replace r0 := r0.to hq; replace k1 := k1.to hq; replace G := grown_trans G (grown_of_below hq (some g)); clear hq; have hl9 := r0.lt
  refine hK.out _ _ ?_ (fun hHeld => ?_)
  · (try dsimp only); exact ⟨k1.cell 0, k1.cell 1, k1.cell 2, k1.cell 3⟩
  clear hK K
  try simp only [Act.put, List.setIfInBounds_toArray, List.set_cons_zero, List.set_cons_succ]
  refine wpAnyH_ready (rs := [7]) (by kernel_rfl) (by simp) ?_
  refine AllReadyH.cons (arr_at rfl) (fun K hK => ?_) AllReadyH.nil
  go_simp
  go_at_call 56; refine (c_someUsed _ _ _ _ hrr (by omega) hf0 hf1).mono ?_; rintro e w' ⟨D, m, d, zs, p9, rfl, rfl, hd, hri, hlm, hrr, hp9, hgg, hD⟩; replace r0 := r0.grown hgg (fun e => by injection e with e; omega); replace k1 := k1.grown hgg (fun e => by injection e with e; omega); replace G := grown_trans G hgg; have y0 := r0.cell 0; have yf0 := r0.frozen 0; have y1 := r0.cell 1; have yf1 := r0.frozen 1; have y2 := r0.cell 2; have yf2 := r0.frozen 2; have y3 := r0.cell 3; have yf3 := r0.frozen 3
  refine hK.out _ _ ?_ (fun hHeld => ?_)
  · (try dsimp only); exact ⟨k1.cell 0, k1.cell 1, k1.cell 2, k1.cell 3⟩
  clear hK K
  try simp only [Act.put, List.setIfInBounds_toArray, List.set_cons_zero, List.set_cons_succ]
  refine wpAnyH_ready (rs := [8]) (by kernel_rfl) (by simp) ?_
  refine AllReadyH.cons (arr_at rfl) (fun K hK => ?_) AllReadyH.nil
  go_simp
  generalize hw4 : (World.setCell (World.setCell (World.setCell (World.setCell w' { block := w.heap.size, off := 0 } (Value.int IntKind.i64 ba)) { block := w.heap.size, off := 1 } (Value.int IntKind.i64 bi)) { block := w.heap.size, off := 2 } (Value.int IntKind.i64 fi)) { block := w.heap.size, off := 3 } (Value.int IntKind.i64 si)) = w4; have z : Blk w4 w.heap.size 26 #[.int .i64 ba, .int .i64 bi, .int .i64 fi, .int .i64 si] := (by rw [← hw4]; exact (((r0.set_ 0 _).set_ 1 _).set_ 2 _).set_ 3 _); replace k1 : Blk w4 w2.heap.size 26 #[.int .i64 ba, .int .i64 bi, .int .i64 fi, .int .i64 si] := (by rw [← hw4]; exact (((k1.far hbr _).far hbr _).far hbr _).far hbr _); replace G : w.grownBy w4 (some g) := (by rw [← hw4]; exact grown_set (grown_set (grown_set (grown_set G (Nat.le_refl _)) (Nat.le_refl _)) (Nat.le_refl _)) (Nat.le_refl _)); have hDr : ∀ a, D = some a → a.block ≠ w.heap.size := (fun a ha => by have := hD a ha; omega); replace hri : RI w4 D zs := (by rw [← hw4]; exact (((hri.grown (grown_put _ _ _) hDr).grown (grown_put _ _ _) hDr).grown (grown_put _ _ _) hDr).grown (grown_put _ _ _) hDr); have hDw : ∀ a, D = some a → w.heap.size < a.block := (fun a ha => by have := hD a ha; omega); clear y0 y1 y2 y3 yf0 yf1 yf2 yf3 r0 hw4 hD hgg
  refine hK.out _ _ ?_ (fun hHeld => ?_)
  · (try dsimp only); exact ⟨k1.cell 0, k1.cell 1, k1.cell 2, k1.cell 3⟩
  clear hK K
  try simp only [Act.put, List.setIfInBounds_toArray, List.set_cons_zero, List.set_cons_succ]
  refine wpAnyH_take (i := 9) (v := ?_) (arr_at rfl) (by kernel_rfl) (by kernel_rfl) (by kernel_rfl) (fun _ _ _ h => h) ?_ (by assumption) ?_
  rotate_left
  · first
    | (refine Or.inr ⟨by rfl, ?_⟩; with_reducible rfl)
    | (refine Or.inl ⟨by rfl, ?_⟩; intro w hSw; (try dsimp only at hSw); go_simp; done)
    | (refine Or.inl ⟨by rfl, ?_⟩; intro w hSw; (try dsimp only at hSw); go_simp; with_reducible rfl)
  try simp only [Act.put, List.setIfInBounds_toArray, List.set_cons_zero, List.set_cons_succ]
  refine wpAnyH_take (i := 10) (v := ?_) (arr_at rfl) (by kernel_rfl) (by kernel_rfl) (by kernel_rfl) (fun _ _ _ h => h) ?_ (by assumption) ?_
  rotate_left
  · first
    | (refine Or.inr ⟨by rfl, ?_⟩; with_reducible rfl)
    | (refine Or.inl ⟨by rfl, ?_⟩; intro w hSw; (try dsimp only at hSw); go_simp; done)
    | (refine Or.inl ⟨by rfl, ?_⟩; intro w hSw; (try dsimp only at hSw); go_simp; with_reducible rfl)
  try simp only [Act.put, List.setIfInBounds_toArray, List.set_cons_zero, List.set_cons_succ]
  refine wpAnyH_take (i := 11) (v := ?_) (arr_at rfl) (by kernel_rfl) (by kernel_rfl) (by kernel_rfl) (fun _ _ _ h => h) ?_ (by assumption) ?_
  rotate_left
  · first
    | (refine Or.inr ⟨by rfl, ?_⟩; with_reducible rfl)
    | (refine Or.inl ⟨by rfl, ?_⟩; intro w hSw; (try dsimp only at hSw); go_simp; done)
    | (refine Or.inl ⟨by rfl, ?_⟩; intro w hSw; (try dsimp only at hSw); go_simp; with_reducible rfl)
  try simp only [Act.put, List.setIfInBounds_toArray, List.set_cons_zero, List.set_cons_succ]
  refine wpAnyH_done (by kernel_rfl) ?_ _
  have z0 := z.cell 0
  have z1 := z.cell 1
  have z2 := z.cell 2
  have z3 := z.cell 3
  simp only [List.getElem?_toArray, List.getElem?_cons_zero, List.getElem?_cons_succ] at z0 z1 z2 z3
  go_wp2
  refine bodyPost_ret (v := .tuple #[.agg #[.int .i64 ba, .int .i64 bi, .int .i64 fi, .int .i64 si], .int .i64 x, .int .i64 y, .slice D zs.length d]) (by simp [results, Try.results32, go_sem, z0, z1, z2, z3]) rfl ?_
  exact ⟨ba, bi, fi, si, x, y, D, d, zs, rfl, hR, hx1, hx2, hyb.1, hyb.2, hd, hlm, hri, hDw, below_of_grown G (Nat.le_refl _) (by omega)⟩

theorem c_DrawFreeInBlock (A : Option Addr) (n c : Nat) (w : World) (h : RB w A n) (hc : n ≤ c) :
    Calls Try.prog 31 #[.slice A n c] w fun e w' => ∃ (ba bi fi si x : Int) (D : Option Addr) (d : Nat) (zs : List Int), e = .returned (.tuple #[.agg #[.int .i64 ba, .int .i64 bi, .int .i64 fi, .int .i64 si], .int .i64 x, .slice D zs.length d]) ∧ (-65536 ≤ ba ∧ ba ≤ 200000 ∧ -1 ≤ bi ∧ bi ≤ 17 ∧ 0 ≤ fi ∧ fi ≤ 65535 ∧ 0 ≤ si ∧ si ≤ 17) ∧ -1 ≤ x ∧ x ≤ 131071 ∧ zs.length ≤ d ∧ zs.length ≤ 24 ∧ RI w' D zs ∧ Below w.heap.size w w' := by
  go_enter Try.func31, Try.ntmps31
  go_wp2_with fail
  have r0 := Blk.new w 26 #[.int .i64 0, .int .i64 0, .int .i64 0, .int .i64 0]
  have B : Below w.heap.size w (w.alloc (.cells #[.int .i64 0, .int .i64 0, .int .i64 0, .int .i64 0] 26)) := (Below.refl _ _).alloc (Nat.le_refl _) _
  refine (c_DrawPortInBlock _ _ _ _ (h.to B) hc).mono ?_
  rintro e w1 ⟨ba, bi, fi, si, x, y, D, d, zs, rfl, hR, hx1, hx2, hy1, hy2, hd, hlm, hri, hDw, b⟩
  replace r0 := (r0.to b).alloc (.cells #[.int .i64 ba, .int .i64 bi, .int .i64 fi, .int .i64 si] 26)
  have hri2 := hri.alloc (.cells #[.int .i64 ba, .int .i64 bi, .int .i64 fi, .int .i64 si] 26)
  have hs1 := b.size
  replace B : Below w.heap.size w (w1.alloc (.cells #[.int .i64 ba, .int .i64 bi, .int .i64 fi, .int .i64 si] 26)) := (Bl.then B b).alloc (Bl.then B b).size _
  clear b hri
  have hD : ∀ a, D = some a → a.block ≠ w.heap.size := fun a ha => by have := hDw a ha; simp at this; omega
  have hbr : w1.heap.size ≠ w.heap.size := by simp at hs1; omega
  have hbr2 : w.heap.size ≠ w1.heap.size := fun e => hbr e.symm
  clear hDw hs1
  have y0 := r0.cell 0
  have y1 := r0.cell 1
  have y2 := r0.cell 2
  have y3 := r0.cell 3
  have yf0 := r0.frozen 0
  have yf1 := r0.frozen 1
  have yf2 := r0.frozen 2
  have yf3 := r0.frozen 3
  simp only [List.getElem?_toArray, List.getElem?_cons_zero, List.getElem?_cons_succ] at y0 y1 y2 y3
  go_wp2_with fail
  generalize hw4 : (World.setCell (World.setCell (World.setCell (World.setCell (w1.alloc (.cells #[.int .i64 ba, .int .i64 bi, .int .i64 fi, .int .i64 si] 26)) { block := w.heap.size, off := 0 } (Value.int IntKind.i64 ba)) { block := w.heap.size, off := 1 } (Value.int IntKind.i64 bi)) { block := w.heap.size, off := 2 } (Value.int IntKind.i64 fi)) { block := w.heap.size, off := 3 } (Value.int IntKind.i64 si)) = w4
  have z : Blk w4 w.heap.size 26 #[.int .i64 ba, .int .i64 bi, .int .i64 fi, .int .i64 si] := by rw [← hw4]; exact (((r0.set_ 0 _).set_ 1 _).set_ 2 _).set_ 3 _
  have hri4 : RI w4 D zs := by rw [← hw4]; exact (((hri2.grown (grown_put _ _ _) hD).grown (grown_put _ _ _) hD).grown (grown_put _ _ _) hD).grown (grown_put _ _ _) hD
  have B4 : Below w.heap.size w w4 := by rw [← hw4]; exact (((B.setCell (Nat.le_refl _) _).setCell (Nat.le_refl _) _).setCell (Nat.le_refl _) _).setCell (Nat.le_refl _) _
  have z0 := z.cell 0
  have z1 := z.cell 1
  have z2 := z.cell 2
  have z3 := z.cell 3
  simp only [List.getElem?_toArray, List.getElem?_cons_zero, List.getElem?_cons_succ] at z0 z1 z2 z3
  refine bodyPost_ret (v := .tuple #[.agg #[.int .i64 ba, .int .i64 bi, .int .i64 fi, .int .i64 si], .int .i64 x, .slice D zs.length d]) (by simp [results, Try.results31, go_sem, z0, z1, z2, z3]) rfl ?_
  exact ⟨ba, bi, fi, si, x, D, d, zs, rfl, hR, hx1, hx2, hd, hlm, hri4, B4⟩
end Go.Proofs.Ytaneiilbkkfnoaa
