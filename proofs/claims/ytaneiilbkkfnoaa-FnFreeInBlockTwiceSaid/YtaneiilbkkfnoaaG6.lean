/- Contracts of the generator: arguments of BlockOf. -/
import Derived.Test.YtaneiilbkkfnoaaG5
namespace Go.Proofs.Ytaneiilbkkfnoaa
open Go.RowKit

theorem c_addrNear (g p : Nat) (ba bi : Int) (w : World) (hr : Rdr w g p) (hp : p ≤ 1099511623000) :
    Calls Try.prog 53 #[.pointer (some ⟨g, 0, none⟩), .agg #[.int .i64 ba, .int .i64 bi]] w (GenI w g p 20 (-1) 131071) := by
  cases hv : vNet ba bi
  · exact c_addrNear_none g p ba bi w hr hp hv
  · exact c_addrNear_valid g p ba bi w hr hp hv

theorem c_DrawBlockOf (A : Option Addr) (n c : Nat) (w : World) (h : RB w A n) (hc : n ≤ c) :
    Calls Try.prog 27 #[.slice A n c] w fun e w' => ∃ ba bi fi si x : Int, e = .returned (.tuple #[.agg #[.int .i64 ba, .int .i64 bi, .int .i64 fi, .int .i64 si], .int .i64 x]) ∧ (-65536 ≤ ba ∧ ba ≤ 200000 ∧ -1 ≤ bi ∧ bi ≤ 17 ∧ 0 ≤ fi ∧ fi ≤ 65535 ∧ 0 ≤ si ∧ si ≤ 17) ∧ -1 ≤ x ∧ x ≤ 131071 ∧ Below w.heap.size w w' := by
  go_enter Try.func27, Try.ntmps27
  go_wp2_with fail
  have r0 := Blk.new w 26 #[.int .i64 0, .int .i64 0, .int .i64 0, .int .i64 0]
  have B : Below w.heap.size w (w.alloc (.cells #[.int .i64 0, .int .i64 0, .int .i64 0, .int .i64 0] 26)) := (Below.refl _ _).alloc (Nat.le_refl _) _
  refine (c_newReader _ _ _ _ (h.to B) hc).mono ?_
  rintro e w1 ⟨g, rfl, hr, hg, hb⟩
  replace r0 := r0.to hb
  replace B := Bl.then B hb
  go_wp2_with fail
  refine (c_anyPlan _ _ _ hr (by omega)).mono ?_
  rintro e w2 ⟨ba, bi, fi, si, p2, rfl, hR, hr, hp2, h2⟩
  have hgr := hr.lt
  have hlt0 := r0.lt
  have hs2 := h2.size
  have k1 := Blk.new w2 26 #[.int .i64 ba, .int .i64 bi, .int .i64 fi, .int .i64 si]
  have hwg : w.heap.size < g := by have := (Blk.new w 26 #[.int .i64 0, .int .i64 0, .int .i64 0, .int .i64 0]).lt; omega
  have hgne : w.heap.size ≠ g := by omega
  replace r0 := (r0.grown h2 (fun e => by injection e with e; omega)).alloc (.cells #[.int .i64 ba, .int .i64 bi, .int .i64 fi, .int .i64 si] 26)
  have hbr : w2.heap.size ≠ w.heap.size := by omega
  have hrr : Rdr (w2.alloc (.cells #[.int .i64 ba, .int .i64 bi, .int .i64 fi, .int .i64 si] 26)).drew g p2 := hr.alloc _
  go_wp2_with fail
  refine wp_region_held_drew (S := (fun w' => w'.cell? ⟨w2.heap.size, 0, none⟩ = some (.int .i64 ba) ∧ w'.cell? ⟨w2.heap.size, 1, none⟩ = some (.int .i64 bi) ∧ w'.cell? ⟨w2.heap.size, 2, none⟩ = some (.int .i64 fi) ∧ w'.cell? ⟨w2.heap.size, 3, none⟩ = some (.int .i64 si))) (by kernel_rfl) ?_ (fun hHeld => ?_)
  · (try dsimp only); exact ⟨k1.cell 0, k1.cell 1, k1.cell 2, k1.cell 3⟩
  refine wpAnyH_take (i := 0) (v := ?_) (arr_at rfl) (by kernel_rfl) (by kernel_rfl) (by kernel_rfl) (fun _ _ _ h => h) ?_ (by assumption) ?_
  rotate_left
  · first
    | (refine Or.inr ⟨by rfl, ?_⟩; with_reducible rfl)
    | (refine Or.inl ⟨by rfl, ?_⟩; intro w hSw; (try dsimp only at hSw); go_simp; done)
    | (refine Or.inl ⟨by rfl, ?_⟩; intro w hSw; (try dsimp only at hSw); go_simp; with_reducible rfl)
  try simp only [Act.put, List.setIfInBounds_toArray, List.set_cons_zero, List.set_cons_succ]
  refine wpAnyH_take (i := 1) (v := ?_) (arr_at rfl) (by kernel_rfl) (by kernel_rfl) (by kernel_rfl) (fun _ _ _ h => h) ?_ (by assumption) ?_
  rotate_left
  · first
    | (refine Or.inr ⟨by rfl, ?_⟩; with_reducible rfl)
    | (refine Or.inl ⟨by rfl, ?_⟩; intro w hSw; (try dsimp only at hSw); go_simp; done)
    | (refine Or.inl ⟨by rfl, ?_⟩; intro w hSw; (try dsimp only at hSw); go_simp; with_reducible rfl)
  try simp only [Act.put, List.setIfInBounds_toArray, List.set_cons_zero, List.set_cons_succ]
  refine wpAnyH_take (i := 2) (v := ?_) (arr_at rfl) (by kernel_rfl) (by kernel_rfl) (by kernel_rfl) (fun _ _ _ h => h) ?_ (by assumption) ?_
  rotate_left
  · first
    | (refine Or.inr ⟨by rfl, ?_⟩; with_reducible rfl)
    | (refine Or.inl ⟨by rfl, ?_⟩; intro w hSw; (try dsimp only at hSw); go_simp; done)
    | (refine Or.inl ⟨by rfl, ?_⟩; intro w hSw; (try dsimp only at hSw); go_simp; with_reducible rfl)
  try simp only [Act.put, List.setIfInBounds_toArray, List.set_cons_zero, List.set_cons_succ]
  refine wpAnyH_take (i := 3) (v := ?_) (arr_at rfl) (by kernel_rfl) (by kernel_rfl) (by kernel_rfl) (fun _ _ _ h => h) ?_ (by assumption) ?_
  rotate_left
  · first
    | (refine Or.inr ⟨by rfl, ?_⟩; with_reducible rfl)
    | (refine Or.inl ⟨by rfl, ?_⟩; intro w hSw; (try dsimp only at hSw); go_simp; done)
    | (refine Or.inl ⟨by rfl, ?_⟩; intro w hSw; (try dsimp only at hSw); go_simp; with_reducible rfl)
  try simp only [Act.put, List.setIfInBounds_toArray, List.set_cons_zero, List.set_cons_succ]
  refine wpAnyH_ready (rs := [4]) (by kernel_rfl) (by simp) ?_
  refine AllReadyH.cons (arr_at rfl) (fun K hK => ?_) AllReadyH.nil
  go_simp
  go_at_call 53; refine (c_addrNear _ _ _ _ _ hrr (by omega)).mono ?_; rintro e w' ⟨x, p9, rfl, hx1, hx2, hrr, hp9, hgg⟩; replace r0 := Blk.grown (w := (w2.alloc (.cells #[.int .i64 ba, .int .i64 bi, .int .i64 fi, .int .i64 si] 26)).drew) r0 hgg (fun e => by injection e with e; omega); replace k1 := Blk.grown (w := (w2.alloc (.cells #[.int .i64 ba, .int .i64 bi, .int .i64 fi, .int .i64 si] 26)).drew) k1 hgg (fun e => by injection e with e; omega); have y0 := r0.cell 0; have yf0 := r0.frozen 0; have y1 := r0.cell 1; have yf1 := r0.frozen 1; have y2 := r0.cell 2; have yf2 := r0.frozen 2; have y3 := r0.cell 3; have yf3 := r0.frozen 3
  refine hK.out _ _ ?_ (fun hHeld => ?_)
  · (try dsimp only); exact ⟨k1.cell 0, k1.cell 1, k1.cell 2, k1.cell 3⟩
  clear hK K
  try simp only [Act.put, List.setIfInBounds_toArray, List.set_cons_zero, List.set_cons_succ]
  refine wpAnyH_ready (rs := [5]) (by kernel_rfl) (by simp) ?_
  refine AllReadyH.cons (arr_at rfl) (fun K hK => ?_) AllReadyH.nil
  go_simp
  generalize hw4 : (World.setCell (World.setCell (World.setCell (World.setCell w' { block := w.heap.size, off := 0 } (Value.int IntKind.i64 ba)) { block := w.heap.size, off := 1 } (Value.int IntKind.i64 bi)) { block := w.heap.size, off := 2 } (Value.int IntKind.i64 fi)) { block := w.heap.size, off := 3 } (Value.int IntKind.i64 si)) = w4; have z : Blk w4 w.heap.size 26 #[.int .i64 ba, .int .i64 bi, .int .i64 fi, .int .i64 si] := (by rw [← hw4]; exact (((r0.set_ 0 _).set_ 1 _).set_ 2 _).set_ 3 _); replace k1 : Blk w4 w2.heap.size 26 #[.int .i64 ba, .int .i64 bi, .int .i64 fi, .int .i64 si] := (by rw [← hw4]; exact (((k1.far hbr _).far hbr _).far hbr _).far hbr _); clear y0 y1 y2 y3 yf0 yf1 yf2 yf3 r0
  refine hK.out _ _ ?_ (fun hHeld => ?_)
  · (try dsimp only); exact ⟨k1.cell 0, k1.cell 1, k1.cell 2, k1.cell 3⟩
  clear hK K
  try simp only [Act.put, List.setIfInBounds_toArray, List.set_cons_zero, List.set_cons_succ]
  refine wpAnyH_take (i := 6) (v := ?_) (arr_at rfl) (by kernel_rfl) (by kernel_rfl) (by kernel_rfl) (fun _ _ _ h => h) ?_ (by assumption) ?_
  rotate_left
  · first
    | (refine Or.inr ⟨by rfl, ?_⟩; with_reducible rfl)
    | (refine Or.inl ⟨by rfl, ?_⟩; intro w hSw; (try dsimp only at hSw); go_simp; done)
    | (refine Or.inl ⟨by rfl, ?_⟩; intro w hSw; (try dsimp only at hSw); go_simp; with_reducible rfl)
  try simp only [Act.put, List.setIfInBounds_toArray, List.set_cons_zero, List.set_cons_succ]
  refine wpAnyH_done (by kernel_rfl) ?_ _
  have G := grown_trans (grown_drewN (grown_alloc (grown_trans (grown_of_below B (some g)) h2) (.cells #[.int .i64 ba, .int .i64 bi, .int .i64 fi, .int .i64 si] 26)) 1) hgg
  replace G : w.grownBy w4 (some g) := by rw [← hw4]; exact grown_set (grown_set (grown_set (grown_set G (Nat.le_refl _)) (Nat.le_refl _)) (Nat.le_refl _)) (Nat.le_refl _)
  clear hw4
  have z0 := z.cell 0
  have z1 := z.cell 1
  have z2 := z.cell 2
  have z3 := z.cell 3
  simp only [List.getElem?_toArray, List.getElem?_cons_zero, List.getElem?_cons_succ] at z0 z1 z2 z3
  go_wp2
  refine bodyPost_ret (v := .tuple #[.agg #[.int .i64 ba, .int .i64 bi, .int .i64 fi, .int .i64 si], .int .i64 x]) (by simp [results, Try.results27, go_sem, z0, z1, z2, z3]) rfl ?_
  exact ⟨ba, bi, fi, si, x, rfl, hR, hx1, hx2, below_of_grown G (Nat.le_refl _) (by omega)⟩
end Go.Proofs.Ytaneiilbkkfnoaa
