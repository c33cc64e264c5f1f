/- Contracts of the generators: some end, the arguments of FormatEnd and FormatNet. -/
import Derived.Test.YthlaldikdlljfaaDoorS2
import Derived.Test.YthlaldikdlljfaaDoorRG1
import Derived.Test.YthlaldikdlljfaaDoorG2
namespace Go.Proofs.YthlaldikdlljfaaDoor
open Go.RowKit

theorem c_someEnd (g p : Nat) (w : World) (hr : Rdr w g p) (hp : p ≤ 1099511625000) :
    Calls Tryd.prog 49 #[.pointer (some ⟨g, 0, none⟩)] w (GenE w g p 14 fun x y => (0 ≤ x ∧ x ≤ 65535) ∧ 0 ≤ y ∧ y ≤ 65535) := by
  have r0 := Blk.new w 25 #[.int .i64 0, .int .i64 0]
  have hgl := hr.lt
  have G := grown_alloc (World.grownBy.refl w (some g)) (.cells #[.int .i64 0, .int .i64 0] 25)
  have hne : w.heap.size ≠ g := by omega
  go_enter Tryd.func49, Tryd.ntmps49
  go_wp2_with fail
  refine (c_someWord _ _ _ (hr.alloc _) (by omega)).mono ?_
  rintro e w1 ⟨x1, p1, rfl, a1, b1, hr, hp1, h⟩
  replace G := grown_trans G h
  replace r0 := r0.grown h (fun e => by injection e with e; omega)
  clear h
  go_wp2_with fail
  refine (c_one _ _ _ _ [2560, 2561, 2562, 2815, 5000, 7000, 51457, x1] _ (hr.alloc _) (by omega) (lit_ints _ rfl rfl) (by simp) (by simp) (lit_far hr rfl)).mono ?_
  rintro e w2 ⟨x, rfl, hx, hr, h⟩
  have hxb : 0 ≤ x ∧ x ≤ 65535 := by
    simp only [List.mem_cons, List.not_mem_nil, or_false] at hx
    omega
  clear hx
  replace G := grown_trans (grown_alloc G _) h
  replace r0 := (r0.alloc _).grown h (fun e => by injection e with e; omega)
  clear h
  go_wp2_with fail
  refine (c_someWord _ _ _ hr (by omega)).mono ?_
  rintro e w3 ⟨y1, p2, rfl, a2, b2, hr, hp2, h⟩
  replace G := grown_trans G h
  replace r0 := r0.grown h (fun e => by injection e with e; omega)
  clear h
  go_wp2_with fail
  refine (c_one _ _ _ _ [1000, 1001, 80, 1003, 5000, 1007, y1] _ (hr.alloc _) (by omega) (lit_ints _ rfl rfl) (by simp) (by simp) (lit_far hr rfl)).mono ?_
  rintro e w4 ⟨y, rfl, hy, hr, h⟩
  have hyb : 0 ≤ y ∧ y ≤ 65535 := by
    simp only [List.mem_cons, List.not_mem_nil, or_false] at hy
    omega
  clear hy
  replace G := grown_trans (grown_alloc G _) h
  replace r0 := (r0.alloc _).grown h (fun e => by injection e with e; omega)
  clear h
  have y0 := r0.cell 0
  have y1 := r0.cell 1
  have f0 := r0.frozen 0
  have f1 := r0.frozen 1
  simp only [List.getElem?_toArray, List.getElem?_cons_zero, List.getElem?_cons_succ] at y0 y1
  go_wp2
  generalize hw4 : (World.setCell (World.setCell w4 { block := w.heap.size, off := 0 } (Value.int IntKind.i64 x)) { block := w.heap.size, off := 1 } (Value.int IntKind.i64 y)) = w5
  have z : Blk w5 w.heap.size 25 #[.int .i64 x, .int .i64 y] := by rw [← hw4]; exact (r0.set_ 0 _).set_ 1 _
  have hr4 : Rdr w5 g (p2 + 1) := by rw [← hw4]; exact (hr.set hgl).set hgl
  have G4 : w.grownBy w5 (some g) := by rw [← hw4]; exact grown_set (grown_set G (Nat.le_refl _)) (Nat.le_refl _)
  have z0 := z.cell 0
  have z1 := z.cell 1
  simp only [List.getElem?_toArray, List.getElem?_cons_zero, List.getElem?_cons_succ] at z0 z1
  refine bodyPost_ret (v := .agg #[.int .i64 x, .int .i64 y]) (by simp [results, Tryd.results49, go_sem, z0, z1]) rfl ?_
  exact ⟨x, y, _, rfl, ⟨hxb, hyb⟩, hr4, by omega, G4⟩

theorem c_DrawFormatEnd (A : Option Addr) (n c : Nat) (w : World) (h : RB w A n) (hc : n ≤ c) :
    Calls Tryd.prog 22 #[.slice A n c] w fun e w' => ∃ x y, e = .returned (.agg #[.int .i64 x, .int .i64 y]) ∧ Below w.heap.size w w' := by
  have r0 := Blk.new w 25 #[.int .i64 0, .int .i64 0]
  have B : Below w.heap.size w (w.alloc (.cells #[.int .i64 0, .int .i64 0] 25)) := (Below.refl _ _).alloc (Nat.le_refl _) _
  go_enter Tryd.func22, Tryd.ntmps22
  go_wp2_with fail
  refine (c_newReader _ _ _ _ (h.to B) hc).mono ?_
  rintro e w1 ⟨g, rfl, hr, hg, hb⟩
  simp only [World.size_alloc] at hg
  replace r0 := r0.to hb
  replace B := Bl.then B hb
  have hgl := hr.lt
  clear hb
  go_wp2_with fail
  refine (c_someEnd _ _ _ hr (by omega)).mono ?_
  rintro e w2 ⟨x, y, p1, rfl, -, hr, hp1, h2⟩
  replace r0 := (r0.grown h2 (fun e => by injection e with e; omega)).alloc (.cells #[.int .i64 x, .int .i64 y] 25)
  replace B : Below w.heap.size w (w2.alloc (.cells #[.int .i64 x, .int .i64 y] 25)) := (B.trans (below_of_grown h2 B.size (by omega))).alloc (Nat.le_trans B.size h2.size) _
  have k0 := Blk.new w2 25 #[.int .i64 x, .int .i64 y]
  have hs2 := h2.size
  replace hr := hr.alloc (.cells #[.int .i64 x, .int .i64 y] 25)
  have hw := B.size
  clear h2
  go_wp2_with fail
  refine (c_pick _ _ _ _ hr (by omega)).mono ?_
  rintro e w3 ⟨t, rfl, -, -, -, hr, h3⟩
  replace r0 := r0.grown h3 (fun e => by injection e with e; omega)
  replace k0 := k0.grown h3 (fun e => by injection e with e; omega)
  replace B := B.trans (below_of_grown h3 B.size (by omega))
  have hs3 := h3.size
  clear h3
  have hne : w.heap.size ≠ w2.heap.size := by have := r0.lt; have := B.size; omega
  by_cases ht : t = 0
  · subst ht
    go_wp2_with fail
    refine (c_one _ _ _ _ [-1, 65536] _ (hr.alloc _) (by omega) (lit_ints _ rfl rfl) (by simp) (by simp) (lit_far hr rfl)).mono ?_
    rintro e w4 ⟨a, rfl, -, hr, h4⟩
    replace r0 := (r0.alloc _).grown h4 (fun e => by injection e with e; omega)
    replace k0 := (k0.alloc _).grown h4 (fun e => by injection e with e; omega)
    replace B := (B.alloc B.size _).trans (below_of_grown h4 (by have := B.size; simp; omega) (by omega))
    clear h4
    have y0 := k0.cell 0
    have f0 := k0.frozen 0
    have e0 := r0.cell 0
    have e1 := r0.cell 1
    have i0 := r0.frozen 0
    have i1 := r0.frozen 1
    have m1 := (k0.set_ 0 (.int .i64 a)).cell 1
    have n0 := (r0.far (p := ⟨w2.heap.size, 0, none⟩) hne (.int .i64 a)).cell 0
    have n1 := (r0.far (p := ⟨w2.heap.size, 0, none⟩) hne (.int .i64 a)).cell 1
    simp only [List.getElem?_toArray, List.getElem?_cons_zero, List.getElem?_cons_succ, List.setIfInBounds_toArray, List.set_cons_zero] at y0 e0 e1 m1 n0 n1
    go_wp2
    generalize hwf : (((w4.setCell { block := w2.heap.size, off := 0 } (Value.int IntKind.i64 a)).setCell { block := w.heap.size, off := 0 } (Value.int IntKind.i64 a)).setCell { block := w.heap.size, off := 1 } (Value.int IntKind.i64 y)) = wf
    have z : Blk wf w.heap.size 25 #[.int .i64 a, .int .i64 y] := by rw [← hwf]; exact ((r0.far hne _).set_ 0 _).set_ 1 _
    have Bf : Below w.heap.size w wf := by rw [← hwf]; exact ((B.setCell (by show _ ≤ w2.heap.size; omega) _).setCell (Nat.le_refl _) _).setCell (Nat.le_refl _) _
    have z0 := z.cell 0
    have z1 := z.cell 1
    simp only [List.getElem?_toArray, List.getElem?_cons_zero, List.getElem?_cons_succ] at z0 z1
    refine bodyPost_ret (v := .agg #[.int .i64 a, .int .i64 y]) (by simp [results, Tryd.results22, go_sem, z0, z1]) rfl ?_
    exact ⟨a, y, rfl, Bf⟩
  · have ht' : (t == 0) = false := by rw [beq_eq_false_iff_ne]; exact ht
    have y0 := k0.cell 0
    have y1 := k0.cell 1
    have e0 := r0.cell 0
    have e1 := r0.cell 1
    have i0 := r0.frozen 0
    have i1 := r0.frozen 1
    simp only [List.getElem?_toArray, List.getElem?_cons_zero, List.getElem?_cons_succ] at y0 y1 e0 e1
    go_wp2
    generalize hwf : ((w3.setCell { block := w.heap.size, off := 0 } (Value.int IntKind.i64 x)).setCell { block := w.heap.size, off := 1 } (Value.int IntKind.i64 y)) = wf
    have z : Blk wf w.heap.size 25 #[.int .i64 x, .int .i64 y] := by rw [← hwf]; exact (r0.set_ 0 _).set_ 1 _
    have Bf : Below w.heap.size w wf := by rw [← hwf]; exact (B.setCell (Nat.le_refl _) _).setCell (Nat.le_refl _) _
    have z0 := z.cell 0
    have z1 := z.cell 1
    simp only [List.getElem?_toArray, List.getElem?_cons_zero, List.getElem?_cons_succ] at z0 z1
    refine bodyPost_ret (v := .agg #[.int .i64 x, .int .i64 y]) (by simp [results, Tryd.results22, go_sem, z0, z1]) rfl ?_
    exact ⟨x, y, rfl, Bf⟩

theorem c_DrawFormatNet (A : Option Addr) (n c : Nat) (w : World) (h : RB w A n) (hc : n ≤ c) :
    Calls Tryd.prog 23 #[.slice A n c] w fun e w' => ∃ x y, e = .returned (.agg #[.int .i64 x, .int .i64 y]) ∧ Below w.heap.size w w' := by
  have r0 := Blk.new w 31 #[.int .i64 0, .int .i64 0]
  have B : Below w.heap.size w (w.alloc (.cells #[.int .i64 0, .int .i64 0] 31)) := (Below.refl _ _).alloc (Nat.le_refl _) _
  go_enter Tryd.func23, Tryd.ntmps23
  go_wp2_with fail
  refine (c_newReader _ _ _ _ (h.to B) hc).mono ?_
  rintro e w1 ⟨g, rfl, hr, hg, hb⟩
  simp only [World.size_alloc] at hg
  replace r0 := r0.to hb
  replace B := Bl.then B hb
  have hgl := hr.lt
  clear hb
  go_wp2_with fail
  refine (c_anyNet _ _ _ hr (by omega)).mono ?_
  rintro e w2 ⟨x, y, p1, rfl, -, hr, hp1, h2⟩
  replace r0 := r0.grown h2 (fun e => by injection e with e; omega)
  replace B : Below w.heap.size w w2 := B.trans (below_of_grown h2 B.size (by omega))
  have e0 := r0.cell 0
  have e1 := r0.cell 1
  have i0 := r0.frozen 0
  have i1 := r0.frozen 1
  simp only [List.getElem?_toArray, List.getElem?_cons_zero, List.getElem?_cons_succ] at e0 e1
  go_wp2
  generalize hwf : ((w2.setCell { block := w.heap.size, off := 0 } (Value.int IntKind.i64 x)).setCell { block := w.heap.size, off := 1 } (Value.int IntKind.i64 y)) = wf
  have z : Blk wf w.heap.size 31 #[.int .i64 x, .int .i64 y] := by rw [← hwf]; exact (r0.set_ 0 _).set_ 1 _
  have Bf : Below w.heap.size w wf := by rw [← hwf]; exact (B.setCell (Nat.le_refl _) _).setCell (Nat.le_refl _) _
  have z0 := z.cell 0
  have z1 := z.cell 1
  simp only [List.getElem?_toArray, List.getElem?_cons_zero, List.getElem?_cons_succ] at z0 z1
  refine bodyPost_ret (v := .agg #[.int .i64 x, .int .i64 y]) (by simp [results, Tryd.results23, go_sem, z0, z1]) rfl ?_
  exact ⟨x, y, rfl, Bf⟩
end Go.Proofs.YthlaldikdlljfaaDoor
