/- Contracts of the generator: nets that may be invalid. -/
import Derived.Test.YthlaldikdlljfaaDoorG1
namespace Go.Proofs.YthlaldikdlljfaaDoor
open Go.RowKit

theorem c_anyNet (g p : Nat) (w : World) (hr : Rdr w g p) (hp : p ≤ 1099511625000) :
    Calls Tryd.prog 52 #[.pointer (some ⟨g, 0, none⟩)] w (GenN w g p 8 fun ba bi => -65536 ≤ ba ∧ ba ≤ 200000 ∧ -1 ≤ bi ∧ bi ≤ 17) := by
  go_enter Tryd.func52, Tryd.ntmps52
  go_wp2_with fail
  have hgl := hr.lt
  refine (c_someNet _ _ _ (hr.alloc _) (by omega)).mono ?_
  rintro e w1 ⟨ba, bi, p1, rfl, hR, hr, hp1, h⟩
  have k0 := (Blk.new w 31 #[.int .i64 0, .int .i64 0]).grown h (by simp; omega)
  have hsz : w.heap.size + 1 ≤ w1.heap.size := by have := h.size; simpa using this
  replace h := grown_trans (grown_alloc (World.grownBy.refl w (some g)) _) h
  have k1 := Blk.new w1 31 #[.int .i64 ba, .int .i64 bi]
  replace k0 := k0.alloc (.cells #[.int .i64 ba, .int .i64 bi] 31)
  have hne : w1.heap.size ≠ g := by have := hr.lt; omega
  have hs1 : w.heap.size ≤ w1.heap.size := by omega
  have hne1 : w.heap.size ≠ w1.heap.size := by omega
  go_wp2_with fail
  refine (c_pick _ _ _ _ (hr.alloc _) (by omega)).mono ?_
  rintro e w2 ⟨x, rfl, a1, b1, -, hr, h2⟩
  replace k0 := k0.grown h2 (by simp; omega)
  replace k1 := k1.grown h2 (by simpa using hne)
  replace h := grown_trans (grown_alloc h _) h2
  clear h2 b1
  by_cases hx0 : x = 0
  · subst hx0
    go_wp2_with fail
    refine (c_one _ _ _ _ [-1, 17, 3] _ (hr.alloc _) (by omega) (lit_ints _ rfl rfl) (by simp) (by simp) (lit_far hr rfl)).mono ?_
    rintro e w3 ⟨nbi, rfl, hx, hr, h3⟩
    have hbi : -1 ≤ nbi ∧ nbi ≤ 17 := by
      simp only [List.mem_cons, List.not_mem_nil, or_false] at hx
      omega
    clear hx
    replace k0 := (k0.alloc (.cells (ints [-1, 17, 3]) 3)).grown h3 (by simp; omega)
    replace k1 := (k1.alloc (.cells (ints [-1, 17, 3]) 3)).grown h3 (by simpa using hne)
    replace h := grown_trans (grown_alloc h _) h3
    have c0 : w3.cell? ⟨w1.heap.size, 0, none⟩ = some (.int .i64 ba) := k1.cell 0
    have c1 : w3.cell? ⟨w1.heap.size, 1, none⟩ = some (.int .i64 bi) := k1.cell 1
    have cf0 := k1.frozen 0
    have cf1 := k1.frozen 1
    have y0 : w3.cell? ⟨w.heap.size, 0, none⟩ = some (.int .i64 0) := k0.cell 0
    have y1 : w3.cell? ⟨w.heap.size, 1, none⟩ = some (.int .i64 0) := k0.cell 1
    have yf0 := k0.frozen 0
    have yf1 := k0.frozen 1
    go_wp2
    generalize hw6 : (World.setCell (World.setCell (World.setCell w3 { block := w1.heap.size, off := 1 } (Value.int IntKind.i64 nbi)) { block := w.heap.size, off := 0 } (Value.int IntKind.i64 ba)) { block := w.heap.size, off := 1 } (Value.int IntKind.i64 nbi)) = w6
    have z : Blk w6 w.heap.size 31 #[.int .i64 ba, .int .i64 nbi] := by rw [← hw6]; exact (((k0.far hne1 _).set_ 0 _).set_ 1 _)
    have hr6 : Rdr w6 g (p1 + 1 + 1) := by rw [← hw6]; exact (((hr.set (by omega)).set hgl).set hgl)
    have hg6 : w.grownBy w6 (some g) := by rw [← hw6]; exact (grown_set (grown_set (grown_set h hs1) (Nat.le_refl _)) (Nat.le_refl _))
    have z0 : w6.cell? ⟨w.heap.size, 0, none⟩ = some (.int .i64 (ba)) := z.cell 0
    have z1 : w6.cell? ⟨w.heap.size, 1, none⟩ = some (.int .i64 nbi) := z.cell 1
    refine bodyPost_ret (v := .agg #[.int .i64 (ba), .int .i64 nbi]) (by simp [results, Tryd.results52, go_sem, z0, z1]) rfl ?_
    exact ⟨_, nbi, _, rfl, ⟨by omega, by omega, hbi.1, hbi.2⟩, hr6, by omega, hg6⟩
  by_cases hx1 : x = 1
  · subst hx1
    have c0 : w2.cell? ⟨w1.heap.size, 0, none⟩ = some (.int .i64 ba) := k1.cell 0
    have hlt := k1.lt
    go_wp2_with fail
    go_region_law (first
      | (go_simp; go_at_call 51; refine (c_one _ _ _ _ [1, 65536] _ (Rdr.alloc (w := w2.drew) hr _) (by omega) (lit_ints (w := w2.drew) _ rfl rfl) (by simp) (by simp) (lit_far (w := w2.drew) hr rfl)).mono ?_; rintro e w3 ⟨d, rfl, hx, hr3, h3⟩
         have hd : 1 ≤ d ∧ d ≤ 65536 := by simp only [List.mem_cons, List.not_mem_nil, or_false] at hx; omega
         have ew : IntKind.i64.wrap (ba + d) = ba + d := IntWalk.i64_in _ (by omega)
         have ew2 : wrap64 (ba + d) = ba + d := wrap64_id (by omega) (by omega)
         have m1 := (Blk.alloc (w := w2.drew) k1 (.cells (ints [1, 65536]) 3)).grown h3 (by simpa using hne)
         have d0 := m1.cell 0
         have df := m1.frozen 0))
    all_goals
      have m0 := (Blk.alloc (w := w2.drew) k0 (.cells (ints [1, 65536]) 3)).grown h3 (by simp; omega)
      have hg3 := grown_trans (grown_alloc (grown_drewN h 1) _) h3
      clear d0 df ew ew2 c0 hlt hx
      have hnb : -65536 ≤ ba + d ∧ ba + d ≤ 200000 := by omega
      generalize ba + d = nb at hnb ⊢
      generalize hw4 : (World.setCell w3 { block := w1.heap.size, off := 0 } (Value.int IntKind.i64 nb)) = w4
      have n1 : Blk w4 w1.heap.size 31 #[.int .i64 nb, .int .i64 bi] := by rw [← hw4]; exact m1.set_ 0 _
      have n0 : Blk w4 w.heap.size 31 #[.int .i64 0, .int .i64 0] := by rw [← hw4]; exact m0.far hne1 _
      have hr4 : Rdr w4 g (p1 + 1 + 1) := by rw [← hw4]; exact hr3.set (by omega)
      have hg4 : w.grownBy w4 (some g) := by rw [← hw4]; exact grown_set hg3 hs1
      clear hw4 m0 m1 k0 k1
      have c0 : w4.cell? ⟨w1.heap.size, 0, none⟩ = some (.int .i64 nb) := n1.cell 0
      have c1 : w4.cell? ⟨w1.heap.size, 1, none⟩ = some (.int .i64 bi) := n1.cell 1
      have y0 : w4.cell? ⟨w.heap.size, 0, none⟩ = some (.int .i64 0) := n0.cell 0
      have y1 : w4.cell? ⟨w.heap.size, 1, none⟩ = some (.int .i64 0) := n0.cell 1
      have yf0 := n0.frozen 0
      have yf1 := n0.frozen 1
      go_wp2
      generalize hw6 : (World.setCell (World.setCell w4 { block := w.heap.size, off := 0 } (Value.int IntKind.i64 nb)) { block := w.heap.size, off := 1 } (Value.int IntKind.i64 bi)) = w6
      have z : Blk w6 w.heap.size 31 #[.int .i64 nb, .int .i64 bi] := by rw [← hw6]; exact ((n0.set_ 0 _).set_ 1 _)
      have hr6 : Rdr w6 g (p1 + 1 + 1) := by rw [← hw6]; exact ((hr4.set hgl).set hgl)
      have hg6 : w.grownBy w6 (some g) := by rw [← hw6]; exact (grown_set (grown_set hg4 (Nat.le_refl _)) (Nat.le_refl _))
      have z0 : w6.cell? ⟨w.heap.size, 0, none⟩ = some (.int .i64 (nb)) := z.cell 0
      have z1 : w6.cell? ⟨w.heap.size, 1, none⟩ = some (.int .i64 bi) := z.cell 1
      refine bodyPost_ret (v := .agg #[.int .i64 (nb), .int .i64 bi]) (by simp [results, Tryd.results52, go_sem, z0, z1]) rfl ?_
      exact ⟨_, bi, _, rfl, ⟨hnb.1, hnb.2, by omega, by omega⟩, hr6, by omega, hg6⟩
  · have hx0' : (x == 0) = false := by rw [beq_eq_false_iff_ne]; exact hx0
    have hx1' : (x == 1) = false := by rw [beq_eq_false_iff_ne]; exact hx1
    have c0 : w2.cell? ⟨w1.heap.size, 0, none⟩ = some (.int .i64 ba) := k1.cell 0
    have c1 : w2.cell? ⟨w1.heap.size, 1, none⟩ = some (.int .i64 bi) := k1.cell 1
    have cf0 := k1.frozen 0
    have cf1 := k1.frozen 1
    have y0 : w2.cell? ⟨w.heap.size, 0, none⟩ = some (.int .i64 0) := k0.cell 0
    have y1 : w2.cell? ⟨w.heap.size, 1, none⟩ = some (.int .i64 0) := k0.cell 1
    have yf0 := k0.frozen 0
    have yf1 := k0.frozen 1
    go_wp2
    generalize hw6 : (World.setCell (World.setCell w2 { block := w.heap.size, off := 0 } (Value.int IntKind.i64 ba)) { block := w.heap.size, off := 1 } (Value.int IntKind.i64 bi)) = w6
    have z : Blk w6 w.heap.size 31 #[.int .i64 ba, .int .i64 bi] := by rw [← hw6]; exact ((k0.set_ 0 _).set_ 1 _)
    have hr6 : Rdr w6 g (p1 + 1) := by rw [← hw6]; exact ((hr.set hgl).set hgl)
    have hg6 : w.grownBy w6 (some g) := by rw [← hw6]; exact (grown_set (grown_set h (Nat.le_refl _)) (Nat.le_refl _))
    have z0 : w6.cell? ⟨w.heap.size, 0, none⟩ = some (.int .i64 (ba)) := z.cell 0
    have z1 : w6.cell? ⟨w.heap.size, 1, none⟩ = some (.int .i64 bi) := z.cell 1
    refine bodyPost_ret (v := .agg #[.int .i64 (ba), .int .i64 bi]) (by simp [results, Tryd.results52, go_sem, z0, z1]) rfl ?_
    exact ⟨_, bi, _, rfl, ⟨by omega, by omega, by omega, by omega⟩, hr6, by omega, hg6⟩
end Go.Proofs.YthlaldikdlljfaaDoor
