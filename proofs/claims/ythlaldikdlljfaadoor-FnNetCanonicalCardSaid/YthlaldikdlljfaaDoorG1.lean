/- Contracts of the generator: nets. -/
import Derived.Test.YthlaldikdlljfaaDoorGen3
import Derived.Test.YthlaldikdlljfaaDoorB1
import Derived.Deep.RegionLaw
namespace Go.Proofs.YthlaldikdlljfaaDoor
open Go.RowKit

/-- What a generator of a net leaves. -/
def GenN (w : World) (g p k : Nat) (R : Int → Int → Prop) (e : Ending) (w' : World) : Prop :=
  ∃ (ba bi : Int) (p' : Nat), e = .returned (.agg #[.int .i64 ba, .int .i64 bi]) ∧ R ba bi ∧ Rdr w' g p' ∧ p' ≤ p + k ∧ w.grownBy w' (some g)

theorem c_someNet (g p : Nat) (w : World) (hr : Rdr w g p) (hp : p ≤ 1099511626000) :
    Calls Tryd.prog 69 #[.pointer (some ⟨g, 0, none⟩)] w (GenN w g p 6 fun ba bi => -65536 ≤ ba ∧ ba ≤ 65535 ∧ 0 ≤ bi ∧ bi ≤ 16) := by
  go_enter Tryd.func69, Tryd.ntmps69
  go_wp2_with fail
  have hgl := hr.lt
  refine (c_one _ _ _ _ [8, 12, 16, 4, 0, 15, 9] _ ((hr.alloc _).alloc _) (by omega) (lit_ints _ (by simp) rfl) (by simp) (by simp) (lit_far (hr.alloc (.cells #[.int .i64 0, .int .i64 0] 31)) (by simp))).mono ?_
  rintro e w1 ⟨bi, rfl, hx, hr, h⟩
  have hbi : 0 ≤ bi ∧ bi ≤ 16 := by
    simp only [List.mem_cons, List.not_mem_nil, or_false] at hx
    omega
  clear hx
  have k0 := (((Blk.new w 31 #[.int .i64 0, .int .i64 0]).alloc (.cells (ints [8, 12, 16, 4, 0, 15, 9]) 3)).grown h (by simp; omega)).alloc (.cells #[.int .i64 0, .int .i64 bi] 31)
  have hszw : w.heap.size + 2 ≤ w1.heap.size := by have := h.size; simpa using this
  replace h := grown_trans (grown_alloc (grown_alloc (World.grownBy.refl w (some g)) _) _) h
  go_wp2_with fail
  have k1 := Blk.new w1 31 #[.int .i64 0, .int .i64 bi]
  have hne : w1.heap.size ≠ g := by have := hr.lt; omega
  have hs1 : w.heap.size ≤ w1.heap.size := h.size
  have hne1 : w.heap.size ≠ w1.heap.size := by omega
  refine (c_someWord _ _ _ (hr.alloc _) (by omega)).mono ?_
  rintro e w2 ⟨ba, p2, rfl, hb1, hb2, hr, hp2, h2⟩
  replace k0 := k0.grown h2 (by simp; omega)
  replace k1 := k1.grown h2 (by simpa using hne)
  replace h := grown_trans (grown_alloc h _) h2
  have hlt := k1.lt
  have c0 : w2.cell? ⟨w1.heap.size, 0, none⟩ = some (.int .i64 0) := k1.cell 0
  have f0 := k1.frozen 0
  have hz : sz bi ≠ 0 := by have := sz_bd (inB_mk hbi.1 hbi.2); omega
  have hd : 0 ≤ ba.tmod (sz bi) ∧ ba.tmod (sz bi) ≤ 65536 := by
    rw [Int.tmod_eq_emod_of_nonneg (by omega)]
    have hs := sz_bd (inB_mk hbi.1 hbi.2)
    have := Int.emod_lt_of_pos ba (b := sz bi) (by omega)
    exact ⟨Int.emod_nonneg _ hz, by omega⟩
  have e1 : IntKind.i64.wrap (ba.tmod (sz bi)) = ba.tmod (sz bi) := IntWalk.i64_in _ (by omega)
  have e2 : IntKind.i64.wrap (ba - ba.tmod (sz bi)) = ba - ba.tmod (sz bi) := IntWalk.i64_in _ (by omega)
  go_wp2_with fail
  generalize hw3 : w2.setCell { block := w1.heap.size, off := 0 } (Value.int IntKind.i64 ba) = w3
  have k3 : Blk w3 w1.heap.size 31 #[.int .i64 ba, .int .i64 bi] := by rw [← hw3]; exact k1.set_ 0 _
  have d0 : w3.cell? ⟨w1.heap.size, 0, none⟩ = some (.int .i64 ba) := k3.cell 0
  have d1 : w3.cell? ⟨w1.heap.size, 1, none⟩ = some (.int .i64 bi) := k3.cell 1
  have q0 := k3.frozen 0
  have k03 : Blk w3 w.heap.size 31 #[.int .i64 0, .int .i64 0] := by rw [← hw3]; exact k0.far (by show w.heap.size ≠ w1.heap.size; have := h.size; omega) _
  have hr3 : Rdr w3 g p2 := by rw [← hw3]; exact hr.set (by omega)
  have hg3 : w.grownBy w3 (some g) := by rw [← hw3]; exact grown_set h hs1
  have hne2 : w.heap.size ≠ w1.heap.size := hne1
  clear c0 f0 hw3 k0 k1 h hr
  go_region_law (first
    | (go_simp; go_at_call 78; refine (c_ssize _ _ _ (inB_mk hbi.1 hbi.2)).mono ?_; rintro e w4 ⟨rfl, hq⟩; have m1 := Blk.to (w := w3.drew) k3 hq; have m0 := Blk.to (w := w3.drew) k03 hq; have x0 := m1.cell 0; have x1 := m1.cell 1; have xf := m1.frozen 0))
  all_goals
    have hr4 := (Rdr.to (w := w3.drew) hr3 hq)
    have hg4 := grown_trans (grown_drewN hg3 1) (grown_of_below hq (some g))
    clear x0 x1 xf e1 e2
    have hnb : -65536 ≤ ba - ba.tmod (sz bi) ∧ ba - ba.tmod (sz bi) ≤ 65535 := by omega
    clear hd
    generalize ba - ba.tmod (sz bi) = nb at hnb ⊢
    generalize hw5 : w4.setCell { block := w1.heap.size, off := 0 } (Value.int IntKind.i64 nb) = w5
    have n1 : Blk w5 w1.heap.size 31 #[.int .i64 nb, .int .i64 bi] := by rw [← hw5]; exact m1.set_ 0 _
    have n0 : Blk w5 w.heap.size 31 #[.int .i64 0, .int .i64 0] := by rw [← hw5]; exact m0.far hne2 _
    have hr5 : Rdr w5 g p2 := by rw [← hw5]; exact hr4.set (by omega)
    have hg5 : w.grownBy w5 (some g) := by rw [← hw5]; exact grown_set hg4 hs1
    clear hw5 m0 m1
    have x0 : w5.cell? ⟨w1.heap.size, 0, none⟩ = some (.int .i64 nb) := n1.cell 0
    have x1 : w5.cell? ⟨w1.heap.size, 1, none⟩ = some (.int .i64 bi) := n1.cell 1
    have y0 : w5.cell? ⟨w.heap.size, 0, none⟩ = some (.int .i64 0) := n0.cell 0
    have y1 : w5.cell? ⟨w.heap.size, 1, none⟩ = some (.int .i64 0) := n0.cell 1
    have yf := n0.frozen 0
    have yf1 := n0.frozen 1
    go_wp2
    generalize hw6 : (w5.setCell { block := w.heap.size, off := 0 } (Value.int IntKind.i64 nb)).setCell { block := w.heap.size, off := 1 } (Value.int IntKind.i64 bi) = w6
    have z : Blk w6 w.heap.size 31 #[.int .i64 nb, .int .i64 bi] := by rw [← hw6]; exact (n0.set_ 0 _).set_ 1 _
    have hr6 : Rdr w6 g p2 := by rw [← hw6]; exact (hr5.set hgl).set hgl
    have hg6 : w.grownBy w6 (some g) := by rw [← hw6]; exact grown_set (grown_set hg5 (Nat.le_refl _)) (Nat.le_refl _)
    have z0 : w6.cell? ⟨w.heap.size, 0, none⟩ = some (.int .i64 nb) := z.cell 0
    have z1 : w6.cell? ⟨w.heap.size, 1, none⟩ = some (.int .i64 bi) := z.cell 1
    refine bodyPost_ret (v := .agg #[.int .i64 nb, .int .i64 bi]) (by simp [results, Tryd.results69, go_sem, z0, z1]) rfl ?_
    exact ⟨nb, bi, p2, rfl, ⟨hnb.1, hnb.2, hbi.1, hbi.2⟩, hr6, by omega, hg6⟩
end Go.Proofs.YthlaldikdlljfaaDoor
