/- Contracts of the reference's functions on records: ValidRecords, WhoHad. -/
import Derived.Test.YtaceadddggkkmaaR4
namespace Go.Proofs.Ytaceadddggkkmaa
open Go.RowKit

theorem c_sValidRecords (A : Option Addr) (n c : Nat) (l : List Rec) (w : World) (hn : l.length = n) (h : RR w A l) (hl : n ≤ 1099511627776) :
    Calls Try.prog 20 #[.slice A n c] w fun e w' => e = .returned (.bool (vRec l)) ∧ Below w.heap.size w w' := by
  go_enter Try.func20, Try.ntmps20
  go_wp2_with fail
  refine (c_sValidRecords' _ _ _ l _ hn h hl).mono ?_
  rintro e w1 ⟨rfl, b⟩
  go_wp2
  go_ret
  exact ⟨rfl, b⟩

set_option maxHeartbeats 1600000 in
theorem c_sWhoHad (A : Option Addr) (n c : Nat) (l : List Rec) (p now : Int) (w : World) (hn : l.length = n) (h : RR w A l) (hl : n ≤ 1099511627776) :
    Calls Try.prog 26 #[.slice A n c, .int .i64 p, .int .i64 now] w fun e w' => e = .returned (whoV (who l p now)) ∧ Below w.heap.size w w' := by
  have HN := Lib.hid hn
  clear hn
  have B0 : Below w.heap.size w (w.alloc (.cells #[.int .i64 0, .int .i64 0] 27)) := (Below.refl _ _).alloc (Nat.le_refl _) _
  have r0 := Blk.new w 27 #[.int .i64 0, .int .i64 0]
  go_enter Try.func26, Try.ntmps26
  go_wp2_with fail
  refine (c_sValidRecords' _ _ _ l _ HN.out (h.to B0) hl).mono ?_
  rintro e w1 ⟨rfl, b⟩
  replace r0 := r0.to b
  have B := Bl.then B0 b
  have hlt := r0.lt
  have hR := h.to B
  clear b
  have y0 := r0.cell 0
  have y1 := r0.cell 1
  have f0 := r0.frozen 0
  have f1 := r0.frozen 1
  simp only [List.getElem?_toArray, List.getElem?_cons_zero, List.getElem?_cons_succ] at y0 y1
  have fin : ∀ x y : Int, Blk (World.setCell (World.setCell w1 { block := w.heap.size, off := 0 } (Value.int IntKind.i64 x)) { block := w.heap.size, off := 1 } (Value.int IntKind.i64 y)) w.heap.size 27 #[.int .i64 x, .int .i64 y] ∧
      Below w.heap.size w (World.setCell (World.setCell w1 { block := w.heap.size, off := 0 } (Value.int IntKind.i64 x)) { block := w.heap.size, off := 1 } (Value.int IntKind.i64 y)) := fun x y =>
    ⟨(r0.set_ 0 _).set_ 1 _, (B.setCell (Nat.le_refl _) _).setCell (Nat.le_refl _) _⟩
  have FIN := Lib.hid fin
  clear fin
  have hub := (upTo_spec l now).1
  cases hv : vRec l
  · have HW : Hid (who l p now = none) := by unfold who; rw [hv]; rfl
    go_wp2
    obtain ⟨z, B4⟩ := FIN.out 0 0
    have z0 := z.cell 0
    have z1 := z.cell 1
    simp only [List.getElem?_toArray, List.getElem?_cons_zero, List.getElem?_cons_succ] at z0 z1
    refine bodyPost_ret (v := .tuple #[.agg #[.int .i64 0, .int .i64 0], .bool false]) (by simp [results, Try.results26, go_sem, z0, z1]) rfl ?_
    exact ⟨by rw [HW.out]; rfl, B4⟩
  · have hW : who l p now = if hold l p (upTo l now) < 0 then none else some ((rn l (hold l p (upTo l now)).toNat).ad, (rn l (hold l p (upTo l now)).toNat).ep) := by unfold who; rw [hv, if_pos rfl, own_hold]
    have HW := Lib.hid hW
    have hbd := hold_bd l p (upTo l now)
    clear hW
    go_wp2_with fail
    refine (c_upTo _ _ _ l now _ HN.out hR hl).mono ?_
    rintro e w' ⟨rfl, rfl⟩
    go_wp2_with fail
    refine (c_holder _ _ _ (upTo l now) l p _ HN.out hR hl (by rw [← HN.out]; exact hub)).mono ?_
    rintro e w' ⟨rfl, rfl⟩
    generalize hh : hold l p (upTo l now) = k at hbd HW
    have HH := Lib.hid hh
    clear hh
    by_cases h0 : k < 0
    · rw [if_pos h0] at HW
      have t0 : decide (k < 0) = true := by rw [decide_eq_true_eq]; exact h0
      go_wp2
      obtain ⟨z, B4⟩ := FIN.out 0 0
      have z0 := z.cell 0
      have z1 := z.cell 1
      simp only [List.getElem?_toArray, List.getElem?_cons_zero, List.getElem?_cons_succ] at z0 z1
      refine bodyPost_ret (v := .tuple #[.agg #[.int .i64 0, .int .i64 0], .bool false]) (by simp [results, Try.results26, go_sem, z0, z1]) rfl ?_
      exact ⟨by rw [HW.out]; rfl, B4⟩
    · rw [if_neg h0] at HW
      have t0 : decide (k < 0) = false := by rw [decide_eq_false_iff_not]; exact h0
      obtain ⟨j, rfl⟩ := Int.eq_ofNat_of_zero_le (show 0 ≤ k by omega)
      rw [Int.toNat_natCast] at HW
      obtain ⟨b, off, rfl, hb, c0, c1, c2, c3, c4⟩ := hR.get (k := j) (by omega)
      have hjn : (j : Int) < n := by rw [← HN.out]; omega
      clear c0 c1 c4
      generalize hx : (rn l j).ad = x at c2 HW
      generalize hy : (rn l j).ep = y at c3 HW
      clear hx hy
      go_wp2_with fail
      refine (c_upTo _ _ _ l now _ HN.out hR hl).mono ?_
      rintro e w' ⟨rfl, rfl⟩
      go_wp2_with fail
      refine (c_holder _ _ _ (upTo l now) l p _ HN.out hR hl (by rw [← HN.out]; exact hub)).mono ?_
      rw [HH.out]
      rintro e w' ⟨rfl, rfl⟩
      go_wp2
      obtain ⟨z, B4⟩ := FIN.out x y
      have z0 := z.cell 0
      have z1 := z.cell 1
      simp only [List.getElem?_toArray, List.getElem?_cons_zero, List.getElem?_cons_succ] at z0 z1
      refine bodyPost_ret (v := .tuple #[.agg #[.int .i64 x, .int .i64 y], .bool true]) (by simp [results, Try.results26, go_sem, z0, z1]) rfl ?_
      exact ⟨by rw [HW.out]; rfl, B4⟩
end Go.Proofs.Ytaceadddggkkmaa
