/- Contracts of the functions on records: which are valid, who had a port. -/
import Derived.Test.YtaceadddggkkmaaR2
namespace Go.Proofs.Ytaceadddggkkmaa
open Go.RowKit

theorem vRec_stat {l : List Rec} {k : Nat} (hk : k < l.length) (h : statI l k = false) : vRec l = false := by unfold vRec; rw [allUp_false hk h]; rfl
theorem pat_succ (l : List Rec) (k : Nat) : pat l (k + 1) = (rn l k).at_ := by unfold pat; simp
set_option maxHeartbeats 1600000 in
theorem c_iValidRecords (A : Option Addr) (n c : Nat) (l : List Rec) (w : World) (hn : l.length = n) (h : RR w A l) (hl : n ≤ 1099511627776) :
    Calls Try.prog 19 #[.slice A n c] w fun e w' => e = .returned (.bool (vRec l)) ∧ Below w.heap.size w w' := by
  have HN := Lib.hid hn
  clear hn
  go_enter Try.func19, Try.ntmps19
  go_wp2
  go_loopw [3, 10] (fun s i wr => ∃ k : Nat, k ≤ n ∧ i = .int .i64 k ∧ s = .int .i64 (pat l k) ∧ Hid (∀ j, j < k → statI l j = true) ∧ Hid (Below w.heap.size w wr)) (fun _ i _ => n - (intOf i).toNat)
  case atStart => exact ⟨0, Nat.zero_le _, rfl, rfl, fun j hj => absurd hj (by omega), Below.refl _ _⟩
  case round =>
    obtain ⟨k, hk, rfl, rfl, hS, HB⟩ := hrel
    by_cases hlt : k < n
    · obtain ⟨b, off, rfl, hb, c0, c1, c2, c3, c4⟩ := (h.to HB.out).get (k := k) (by rw [HN.out]; omega)
      have hkl : Hid (k < l.length) := by rw [HN.out]; exact hlt
      have kb := Blk.new wr 29 #[.int .i64 (rn l k).at_, .int .i64 (rn l k).po, .int .i64 (rn l k).ad, .int .i64 (rn l k).ep, .bool (rn l k).ov]
      have HBB := HB.out.alloc HB.out.size (.cells #[.int .i64 (rn l k).at_, .int .i64 (rn l k).po, .int .i64 (rn l k).ad, .int .i64 (rn l k).ep, .bool (rn l k).ov] 29)
      have HST : Hid (statI l k = (inB (rn l k).at_ (pat l k) 10000 && (inB (rn l k).po 1000 1007 && (inB (rn l k).ad 0 65535 && inB (rn l k).ep 0 65535)))) := rfl
      cases h1 : inB (rn l k).at_ (pat l k) 10000
      · go_wp2_with fail
        refine (c_in _ _ _ _).mono ?_
        rw [h1]
        rintro e w1 ⟨rfl, rfl⟩
        go_wp2
        go_ret
        exact ⟨ret_bool (by rw [vRec_stat hkl.out (by rw [HST.out, h1]; rfl)]), HBB⟩
      cases h2 : inB (rn l k).po 1000 1007
      · go_wp2_with fail
        refine (c_in _ _ _ _).mono ?_
        rw [h1]
        rintro e w1 ⟨rfl, rfl⟩
        go_wp2_with fail
        refine (c_isOutside _ _).mono ?_
        rw [h2]
        rintro e w1 ⟨rfl, rfl⟩
        go_wp2
        go_ret
        exact ⟨ret_bool (by rw [vRec_stat hkl.out (by rw [HST.out, h1, h2]; rfl)]), HBB⟩
      cases h3 : inB (rn l k).ad 0 65535 && inB (rn l k).ep 0 65535
      all_goals
        go_wp2_with fail
        refine (c_in _ _ _ _).mono ?_
        rw [h1]
        rintro e w1 ⟨rfl, rfl⟩
        go_wp2_with fail
        refine (c_isOutside _ _).mono ?_
        rw [h2]
        rintro e w1 ⟨rfl, rfl⟩
        go_wp2_with fail
        refine (c_endValid _ _ _).mono ?_
        rw [h3]
        rintro e w1 ⟨rfl, hq⟩
        have k1 := kb.to hq
        have j0 := k1.cell 0
        simp only [List.getElem?_toArray, List.getElem?_cons_zero] at j0
        clear kb
        go_wp2
      · go_ret
        exact ⟨ret_bool (by rw [vRec_stat hkl.out (by rw [HST.out, h1, h2, h3]; rfl)]), Bl.then HBB hq⟩
      · go_roundw
        case rel => exact ⟨k + 1, by omega, by go_num, by rw [pat_succ], upTo_succ hS.out (by rw [HST.out, h1, h2, h3]; rfl), Bl.then HBB hq⟩
        case measure => simp [intOf]; omega
    · obtain hkn : k = n := by omega
      subst hkn
      have HU : Hid (upTo l 10000 = k) := by
        rw [← HN.out]
        exact upTo_eq (Nat.le_refl _) (fun j hj => (stat_iff.1 (hS.out j (by rw [← HN.out]; exact hj))).1.2) (fun h => absurd h (Nat.lt_irrefl _))
      have HV : Hid (vRec l = (allUp (fit l) k && decide (k ≤ 16))) := by unfold vRec; rw [HN.out, allUp_true hS.out]; rfl
      have hpo : ∀ j, j < k → 0 ≤ (rn l j).po ∧ (rn l j).po ≤ 65535 := fun j hj => by
        have := (stat_iff.1 (hS.out j hj)).2.1
        omega
      have HPO := Lib.hid hpo
      clear hpo
      go_wp2_with fail
      refine (c_owners _ _ _ l 10000 _ HN.out (h.to HB.out) hl HPO.out).mono ?_
      rintro e w1 hq
      rcases hq with ⟨hf, g, rfl, hg, hM, hb⟩ | ⟨hf, rfl, hb⟩
      · rw [HU.out] at hf
        have HF := Lib.hid hf
        clear hf
        go_wp2
        go_ret
        refine ⟨ret_bool ?_, Bl.then HB.out hb⟩
        rw [HV.out, HF.out, Bool.true_and]
        simp
        try omega
      · rw [HU.out] at hf
        have HF := Lib.hid hf
        clear hf
        go_wp2
        go_ret
        exact ⟨ret_bool (by rw [HV.out, HF.out]; rfl), Bl.then HB.out hb⟩

/-- An end that may be had, and whether it is. -/
def whoV (o : Option (Int × Int)) : Value := match o with
  | some (x, y) => .tuple #[.agg #[.int .i64 x, .int .i64 y], .bool true]
  | none => .tuple #[.agg #[.int .i64 0, .int .i64 0], .bool false]
set_option maxHeartbeats 1600000 in
theorem c_iWhoHad (A : Option Addr) (n c : Nat) (l : List Rec) (p now : Int) (w : World) (hn : l.length = n) (h : RR w A l) (hl : n ≤ 1099511627776) (p1 : -9223372036854775808 ≤ p) (p2 : p ≤ 9223372036854775807) :
    Calls Try.prog 25 #[.slice A n c, .int .i64 p, .int .i64 now] w fun e w' => e = .returned (whoV (who l p now)) ∧ Below w.heap.size w w' := by
  have HN := Lib.hid hn
  clear hn
  have B0 : Below w.heap.size w (w.alloc (.cells #[.int .i64 0, .int .i64 0] 27)) := (Below.refl _ _).alloc (Nat.le_refl _) _
  have r0 := Blk.new w 27 #[.int .i64 0, .int .i64 0]
  go_enter Try.func25, Try.ntmps25
  go_wp2_with fail
  refine (c_iValidRecords _ _ _ l _ HN.out (h.to B0) hl).mono ?_
  rintro e w1 ⟨rfl, b⟩
  replace r0 := r0.to b
  have B := Bl.then B0 b
  have hlt := r0.lt
  clear b
  cases hv : vRec l
  · have HW : Hid (who l p now = none) := by unfold who; rw [hv]; rfl
    have y0 := r0.cell 0
    have y1 := r0.cell 1
    have f0 := r0.frozen 0
    have f1 := r0.frozen 1
    simp only [List.getElem?_toArray, List.getElem?_cons_zero, List.getElem?_cons_succ] at y0 y1
    go_wp2
    generalize hw4 : (World.setCell (World.setCell w1 { block := w.heap.size, off := 0 } (Value.int IntKind.i64 0)) { block := w.heap.size, off := 1 } (Value.int IntKind.i64 0)) = w4
    have z : Blk w4 w.heap.size 27 #[.int .i64 0, .int .i64 0] := by rw [← hw4]; exact (r0.set_ 0 _).set_ 1 _
    have B4 : Below w.heap.size w w4 := by rw [← hw4]; exact (B.setCell (Nat.le_refl _) _).setCell (Nat.le_refl _) _
    have z0 := z.cell 0
    have z1 := z.cell 1
    simp only [List.getElem?_toArray, List.getElem?_cons_zero, List.getElem?_cons_succ] at z0 z1
    refine bodyPost_ret (v := .tuple #[.agg #[.int .i64 0, .int .i64 0], .bool false]) (by simp [results, Try.results25, go_sem, z0, z1]) rfl ?_
    exact ⟨by rw [HW.out]; rfl, B4⟩
  · have hpo : ∀ j, j < n → 0 ≤ (rn l j).po ∧ (rn l j).po ≤ 65535 := fun j hj => by
      have := (stat_iff.1 ((vRec_iff.1 hv).1 j (by rw [HN.out]; exact hj))).2.1
      omega
    have HPO := Lib.hid hpo
    have HW : Hid (who l p now = ownP l p (upTo l now)) := by unfold who; rw [hv]; rfl
    have HF : Hid (allUp (fit l) (upTo l now) = true) := allUp_true (fun j hj => (vRec_iff.1 hv).2.1 j (by have := (upTo_spec l now).1; omega))
    clear hpo
    go_wp2_with fail
    refine (c_owners _ _ _ l now _ HN.out (h.to B) hl HPO.out).mono ?_
    rintro e w2 hq
    rcases hq with ⟨-, g, rfl, hg, hM, hb⟩ | ⟨hf, rfl, hb⟩
    · replace r0 := r0.to hb
      replace B := Bl.then B hb
      have hlt2 := r0.lt
      have hgne : w.heap.size ≠ w2.heap.size := by omega
      have hgne2 : w2.heap.size ≠ w.heap.size := by omega
      cases ho : ownP l p (upTo l now) with
      | none =>
        have HO := Lib.hid ho
        have y0 := r0.cell 0
        have y1 := r0.cell 1
        have f0 := r0.frozen 0
        have f1 := r0.frozen 1
        simp only [List.getElem?_toArray, List.getElem?_cons_zero, List.getElem?_cons_succ] at y0 y1
        go_wp2_with (at_lookup; refine wpList_look_none rfl _ _ rfl rfl hM _ rfl p1 p2 ho ?_)
        generalize hw4 : (World.alloc (World.setCell (World.setCell w2 { block := w.heap.size, off := 0 } (Value.int IntKind.i64 0)) { block := w.heap.size, off := 1 } (Value.int IntKind.i64 0)) (.cells #[.int .i64 0, .int .i64 0] 27)) = w4
        have z : Blk w4 w.heap.size 27 #[.int .i64 0, .int .i64 0] := by rw [← hw4]; exact ((r0.set_ 0 _).set_ 1 _).alloc _
        have B4 : Below w.heap.size w w4 := by rw [← hw4]; exact ((B.setCell (Nat.le_refl _) _).setCell (Nat.le_refl _) _).alloc (by simpa [World.setCell] using B.size) _
        have z0 := z.cell 0
        have z1 := z.cell 1
        simp only [List.getElem?_toArray, List.getElem?_cons_zero, List.getElem?_cons_succ] at z0 z1
        refine bodyPost_ret (v := .tuple #[.agg #[.int .i64 0, .int .i64 0], .bool false]) (by simp [results, Try.results25, go_sem, z0, z1]) rfl ?_
        exact ⟨by rw [HW.out, HO.out]; rfl, B4⟩
      | some xy =>
        obtain ⟨x, y⟩ := xy
        have HO := Lib.hid ho
        have y0 := r0.cell 0
        have y1 := r0.cell 1
        have f0 := r0.frozen 0
        have f1 := r0.frozen 1
        simp only [List.getElem?_toArray, List.getElem?_cons_zero, List.getElem?_cons_succ] at y0 y1
        go_wp2_with (at_lookup; refine wpList_look_some rfl _ _ rfl rfl hM _ rfl p1 p2 x y ho ?_)
        generalize hw4 : (World.alloc (World.setCell (World.setCell w2 { block := w.heap.size, off := 0 } (Value.int IntKind.i64 x)) { block := w.heap.size, off := 1 } (Value.int IntKind.i64 y)) (.cells #[.int .i64 x, .int .i64 y] 27)) = w4
        have z : Blk w4 w.heap.size 27 #[.int .i64 x, .int .i64 y] := by rw [← hw4]; exact ((r0.set_ 0 _).set_ 1 _).alloc _
        have B4 : Below w.heap.size w w4 := by rw [← hw4]; exact ((B.setCell (Nat.le_refl _) _).setCell (Nat.le_refl _) _).alloc (by simpa [World.setCell] using B.size) _
        have z0 := z.cell 0
        have z1 := z.cell 1
        simp only [List.getElem?_toArray, List.getElem?_cons_zero, List.getElem?_cons_succ] at z0 z1
        refine bodyPost_ret (v := .tuple #[.agg #[.int .i64 x, .int .i64 y], .bool true]) (by simp [results, Try.results25, go_sem, z0, z1]) rfl ?_
        exact ⟨by rw [HW.out, HO.out]; rfl, B4⟩
    · exact absurd (HF.out.symm.trans hf) (by decide)
end Go.Proofs.Ytaceadddggkkmaa
