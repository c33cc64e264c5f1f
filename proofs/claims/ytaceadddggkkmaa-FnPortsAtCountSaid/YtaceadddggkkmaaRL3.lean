/- The walk of the law FnWhoHad. -/
import Derived.Test.YtaceadddggkkmaaRG3
namespace Go.Proofs.Ytaceadddggkkmaa
open Go.RowKit

theorem whoV_form (o : Option (Int × Int)) : whoV o = .tuple #[.agg #[.int .i64 (o.getD (0, 0)).1, .int .i64 (o.getD (0, 0)).2], .bool o.isSome] := by
  rcases o with _ | ⟨a, b⟩ <;> rfl
theorem whoV_ex (o : Option (Int × Int)) : ∃ x y t, Hid (whoV o = .tuple #[.agg #[.int .i64 x, .int .i64 y], .bool t]) := ⟨_, _, _, whoV_form o⟩

set_option maxHeartbeats 1600000 in
theorem l_FnWhoHad (A : Option Addr) (n c : Nat) (w : World) (h : RB w A n) (hc : n ≤ c) :
    Calls Try.prog 6 #[.slice A n c] w fun e w' => e = .returned (.bool true) ∧ Below w.heap.size w w' := by
  by_cases hbig : 1048576 < n
  · go_enter Try.func6, Try.ntmps6
    go_wp2
    go_ret
    exact ⟨rfl, Below.refl _ _⟩
  have hneq := neq_end
  have heql := eql_end
  have hgd := guard_end
  go_enter Try.func6, Try.ntmps6
  go_wp2_with fail
  refine (c_DrawWhoHad _ _ _ _ h hc).mono ?_
  rintro e w1 ⟨D, m, d, l, po, now, rfl, hl, hd, hR, hm, hp, ht, B⟩
  have HL := Lib.hid hl
  clear hl h
  obtain ⟨x, y, t, HX⟩ := whoV_ex (who l po now)
  go_wp2_with fail
  refine (c_iWhoHad _ _ _ l po now _ HL.out hR (by omega) (by omega) (by omega)).mono ?_
  rw [HX.out]
  rintro e w2 ⟨rfl, b⟩
  have k1 := Blk.new w2 27 #[.int .i64 x, .int .i64 y]
  replace hR := (hR.to b).alloc (.cells #[.int .i64 x, .int .i64 y] 27)
  replace B : Below w.heap.size w (w2.alloc (.cells #[.int .i64 x, .int .i64 y] 27)) := (Bl.then B b).alloc (Bl.then B b).size _
  clear b
  go_wp2_with fail
  refine (c_sWhoHad _ _ _ l po now _ HL.out hR (by omega)).mono ?_
  rw [HX.out]
  rintro e w3 ⟨rfl, b⟩
  have k2 := Blk.new w3 27 #[.int .i64 x, .int .i64 y]
  replace k1 := (k1.to b).alloc (.cells #[.int .i64 x, .int .i64 y] 27)
  replace hR := (hR.to b).alloc (.cells #[.int .i64 x, .int .i64 y] 27)
  replace B : Below w.heap.size w (w3.alloc (.cells #[.int .i64 x, .int .i64 y] 27)) := (Bl.then B b).alloc (Bl.then B b).size _
  clear b
  have he : eqE x y x y = true := eqE_true ⟨rfl, rfl⟩
  have tt : (t != t) = false := by simp
  have y0 := k1.cell 0
  have y1 := k1.cell 1
  have z0 := k2.cell 0
  have z1 := k2.cell 1
  simp only [List.getElem?_toArray, List.getElem?_cons_zero, List.getElem?_cons_succ] at y0 y1 z0 z1
  go_wp2_with fail
  refine (c_iValidRecords _ _ _ l _ HL.out hR (by omega)).mono ?_
  rintro e w4 ⟨rfl, b⟩
  replace k1 := k1.to b
  replace k2 := k2.to b
  replace hR := hR.to b
  replace B := Bl.then B b
  clear b y0 y1 z0 z1
  have y0 := k1.cell 0
  have y1 := k1.cell 1
  have z0 := k2.cell 0
  have z1 := k2.cell 1
  simp only [List.getElem?_toArray, List.getElem?_cons_zero, List.getElem?_cons_succ] at y0 y1 z0 z1
  cases hv : vRec l
  · clear hv
    go_wp2
    go_ret
    exact ⟨ret_bool (by simp), B⟩
  have HV := Lib.hid hv
  clear hv
  by_cases h0 : m = 0
  · subst h0
    go_wp2
    go_ret
    exact ⟨ret_bool (by simp), B⟩
  obtain ⟨j, rfl⟩ : ∃ j, m = j + 1 := ⟨m - 1, by omega⟩
  have hwl := who_last HV.out (by rw [HL.out]; omega)
  rw [HL.out, Nat.add_sub_cancel] at hwl
  have hjl : Hid (j < l.length) := Lib.hid (by rw [HL.out]; omega)
  have hst := (stat_iff.1 ((vRec_iff.1 HV.out).1 j hjl.out)).2.1
  obtain ⟨b0, off, rfl, hb0, c0, c1, c2, c3, c4⟩ := hR.get hjl.out
  generalize rn l j = r at hwl hst c0 c1 c2 c3 c4
  have HW := Lib.hid hwl
  clear hwl y0 y1 z0 z1 tt he k1 k2
  have e1 : IntKind.i64.wrap (j : Int) = j := IntWalk.i64_in _ (by omega)
  have e2 : 0 ≤ (j : Int) ∧ (j : Int) < j + 1 := by omega
  have k3 := Blk.new w4 29 #[.int .i64 r.at_, .int .i64 r.po, .int .i64 r.ad, .int .i64 r.ep, .bool r.ov]
  have y0 := k3.cell 0
  have y1 := k3.cell 1
  have y2 := k3.cell 2
  have y3 := k3.cell 3
  have y4 := k3.cell 4
  simp only [List.getElem?_toArray, List.getElem?_cons_zero, List.getElem?_cons_succ] at y0 y1 y2 y3 y4
  replace hR := hR.alloc (.cells #[.int .i64 r.at_, .int .i64 r.po, .int .i64 r.ad, .int .i64 r.ep, .bool r.ov] 29)
  replace B : Below w.heap.size w (w4.alloc (.cells #[.int .i64 r.at_, .int .i64 r.po, .int .i64 r.ad, .int .i64 r.ep, .bool r.ov] 29)) := B.alloc B.size _
  go_wp2_with fail
  refine (c_iWhoHad _ _ _ l r.po r.at_ _ HL.out hR (by omega) (by omega) (by omega)).mono ?_
  rw [HW.out]
  clear y0 y1 y2 y3 y4 c0 c1 c2 c3 c4
  cases ho : r.ov
  · rw [ho] at B k3
    simp only [Bool.false_eq_true, if_false, whoV]
    rintro e w5 ⟨rfl, b⟩
    have he : eqE r.ad r.ep r.ad r.ep = true := eqE_true ⟨rfl, rfl⟩
    replace B : Below w.heap.size w (w5.alloc (.cells #[.int .i64 r.ad, .int .i64 r.ep] 27)) := (Bl.then B b).alloc (Bl.then B b).size _
    have k4 := Blk.new w5 27 #[.int .i64 r.ad, .int .i64 r.ep]
    replace k3 := (k3.to b).alloc (.cells #[.int .i64 r.ad, .int .i64 r.ep] 27)
    have y2 := k3.cell 2
    have y3 := k3.cell 3
    have y4 := k3.cell 4
    have z0 := k4.cell 0
    have z1 := k4.cell 1
    simp only [List.getElem?_toArray, List.getElem?_cons_zero, List.getElem?_cons_succ] at y2 y3 y4 z0 z1
    clear b
    go_wp2
    go_ret
    exact ⟨rfl, B⟩
  · rw [ho] at B k3
    simp only [if_true, whoV]
    rintro e w5 ⟨rfl, b⟩
    replace B : Below w.heap.size w (w5.alloc (.cells #[.int .i64 0, .int .i64 0] 27)) := (Bl.then B b).alloc (Bl.then B b).size _
    replace k3 := (k3.to b).alloc (.cells #[.int .i64 0, .int .i64 0] 27)
    have y4 := k3.cell 4
    simp only [List.getElem?_toArray, List.getElem?_cons_zero, List.getElem?_cons_succ] at y4
    clear b
    go_wp2
    go_ret
    exact ⟨rfl, B⟩
end Go.Proofs.Ytaceadddggkkmaa
