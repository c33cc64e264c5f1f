/- The laws FnExactValidRecords and FnExactWhoHad as walks. -/
import Derived.Test.YtaceadddggkkmaaR7
namespace Go.Proofs.Ytaceadddggkkmaa
open Go.RowKit

set_option maxHeartbeats 1000000 in
theorem l_FnExactValidRecords (A : Option Addr) (n c : Nat) (l : List Rec) (w : World) (hn : l.length = n) (hm : n ≤ maxLen) (h : RR w A l) :
    Calls Try.prog 5 #[.slice A n c] w fun e w' => e = .returned (.bool true) ∧ Below w.heap.size w w' := by
  have HN := Lib.hid hn
  clear hn
  by_cases hbig : 1048576 - (n : Int) < 0
  · go_enter Try.func5, Try.ntmps5
    go_wp2_with fail
    refine (c_szRecordS _ _ _ _ _ (by omega) (by omega) hm).mono ?_
    rw [if_pos hbig]
    rintro e w' ⟨rfl, rfl⟩
    go_wp2
    go_ret
    exact ⟨rfl, Below.refl _ _⟩
  have t0 : decide (1048576 - (n : Int) < 0) = false := by rw [decide_eq_false_iff_not]; exact hbig
  have hl : n ≤ 1099511627776 := by omega
  have B := Below.refl w.heap.size w
  go_enter Try.func5, Try.ntmps5
  go_wp2_with fail
  refine (c_szRecordS _ _ _ _ _ (by omega) (by omega) hm).mono ?_
  rw [if_neg (by omega)]
  rintro e w' ⟨rfl, rfl⟩
  go_wp2_with fail
  refine (c_toRecordS _ _ _ l _ HN.out (h.to B) hl).mono ?_
  rintro e v1 ⟨A1, n1, d1, rfl, e1, O1, b⟩
  replace B := Bl.then B b
  clear b
  go_wp2_with fail
  refine (c_sValidRecords _ _ _ l _ e1 O1.1 (by rw [← e1, HN.out]; exact hl)).mono ?_
  rintro e v2 ⟨rfl, b⟩
  replace B := Bl.then B b
  clear b O1 e1
  go_wp2_with fail
  refine (c_toRecordS _ _ _ l _ HN.out (h.to B) hl).mono ?_
  rintro e v3 ⟨A3, n3, d3, rfl, e3, O3, b⟩
  replace B := Bl.then B b
  clear b
  go_wp2_with fail
  refine (c_iValidRecords _ _ _ l _ e3 O3.1 (by rw [← e3, HN.out]; exact hl)).mono ?_
  rintro e v4 ⟨rfl, b⟩
  replace B := Bl.then B b
  replace O3 := O3.to b
  clear b
  have tb : (vRec l != vRec l) = false := by simp
  go_wp2_with fail
  refine (c_toRecordS _ _ _ l _ HN.out (h.to B) hl).mono ?_
  rintro e v5 ⟨A5, n5, d5, rfl, e5, O5, b⟩
  replace B := Bl.then B b
  replace O3 := O3.to b
  clear b
  obtain rfl : n3 = n5 := by omega
  go_wp2_with fail
  refine (c_eqRecordS _ _ _ _ _ l _ e3 O3.1 O5.1 (by rw [← e3, HN.out]; exact hl)).mono ?_
  rintro e v6 ⟨rfl, b⟩
  replace B := Bl.then B b
  go_wp2
  go_ret
  exact ⟨rfl, B⟩

set_option maxHeartbeats 1000000 in
theorem l_FnExactWhoHad (A : Option Addr) (n c : Nat) (l : List Rec) (p now : Int) (w : World) (hn : l.length = n) (hm : n ≤ maxLen) (h : RR w A l)
    (hp : -9223372036854775808 ≤ p ∧ p ≤ 9223372036854775807) (_ : -9223372036854775808 ≤ now ∧ now ≤ 9223372036854775807) :
    Calls Try.prog 9 #[.slice A n c, .int .i64 p, .int .i64 now] w fun e w' => e = .returned (.bool true) ∧ Below w.heap.size w w' := by
  have HN := Lib.hid hn
  clear hn
  by_cases hbig : 1048576 - (n : Int) < 0
  · go_enter Try.func9, Try.ntmps9
    go_wp2_with fail
    refine (c_szRecordS _ _ _ _ _ (by omega) (by omega) hm).mono ?_
    rw [if_pos hbig]
    rintro e w' ⟨rfl, rfl⟩
    go_wp2
    go_ret
    exact ⟨rfl, Below.refl _ _⟩
  have t0 : decide (1048576 - (n : Int) < 0) = false := by rw [decide_eq_false_iff_not]; exact hbig
  have hl : n ≤ 1099511627776 := by omega
  cases hw : who l p now with
  | none =>
    have HW := Lib.hid hw
    clear hw
    have B := Below.refl w.heap.size w
    go_enter Try.func9, Try.ntmps9
    go_wp2_with fail
    refine (c_szRecordS _ _ _ _ _ (by omega) (by omega) hm).mono ?_
    rw [if_neg (by omega)]
    rintro e w' ⟨rfl, rfl⟩
    go_wp2_with fail
    refine (c_toRecordS _ _ _ l _ HN.out (h.to B) hl).mono ?_
    rintro e v1 ⟨A1, n1, d1, rfl, e1, O1, b⟩
    replace B := Bl.then B b
    clear b
    go_wp2_with fail
    refine (c_sWhoHad _ _ _ l p now _ e1 O1.1 (by rw [← e1, HN.out]; exact hl)).mono ?_
    rw [HW.out]
    simp only [whoV]
    rintro e v2 ⟨rfl, b⟩
    replace B := Bl.then B b
    clear b O1 e1
    have k1 := Blk.new v2 27 #[.int .i64 0, .int .i64 0]
    replace B : Below w.heap.size w (v2.alloc (.cells #[.int .i64 0, .int .i64 0] 27)) := B.alloc B.size _
    go_wp2_with fail
    refine (c_toRecordS _ _ _ l _ HN.out (h.to B) hl).mono ?_
    rintro e v3 ⟨A3, n3, d3, rfl, e3, O3, b⟩
    replace B := Bl.then B b
    replace k1 := k1.to b
    clear b
    go_wp2_with fail
    refine (c_iWhoHad _ _ _ l p now _ e3 O3.1 (by rw [← e3, HN.out]; exact hl) hp.1 hp.2).mono ?_
    rw [HW.out]
    simp only [whoV]
    rintro e v4 ⟨rfl, b⟩
    replace B := Bl.then B b
    replace O3 := O3.to b
    replace k1 := (k1.to b).alloc (.cells #[.int .i64 0, .int .i64 0] 27)
    clear b
    have k2 := Blk.new v4 27 #[.int .i64 0, .int .i64 0]
    replace B : Below w.heap.size w (v4.alloc (.cells #[.int .i64 0, .int .i64 0] 27)) := B.alloc B.size _
    replace O3 : OR (v4.alloc (.cells #[.int .i64 0, .int .i64 0] 27)) _ _ A3 n3 d3 l := O3.to ((Below.refl _ _).alloc (Nat.le_refl _) _)
    have y0 := k1.cell 0
    have y1 := k1.cell 1
    simp only [List.getElem?_toArray, List.getElem?_cons_zero, List.getElem?_cons_succ] at y0 y1
    clear k1 k2
    go_wp2_with fail
    refine (c_eqEnd _ _ _).mono ?_
    rintro e v5 ⟨rfl, b⟩
    replace B := Bl.then B b
    replace O3 := O3.to b
    clear b y0 y1
    go_wp2_with fail
    refine (c_toRecordS _ _ _ l _ HN.out (h.to B) hl).mono ?_
    rintro e v6 ⟨A6, n6, d6, rfl, e6, O6, b⟩
    replace B := Bl.then B b
    replace O3 := O3.to b
    clear b
    obtain rfl : n3 = n6 := by omega
    go_wp2_with fail
    refine (c_eqRecordS _ _ _ _ _ l _ e3 O3.1 O6.1 (by rw [← e3, HN.out]; exact hl)).mono ?_
    rintro e v7 ⟨rfl, b⟩
    replace B := Bl.then B b
    go_wp2
    go_ret
    exact ⟨rfl, B⟩
  | some xy =>
    obtain ⟨x, y⟩ := xy
    have HW := Lib.hid hw
    clear hw
    have B := Below.refl w.heap.size w
    go_enter Try.func9, Try.ntmps9
    go_wp2_with fail
    refine (c_szRecordS _ _ _ _ _ (by omega) (by omega) hm).mono ?_
    rw [if_neg (by omega)]
    rintro e w' ⟨rfl, rfl⟩
    go_wp2_with fail
    refine (c_toRecordS _ _ _ l _ HN.out (h.to B) hl).mono ?_
    rintro e v1 ⟨A1, n1, d1, rfl, e1, O1, b⟩
    replace B := Bl.then B b
    clear b
    go_wp2_with fail
    refine (c_sWhoHad _ _ _ l p now _ e1 O1.1 (by rw [← e1, HN.out]; exact hl)).mono ?_
    rw [HW.out]
    simp only [whoV]
    rintro e v2 ⟨rfl, b⟩
    replace B := Bl.then B b
    clear b O1 e1
    have k1 := Blk.new v2 27 #[.int .i64 x, .int .i64 y]
    replace B : Below w.heap.size w (v2.alloc (.cells #[.int .i64 x, .int .i64 y] 27)) := B.alloc B.size _
    go_wp2_with fail
    refine (c_toRecordS _ _ _ l _ HN.out (h.to B) hl).mono ?_
    rintro e v3 ⟨A3, n3, d3, rfl, e3, O3, b⟩
    replace B := Bl.then B b
    replace k1 := k1.to b
    clear b
    go_wp2_with fail
    refine (c_iWhoHad _ _ _ l p now _ e3 O3.1 (by rw [← e3, HN.out]; exact hl) hp.1 hp.2).mono ?_
    rw [HW.out]
    simp only [whoV]
    rintro e v4 ⟨rfl, b⟩
    replace B := Bl.then B b
    replace O3 := O3.to b
    replace k1 := (k1.to b).alloc (.cells #[.int .i64 x, .int .i64 y] 27)
    clear b
    have k2 := Blk.new v4 27 #[.int .i64 x, .int .i64 y]
    replace B : Below w.heap.size w (v4.alloc (.cells #[.int .i64 x, .int .i64 y] 27)) := B.alloc B.size _
    replace O3 : OR (v4.alloc (.cells #[.int .i64 x, .int .i64 y] 27)) _ _ A3 n3 d3 l := O3.to ((Below.refl _ _).alloc (Nat.le_refl _) _)
    have y0 := k1.cell 0
    have y1 := k1.cell 1
    simp only [List.getElem?_toArray, List.getElem?_cons_zero, List.getElem?_cons_succ] at y0 y1
    clear k1 k2
    go_wp2_with fail
    refine (c_eqEnd _ _ _).mono ?_
    rintro e v5 ⟨rfl, b⟩
    replace B := Bl.then B b
    replace O3 := O3.to b
    clear b y0 y1
    go_wp2_with fail
    refine (c_toRecordS _ _ _ l _ HN.out (h.to B) hl).mono ?_
    rintro e v6 ⟨A6, n6, d6, rfl, e6, O6, b⟩
    replace B := Bl.then B b
    replace O3 := O3.to b
    clear b
    obtain rfl : n3 = n6 := by omega
    go_wp2_with fail
    refine (c_eqRecordS _ _ _ _ _ l _ e3 O3.1 O6.1 (by rw [← e3, HN.out]; exact hl)).mono ?_
    rintro e v7 ⟨rfl, b⟩
    replace B := Bl.then B b
    go_wp2
    go_ret
    exact ⟨rfl, B⟩
end Go.Proofs.Ytaceadddggkkmaa
