/- The walks of the laws FnExactParseEnd, FnExactParseNet, FnEndRoundTrip, FnNetRoundTrip, FnEndCanonical, FnNetCanonical. -/
import Derived.Test.YthlaldikdlljfaaDoorSW
import Derived.Test.YthlaldikdlljfaaDoorS11
import Derived.Test.YthlaldikdlljfaaDoorS9
import Derived.Test.YthlaldikdlljfaaDoorRE
import Derived.Test.YthlaldikdlljfaaDoorR6
import Derived.Test.YthlaldikdlljfaaDoorSL2
namespace Go.Proofs.YthlaldikdlljfaaDoor
open Go.RowKit

theorem equalIn_net (W : World) (a b c d : Int) : (Op.equalIn 10000 31 (.agg #[.int .i64 a, .int .i64 b]) (.agg #[.int .i64 c, .int .i64 d])).run Tryd.prog W = .ok (eqE a b c d) W := by
  have hp : Tryd.prog.stoodInHeld 31 = false := by kernel_rfl
  have hf : Tryd.prog.underlying 31 = some (.struct (Tryd.prog.fieldsOf 31)) := by kernel_rfl
  have hi := fun d (W : World) (a b : Int) => run_equalIn_int (P := Tryd.prog) W d 3 .i64 .i64 a b Tryd.underlying3
  rw [show (10000 : Nat) = 9998 + 1 + 1 from rfl, run_equalIn_agg W _ _ _ _ hf hp]
  unfold Program.fieldsOf
  rw [Tryd.underlying31]
  unfold eqE
  cases h1 : a == c
  · simp [Op.eqFields, hi, go_sem, h1]
  · simp [Op.eqFields, hi, go_sem, h1]
    by_cases h2 : b = d <;> simp [h2]
theorem eql_net (W : World) (a b c d : Int) : (binOp .eql 31 (.agg #[.int .i64 a, .int .i64 b]) (.agg #[.int .i64 c, .int .i64 d])).run Tryd.prog W = .ok (.bool (eqE a b c d)) W := by
  rw [run_eql_struct, equalIn_net]; rfl
theorem neq_net (W : World) (a b c d : Int) : (binOp .neq 31 (.agg #[.int .i64 a, .int .i64 b]) (.agg #[.int .i64 c, .int .i64 d])).run Tryd.prog W = .ok (.bool (!eqE a b c d)) W := by
  rw [run_neq_struct, equalIn_net]; rfl
theorem guard_net (W : World) (op : BinOp) (x y : Operand) (xs ys : Array Value) : (eqGuard op 31 x y (.agg xs) (.agg ys)).run Tryd.prog W = .ok () W := run_eqGuard_agg W op _ x y xs ys (by kernel_rfl)
theorem c_eqNet (x y : Int) (w : World) : Calls Tryd.prog 34 #[.agg #[.int .i64 x, .int .i64 y], .agg #[.int .i64 x, .int .i64 y]] w fun e w' => e = .returned (.bool true) ∧ Below w.heap.size w w' := by
  have t1 : (x != x) = false := by simp
  have t2 : (y != y) = false := by simp
  go_enter Tryd.func34, Tryd.ntmps34
  go_wp2
  go_ret
  exact ⟨rfl, ((Below.refl _ _).alloc (Nat.le_refl _) _).alloc (by simp) _⟩
theorem parV_form (D : Option (Int × Int)) : ∃ a n b, Hid (parV D = .tuple #[.agg #[.int .i64 a, .int .i64 n], .bool b]) := by
  cases D with
  | none => exact ⟨0, 0, false, rfl⟩
  | some p => exact ⟨p.1, p.2, true, rfl⟩
theorem lawWord (n : Int) (w : World) (h1 : 0 ≤ n) (h2 : n ≤ 65535) : Calls Tryd.prog 40 #[.int .i64 n] w fun e w' => e = .returned (.bool true) ∧ w = w' := by
  have d1 : decide (0 ≤ n) = true := by rw [decide_eq_true_eq]; exact h1
  have d2 : decide (n ≤ 65535) = true := by rw [decide_eq_true_eq]; exact h2
  go_enter Tryd.func40, Tryd.ntmps40
  go_wp2
  go_ret
  exact ⟨rfl, rfl⟩

set_option maxHeartbeats 1600000 in
theorem l_FnExactParseEnd (s : ByteArray) (w : World) (hs : s.size ≤ maxLen) (hE : EnvP w) : Calls Tryd.prog 13 #[.string s] w fun e w' => e = .returned (.bool true) ∧ Below w.heap.size w w' := by
  have hm : maxLen = 9223372036854775807 := rfl
  by_cases hbig : 1048576 < s.size
  · go_enter Tryd.func13, Tryd.ntmps13
    go_wp2
    go_ret
    exact ⟨rfl, Below.refl _ _⟩
  obtain ⟨a, n, b, HD⟩ := parV_form (parE s.data.toList)
  have tt : (b != b) = false := by simp
  have B := Below.refl w.heap.size w
  go_enter Tryd.func13, Tryd.ntmps13
  go_wp2_with fail
  refine (c_sParseEnd s _ (by omega)).mono ?_
  rw [HD.out]
  rintro e w1 ⟨rfl, hq⟩
  have k0 := Blk.new w1 25 #[.int .i64 a, .int .i64 n]
  replace B := (Bl.then B hq).alloc (Bl.then B hq).size (.cells #[.int .i64 a, .int .i64 n] 25)
  clear hq
  go_wp2_with fail
  refine (c_iParseEnd s _ (by omega) (hE.to B)).mono ?_
  rw [HD.out]
  rintro e w2 ⟨rfl, hq⟩
  replace k0 := (k0.to hq).alloc (.cells #[.int .i64 a, .int .i64 n] 25)
  have k1 := Blk.new w2 25 #[.int .i64 a, .int .i64 n]
  replace B := (Bl.then B hq).alloc (Bl.then B hq).size (.cells #[.int .i64 a, .int .i64 n] 25)
  clear hq
  have y0 := k0.cell 0
  have y1 := k0.cell 1
  have z0 := k1.cell 0
  have z1 := k1.cell 1
  simp only [List.getElem?_toArray, List.getElem?_cons_zero, List.getElem?_cons_succ] at y0 y1 z0 z1
  have hlt := k0.lt
  go_wp2_with fail
  refine (c_eqEnd _ _ _).mono ?_
  rintro e w3 ⟨rfl, hq⟩
  replace B := Bl.then B hq
  clear hq
  go_wp2
  go_ret
  exact ⟨rfl, B⟩

set_option maxHeartbeats 1600000 in
theorem l_FnEndRoundTrip (A : Option Addr) (n c : Nat) (w : World) (h : RB w A n) (hc : n ≤ c) (hE : EnvP w) : Calls Tryd.prog 10 #[.slice A n c] w fun e w' => e = .returned (.bool true) ∧ Below w.heap.size w w' := by
  by_cases hbig : 1048576 < n
  · go_enter Tryd.func10, Tryd.ntmps10
    go_wp2
    go_ret
    exact ⟨rfl, Below.refl _ _⟩
  have heql := eql_end
  have hgd := guard_end
  go_enter Tryd.func10, Tryd.ntmps10
  go_wp2_with fail
  refine (c_DrawFormatEnd _ _ _ _ h hc).mono ?_
  rintro e w1 ⟨x, y, rfl, B⟩
  have k0 := Blk.new w1 25 #[.int .i64 x, .int .i64 y]
  replace B := B.alloc B.size (.cells #[.int .i64 x, .int .i64 y] 25)
  go_wp2_with fail
  refine (c_iFormatEnd x y _ (hE.tab.to B)).mono ?_
  rintro e w2 ⟨rfl, hq⟩
  replace k0 := k0.to hq
  replace B := Bl.then B hq
  clear hq h
  have y0 := k0.cell 0
  have y1 := k0.cell 1
  have hlt := k0.lt
  simp only [List.getElem?_toArray, List.getElem?_cons_zero, List.getElem?_cons_succ] at y0 y1
  cases hv : inB x 0 65535 && inB y 0 65535
  · have HV : Hid (fmtEnd x y = ⟨#[]⟩) := by unfold fmtEnd; rw [hv]; rfl
    clear hv
    go_wp2_with fail
    refine (c_sFormatEnd x y _).mono ?_
    rw [HV.out]
    rintro e w3 ⟨rfl, hq⟩
    replace k0 := k0.to hq
    replace B := Bl.then B hq
    clear hq y0 y1 hlt
    have y0 := k0.cell 0
    have y1 := k0.cell 1
    have hlt := k0.lt
    simp only [List.getElem?_toArray, List.getElem?_cons_zero, List.getElem?_cons_succ] at y0 y1
    go_wp2_with fail
    refine (c_sFormatEnd x y _).mono ?_
    rw [HV.out]
    rintro e w4 ⟨rfl, hq⟩
    replace B := Bl.then B hq
    clear hq
    go_wp2
    go_ret
    exact ⟨rfl, B⟩
  · have HV : Hid (fmtEnd x y = fmtE x y) := by unfold fmtEnd; rw [hv]; rfl
    have hp := parE_fmt hv
    have hz : (fmtEnd x y).size ≤ 70000 := by have h0 := hv; simp only [Bool.and_eq_true] at h0; exact fmtEnd_size (inB_true h0.1).1 (inB_true h0.1).2 (inB_true h0.2).1 (inB_true h0.2).2
    have hpos : 0 < (fmtE x y).size := by have := fmtE_size x y; omega
    rw [HV.out] at hz
    clear hv
    rw [HV.out]
    generalize fmtE x y = s at hp hz hpos HV
    have HP : Hid (parV (parE s.data.toList) = .tuple #[.agg #[.int .i64 x, .int .i64 y], .bool true]) := by rw [Hid, hp]; rfl
    clear hp
    go_wp2_with fail
    refine (c_sFormatEnd x y _).mono ?_
    rw [HV.out]
    rintro e w3 ⟨rfl, hq⟩
    replace k0 := k0.to hq
    replace B := Bl.then B hq
    clear hq y0 y1 hlt
    have hne := ne_empty (s := s) hpos
    go_wp2_with fail
    refine (c_iParseEnd s _ (by omega) (hE.to B)).mono ?_
    rw [HP.out]
    rintro e w4 ⟨rfl, hq⟩
    have k1 := Blk.new w4 25 #[.int .i64 x, .int .i64 y]
    replace k0 := (k0.to hq).alloc (.cells #[.int .i64 x, .int .i64 y] 25)
    replace B := (Bl.then B hq).alloc (Bl.then B hq).size (.cells #[.int .i64 x, .int .i64 y] 25)
    clear hq
    have y0 := k0.cell 0
    have y1 := k0.cell 1
    have z0 := k1.cell 0
    have z1 := k1.cell 1
    simp only [List.getElem?_toArray, List.getElem?_cons_zero, List.getElem?_cons_succ] at y0 y1 z0 z1
    have hlt := k0.lt
    have he : eqE x y x y = true := eqE_true ⟨rfl, rfl⟩
    go_wp2
    go_ret
    exact ⟨rfl, B⟩

set_option maxHeartbeats 1600000 in
theorem l_FnEndCanonical (A : Option Addr) (m c : Nat) (w : World) (h : RB w A m) (hc : m ≤ c) (hE : EnvP w) : Calls Tryd.prog 15 #[.slice A m c] w fun e w' => e = .returned (.bool true) ∧ Below w.heap.size w w' := by
  by_cases hbig : 1048576 < m
  · go_enter Tryd.func15, Tryd.ntmps15
    go_wp2
    go_ret
    exact ⟨rfl, Below.refl _ _⟩
  have hneq := neq_end
  have hgd := guard_end
  go_enter Tryd.func15, Tryd.ntmps15
  go_wp2_with fail
  refine (c_DrawParseEnd _ _ _ _ h hc).mono ?_
  rintro e w1 ⟨s, rfl, hz, B⟩
  clear h
  have hf := fun a n => @parE_text s a n
  cases hD : parE s.data.toList with
  | none =>
    have HD : Hid (parV (parE s.data.toList) = .tuple #[.agg #[.int .i64 0, .int .i64 0], .bool false]) := by rw [Hid, hD]; rfl
    have he : eqE 0 0 0 0 = true := eqE_true ⟨rfl, rfl⟩
    clear hf hD
    go_wp2_with fail
    refine (c_iParseEnd s _ (by omega) (hE.to B)).mono ?_
    rw [HD.out]
    rintro e w2 ⟨rfl, hq⟩
    have k0 := Blk.new w2 25 #[.int .i64 0, .int .i64 0]
    replace B := (Bl.then B hq).alloc (Bl.then B hq).size (.cells #[.int .i64 0, .int .i64 0] 25)
    clear hq
    go_wp2_with fail
    refine (c_sParseEnd s _ (by omega)).mono ?_
    rw [HD.out]
    rintro e w3 ⟨rfl, hq⟩
    replace k0 := (k0.to hq).alloc (.cells #[.int .i64 0, .int .i64 0] 25)
    have k1 := Blk.new w3 25 #[.int .i64 0, .int .i64 0]
    replace B := (Bl.then B hq).alloc (Bl.then B hq).size (.cells #[.int .i64 0, .int .i64 0] 25)
    clear hq
    have y0 := k0.cell 0
    have y1 := k0.cell 1
    have z0 := k1.cell 0
    have z1 := k1.cell 1
    simp only [List.getElem?_toArray, List.getElem?_cons_zero, List.getElem?_cons_succ] at y0 y1 z0 z1
    have hlt := k0.lt
    go_wp2
    go_ret
    exact ⟨rfl, B⟩
  | some p =>
    obtain ⟨a, n⟩ := p
    have HD : Hid (parV (parE s.data.toList) = .tuple #[.agg #[.int .i64 a, .int .i64 n], .bool true]) := by rw [Hid, hD]; rfl
    have he : eqE a n a n = true := eqE_true ⟨rfl, rfl⟩
    obtain ⟨hv, hft⟩ := hf a n hD
    have HF := Lib.hid hft
    have HV := Lib.hid hv
    clear hf hD hft hv
    have tt : (s.toList == s.toList) = true := by simp
    go_wp2_with fail
    refine (c_iParseEnd s _ (by omega) (hE.to B)).mono ?_
    rw [HD.out]
    rintro e w2 ⟨rfl, hq⟩
    have k0 := Blk.new w2 25 #[.int .i64 a, .int .i64 n]
    replace B := (Bl.then B hq).alloc (Bl.then B hq).size (.cells #[.int .i64 a, .int .i64 n] 25)
    clear hq
    go_wp2_with fail
    refine (c_sParseEnd s _ (by omega)).mono ?_
    rw [HD.out]
    rintro e w3 ⟨rfl, hq⟩
    replace k0 := (k0.to hq).alloc (.cells #[.int .i64 a, .int .i64 n] 25)
    have k1 := Blk.new w3 25 #[.int .i64 a, .int .i64 n]
    replace B := (Bl.then B hq).alloc (Bl.then B hq).size (.cells #[.int .i64 a, .int .i64 n] 25)
    clear hq
    have y0 := k0.cell 0
    have y1 := k0.cell 1
    have z0 := k1.cell 0
    have z1 := k1.cell 1
    simp only [List.getElem?_toArray, List.getElem?_cons_zero, List.getElem?_cons_succ] at y0 y1 z0 z1
    have hlt := k0.lt
    go_wp2_with fail
    refine (c_iFormatEnd a n _ (hE.tab.to B)).mono ?_
    rw [HF.out]
    rintro e w4 ⟨rfl, hq⟩
    replace k0 := k0.to hq
    replace B := Bl.then B hq
    clear hq y0 y1 z0 z1 hlt
    have y0 := k0.cell 0
    have y1 := k0.cell 1
    simp only [List.getElem?_toArray, List.getElem?_cons_zero, List.getElem?_cons_succ] at y0 y1
    have hlt := k0.lt
    have hV := HV.out
    simp only [Bool.and_eq_true] at hV
    have a1 := inB_true hV.1
    have a2 := inB_true hV.2
    clear hV
    go_wp2_with fail
    refine (lawWord _ _ a1.1 a1.2).mono ?_
    rintro e w5 ⟨rfl, rfl⟩
    go_wp2_with fail
    refine (lawWord _ _ a2.1 a2.2).mono ?_
    rintro e w6 ⟨rfl, rfl⟩
    go_wp2
    go_ret
    exact ⟨rfl, B⟩

set_option maxHeartbeats 1600000 in
theorem l_FnExactParseNet (s : ByteArray) (w : World) (hs : s.size ≤ maxLen) (hE : EnvP w) : Calls Tryd.prog 12 #[.string s] w fun e w' => e = .returned (.bool true) ∧ Below w.heap.size w w' := by
  have hm : maxLen = 9223372036854775807 := rfl
  by_cases hbig : 1048576 < s.size
  · go_enter Tryd.func12, Tryd.ntmps12
    go_wp2
    go_ret
    exact ⟨rfl, Below.refl _ _⟩
  obtain ⟨a, n, b, HD⟩ := parV_form (parN s.data.toList)
  have tt : (b != b) = false := by simp
  have B := Below.refl w.heap.size w
  go_enter Tryd.func12, Tryd.ntmps12
  go_wp2_with fail
  refine (c_sNet s _ (by omega)).mono ?_
  rw [HD.out]
  rintro e w1 ⟨rfl, hq⟩
  have k0 := Blk.new w1 31 #[.int .i64 a, .int .i64 n]
  replace B := (Bl.then B hq).alloc (Bl.then B hq).size (.cells #[.int .i64 a, .int .i64 n] 31)
  clear hq
  go_wp2_with fail
  refine (c_iParseNet s _ (by omega) (hE.to B)).mono ?_
  rw [HD.out]
  rintro e w2 ⟨rfl, hq⟩
  replace k0 := (k0.to hq).alloc (.cells #[.int .i64 a, .int .i64 n] 31)
  have k1 := Blk.new w2 31 #[.int .i64 a, .int .i64 n]
  replace B := (Bl.then B hq).alloc (Bl.then B hq).size (.cells #[.int .i64 a, .int .i64 n] 31)
  clear hq
  have y0 := k0.cell 0
  have y1 := k0.cell 1
  have z0 := k1.cell 0
  have z1 := k1.cell 1
  simp only [List.getElem?_toArray, List.getElem?_cons_zero, List.getElem?_cons_succ] at y0 y1 z0 z1
  have hlt := k0.lt
  go_wp2_with fail
  refine (c_eqNet _ _ _).mono ?_
  rintro e w3 ⟨rfl, hq⟩
  replace B := Bl.then B hq
  clear hq
  go_wp2
  go_ret
  exact ⟨rfl, B⟩

set_option maxHeartbeats 1600000 in
theorem l_FnNetRoundTrip (A : Option Addr) (n c : Nat) (w : World) (h : RB w A n) (hc : n ≤ c) (hE : EnvP w) : Calls Tryd.prog 11 #[.slice A n c] w fun e w' => e = .returned (.bool true) ∧ Below w.heap.size w w' := by
  by_cases hbig : 1048576 < n
  · go_enter Tryd.func11, Tryd.ntmps11
    go_wp2
    go_ret
    exact ⟨rfl, Below.refl _ _⟩
  have heql := eql_net
  have hgd := guard_net
  go_enter Tryd.func11, Tryd.ntmps11
  go_wp2_with fail
  refine (c_DrawFormatNet _ _ _ _ h hc).mono ?_
  rintro e w1 ⟨x, y, rfl, B⟩
  have k0 := Blk.new w1 31 #[.int .i64 x, .int .i64 y]
  replace B := B.alloc B.size (.cells #[.int .i64 x, .int .i64 y] 31)
  go_wp2_with fail
  refine (c_iFormatNet x y _ (hE.tab.to B)).mono ?_
  rintro e w2 ⟨rfl, hq⟩
  replace k0 := k0.to hq
  replace B := Bl.then B hq
  clear hq h
  have y0 := k0.cell 0
  have y1 := k0.cell 1
  have hlt := k0.lt
  simp only [List.getElem?_toArray, List.getElem?_cons_zero, List.getElem?_cons_succ] at y0 y1
  cases hv : vNet x y
  · have HV : Hid (fmtNet x y = ⟨#[]⟩) := by unfold fmtNet; rw [hv]; rfl
    clear hv
    go_wp2_with fail
    refine (c_sFormatNet x y _).mono ?_
    rw [HV.out]
    rintro e w3 ⟨rfl, hq⟩
    replace k0 := k0.to hq
    replace B := Bl.then B hq
    clear hq y0 y1 hlt
    have y0 := k0.cell 0
    have y1 := k0.cell 1
    have hlt := k0.lt
    simp only [List.getElem?_toArray, List.getElem?_cons_zero, List.getElem?_cons_succ] at y0 y1
    go_wp2_with fail
    refine (c_sFormatNet x y _).mono ?_
    rw [HV.out]
    rintro e w4 ⟨rfl, hq⟩
    replace B := Bl.then B hq
    clear hq
    go_wp2
    go_ret
    exact ⟨rfl, B⟩
  · have HV : Hid (fmtNet x y = fmtN x y) := by unfold fmtNet; rw [hv]; rfl
    have hp := parN_fmt hv
    have hz : (fmtNet x y).size ≤ 70000 := fmtNet_size x y
    have hpos : 0 < (fmtN x y).size := by have := fmtN_size x y; omega
    rw [HV.out] at hz
    clear hv
    rw [HV.out]
    generalize fmtN x y = s at hp hz hpos HV
    have HP : Hid (parV (parN s.data.toList) = .tuple #[.agg #[.int .i64 x, .int .i64 y], .bool true]) := by rw [Hid, hp]; rfl
    clear hp
    go_wp2_with fail
    refine (c_sFormatNet x y _).mono ?_
    rw [HV.out]
    rintro e w3 ⟨rfl, hq⟩
    replace k0 := k0.to hq
    replace B := Bl.then B hq
    clear hq y0 y1 hlt
    have hne := ne_empty (s := s) hpos
    go_wp2_with fail
    refine (c_iParseNet s _ (by omega) (hE.to B)).mono ?_
    rw [HP.out]
    rintro e w4 ⟨rfl, hq⟩
    have k1 := Blk.new w4 31 #[.int .i64 x, .int .i64 y]
    replace k0 := (k0.to hq).alloc (.cells #[.int .i64 x, .int .i64 y] 31)
    replace B := (Bl.then B hq).alloc (Bl.then B hq).size (.cells #[.int .i64 x, .int .i64 y] 31)
    clear hq
    have y0 := k0.cell 0
    have y1 := k0.cell 1
    have z0 := k1.cell 0
    have z1 := k1.cell 1
    simp only [List.getElem?_toArray, List.getElem?_cons_zero, List.getElem?_cons_succ] at y0 y1 z0 z1
    have hlt := k0.lt
    have he : eqE x y x y = true := eqE_true ⟨rfl, rfl⟩
    go_wp2
    go_ret
    exact ⟨rfl, B⟩

set_option maxHeartbeats 1600000 in
theorem l_FnNetCanonical (A : Option Addr) (m c : Nat) (w : World) (h : RB w A m) (hc : m ≤ c) (hE : EnvP w) : Calls Tryd.prog 14 #[.slice A m c] w fun e w' => e = .returned (.bool true) ∧ Below w.heap.size w w' := by
  by_cases hbig : 1048576 < m
  · go_enter Tryd.func14, Tryd.ntmps14
    go_wp2
    go_ret
    exact ⟨rfl, Below.refl _ _⟩
  have hneq := neq_net
  have hgd := guard_net
  go_enter Tryd.func14, Tryd.ntmps14
  go_wp2_with fail
  refine (c_DrawParseNet _ _ _ _ h hc).mono ?_
  rintro e w1 ⟨s, rfl, hz, B⟩
  clear h
  have hf := fun a n => @parN_text s a n
  cases hD : parN s.data.toList with
  | none =>
    have HD : Hid (parV (parN s.data.toList) = .tuple #[.agg #[.int .i64 0, .int .i64 0], .bool false]) := by rw [Hid, hD]; rfl
    have he : eqE 0 0 0 0 = true := eqE_true ⟨rfl, rfl⟩
    clear hf hD
    go_wp2_with fail
    refine (c_iParseNet s _ (by omega) (hE.to B)).mono ?_
    rw [HD.out]
    rintro e w2 ⟨rfl, hq⟩
    have k0 := Blk.new w2 31 #[.int .i64 0, .int .i64 0]
    replace B := (Bl.then B hq).alloc (Bl.then B hq).size (.cells #[.int .i64 0, .int .i64 0] 31)
    clear hq
    go_wp2_with fail
    refine (c_sNet s _ (by omega)).mono ?_
    rw [HD.out]
    rintro e w3 ⟨rfl, hq⟩
    replace k0 := (k0.to hq).alloc (.cells #[.int .i64 0, .int .i64 0] 31)
    have k1 := Blk.new w3 31 #[.int .i64 0, .int .i64 0]
    replace B := (Bl.then B hq).alloc (Bl.then B hq).size (.cells #[.int .i64 0, .int .i64 0] 31)
    clear hq
    have y0 := k0.cell 0
    have y1 := k0.cell 1
    have z0 := k1.cell 0
    have z1 := k1.cell 1
    simp only [List.getElem?_toArray, List.getElem?_cons_zero, List.getElem?_cons_succ] at y0 y1 z0 z1
    have hlt := k0.lt
    go_wp2
    go_ret
    exact ⟨rfl, B⟩
  | some p =>
    obtain ⟨a, n⟩ := p
    have HD : Hid (parV (parN s.data.toList) = .tuple #[.agg #[.int .i64 a, .int .i64 n], .bool true]) := by rw [Hid, hD]; rfl
    have he : eqE a n a n = true := eqE_true ⟨rfl, rfl⟩
    obtain ⟨hv, hft⟩ := hf a n hD
    have HF := Lib.hid hft
    have HV := Lib.hid hv
    clear hf hD hft hv
    have tt : (s.toList == s.toList) = true := by simp
    go_wp2_with fail
    refine (c_iParseNet s _ (by omega) (hE.to B)).mono ?_
    rw [HD.out]
    rintro e w2 ⟨rfl, hq⟩
    have k0 := Blk.new w2 31 #[.int .i64 a, .int .i64 n]
    replace B := (Bl.then B hq).alloc (Bl.then B hq).size (.cells #[.int .i64 a, .int .i64 n] 31)
    clear hq
    go_wp2_with fail
    refine (c_sNet s _ (by omega)).mono ?_
    rw [HD.out]
    rintro e w3 ⟨rfl, hq⟩
    replace k0 := (k0.to hq).alloc (.cells #[.int .i64 a, .int .i64 n] 31)
    have k1 := Blk.new w3 31 #[.int .i64 a, .int .i64 n]
    replace B := (Bl.then B hq).alloc (Bl.then B hq).size (.cells #[.int .i64 a, .int .i64 n] 31)
    clear hq
    have y0 := k0.cell 0
    have y1 := k0.cell 1
    have z0 := k1.cell 0
    have z1 := k1.cell 1
    simp only [List.getElem?_toArray, List.getElem?_cons_zero, List.getElem?_cons_succ] at y0 y1 z0 z1
    have hlt := k0.lt
    go_wp2_with fail
    refine (c_iFormatNet a n _ (hE.tab.to B)).mono ?_
    rw [HF.out]
    rintro e w4 ⟨rfl, hq⟩
    replace k0 := k0.to hq
    replace B := Bl.then B hq
    clear hq y0 y1 z0 z1 hlt
    have y0 := k0.cell 0
    have y1 := k0.cell 1
    simp only [List.getElem?_toArray, List.getElem?_cons_zero, List.getElem?_cons_succ] at y0 y1
    have hlt := k0.lt
    go_wp2_with fail
    refine (c_ValidNet a n _).mono ?_
    rw [HV.out]
    rintro e w5 ⟨rfl, hq⟩
    replace B := Bl.then B hq
    clear hq
    go_wp2
    go_ret
    exact ⟨rfl, B⟩
end Go.Proofs.YthlaldikdlljfaaDoor
