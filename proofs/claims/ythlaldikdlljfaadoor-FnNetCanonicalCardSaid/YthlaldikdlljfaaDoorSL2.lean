/- The walks of the laws FnEndText and FnNetText. -/
import Derived.Test.YthlaldikdlljfaaDoorSW
import Derived.Test.YthlaldikdlljfaaDoorSP
import Derived.Test.YthlaldikdlljfaaDoorS3
namespace Go.Proofs.YthlaldikdlljfaaDoor
open Go.RowKit

theorem run_byt (s : ByteArray) (k : Nat) (hk : k < s.size) (w : World) : (Instr.index 9 (.string s) (.int .i64 (k : Int))).run Tryd.prog w = .ok (.int .u8 (byt s k)) w := by
  rw [run_index_string w _ s .i64 k Tryd.underlying9, dif_pos ⟨by omega, by omega⟩]
  congr 2
  unfold byt
  have hk' : k < s.data.toList.length := by rw [← size_list]; exact hk
  rw [List.getElem?_eq_getElem hk', Option.getD_some]
  simp [ByteArray.getElem_eq_getElem_data]
theorem ne_empty {s : ByteArray} (h : 0 < s.size) : s.toList.isEmpty = false := by
  rw [ByteArray.toList_eq]
  rw [size_list] at h
  cases hs : s.data.toList with
  | nil => rw [hs] at h; cases h
  | cons _ _ => rfl

set_option maxHeartbeats 1600000 in
theorem l_FnEndText (A : Option Addr) (n c : Nat) (w : World) (h : RB w A n) (hc : n ≤ c) (hE : TabE w) : Calls Tryd.prog 5 #[.slice A n c] w fun e w' => e = .returned (.bool true) ∧ Below w.heap.size w w' := by
  by_cases hbig : 1048576 < n
  · go_enter Tryd.func5, Tryd.ntmps5
    go_wp2
    go_ret
    exact ⟨rfl, Below.refl _ _⟩
  go_enter Tryd.func5, Tryd.ntmps5
  go_wp2_with fail
  refine (c_DrawFormatEnd _ _ _ _ h hc).mono ?_
  rintro e w1 ⟨x, y, rfl, B⟩
  have k0 := Blk.new w1 25 #[.int .i64 x, .int .i64 y]
  replace B := B.alloc B.size (.cells #[.int .i64 x, .int .i64 y] 25)
  go_wp2_with fail
  refine (c_iFormatEnd x y _ (hE.to B)).mono ?_
  rintro e w2 ⟨rfl, hq⟩
  replace k0 := k0.to hq
  replace B := Bl.then B hq
  clear hq h
  have y0 := k0.cell 0
  have y1 := k0.cell 1
  have hlt := k0.lt
  simp only [List.getElem?_toArray, List.getElem?_cons_zero, List.getElem?_cons_succ] at y0 y1
  cases hv : inB x 0 65535 && inB y 0 65535
  · have HV : Hid (fmtEnd x y = ⟨#[]⟩) := by unfold fmtEnd; rw [hv]; rfl
    clear hv
    go_wp2_with fail
    refine (c_sFormatEnd x y _).mono ?_
    rw [HV.out]
    rintro e w3 ⟨rfl, hq⟩
    replace k0 := k0.to hq
    replace B := Bl.then B hq
    clear hq y0 y1 hlt
    have y0 := k0.cell 0
    have y1 := k0.cell 1
    have hlt := k0.lt
    simp only [List.getElem?_toArray, List.getElem?_cons_zero, List.getElem?_cons_succ] at y0 y1
    go_wp2_with fail
    refine (c_sFormatEnd x y _).mono ?_
    rw [HV.out]
    rintro e w4 ⟨rfl, hq⟩
    replace B := Bl.then B hq
    clear hq
    go_wp2
    go_ret
    exact ⟨rfl, B⟩
  · have HV : Hid (fmtEnd x y = fmtE x y) := by unfold fmtEnd; rw [hv]; rfl
    simp only [Bool.and_eq_true] at hv
    have a1 := inB_true hv.1
    have a2 := inB_true hv.2
    clear hv
    have HAT : Hid (∀ k, k < (fmtE x y).size → _) := fun k h => fmtE_at (a := x) (p := y) (k := k) h
    have hsz := fmtE_size x y
    have hco := coE_eq x
    have hd1 := dl_pos (x / 256)
    have hd2 := dl_pos (x % 256)
    have hd3 := dl_pos y
    rw [HV.out]
    generalize fmtE x y = s at HAT hsz HV
    go_wp2_with fail
    refine (c_sFormatEnd x y _).mono ?_
    rw [HV.out]
    rintro e w3 ⟨rfl, hq⟩
    replace B := Bl.then B hq
    clear hq y0 y1 hlt k0
    have hne := ne_empty (s := s) (by omega)
    have HSZ := Lib.hid hsz
    have HCO := Lib.hid hco
    have hsm : s.size ≤ 200000 := by
      have := dec_size (x / 256)
      have := dec_size (x % 256)
      have := dec_size y
      have e1 : (dl (x / 256)).length = (dec (x / 256)).size := by rw [size_list, dec_list]
      have e2 : (dl (x % 256)).length = (dec (x % 256)).size := by rw [size_list, dec_list]
      have e3 : (dl y).length = (dec y).size := by rw [size_list, dec_list]
      have e4 : ptE x = (dl (x / 256)).length := rfl
      omega
    have hp : ptE x < coE x ∧ coE x + 1 < s.size ∧ 1 ≤ ptE x ∧ ptE x + 1 < coE x := by
      have e4 : ptE x = (dl (x / 256)).length := rfl
      omega
    clear hsz hco hd1 hd2 hd3
    generalize hP : ptE x = P at *
    generalize hC : coE x = C at *
    clear hP hC HSZ HCO
    go_wp2
    go_loop [5, 6, 7] (fun a b i => ∃ k : Nat, k ≤ s.size ∧ i = .int .i64 k ∧ a = .int .i64 (if k ≤ P then -1 else (P : Int)) ∧ b = .int .i64 (if k ≤ C then -1 else (C : Int))) (fun _ _ i => s.size - (intOf i).toNat)
    case atStart => exact ⟨0, Nat.zero_le _, rfl, by rw [if_pos (Nat.zero_le _)], by rw [if_pos (Nat.zero_le _)]⟩
    case round =>
      obtain ⟨k, hk, rfl, rfl, rfl⟩ := hrel
      by_cases hlt : k < s.size
      · have hix := run_byt s k hlt
        have hat := HAT.out k hlt
        generalize byt s k = z at hix hat
        have i2 : (0 : Int) ≤ k ∧ (k : Int) < s.size := by omega
        rcases hat with ⟨rfl, rfl⟩ | ⟨rfl, rfl⟩ | ⟨h1, h2, h3, h4⟩
        · rw [if_pos (Nat.le_refl _), if_pos (by omega)]
          go_wp2
          go_round
          case rel => exact ⟨k + 1, by omega, by go_num, by rw [if_neg (by omega)], by rw [if_pos (by omega)]⟩
          case measure => simp [intOf]; omega
        · rw [if_neg (by omega), if_pos (Nat.le_refl _)]
          go_wp2
          go_round
          case rel => exact ⟨k + 1, by omega, by go_num, by rw [if_neg (by omega)], by rw [if_neg (by omega)]⟩
          case measure => simp [intOf]; omega
        · have t1 : (z == 46) = false := by rw [beq_eq_false_iff_ne]; omega
          have t2 : (z == 58) = false := by rw [beq_eq_false_iff_ne]; omega
          have t3 : decide (z < 48) = false := by rw [decide_eq_false_iff_not]; omega
          have t4 : decide (57 < z) = false := by rw [decide_eq_false_iff_not]; omega
          have q1 : (if k ≤ P then (-1 : Int) else P) = (if k + 1 ≤ P then (-1 : Int) else (P : Int)) := by split <;> split <;> omega
          have q2 : (if k ≤ C then (-1 : Int) else C) = (if k + 1 ≤ C then (-1 : Int) else (C : Int)) := by split <;> split <;> omega
          have Q1 := Lib.hid q1
          have Q2 := Lib.hid q2
          clear q1 q2
          generalize (if k ≤ P then (-1 : Int) else P) = pp at Q1
          generalize (if k ≤ C then (-1 : Int) else C) = cc at Q2
          go_wp2
          go_round
          case rel => exact ⟨k + 1, by omega, by go_num, by rw [Q1.out], by rw [Q2.out]⟩
          case measure => simp [intOf]; omega
      · obtain rfl : k = s.size := by omega
        rw [if_neg (by omega), if_neg (by omega)]
        have u1 : decide ((0 : Int) < P) = true := by rw [decide_eq_true_eq]; omega
        have u2 : decide ((P : Int) + 1 < C) = true := by rw [decide_eq_true_eq]; omega
        have u3 : decide ((C : Int) + 1 < s.size) = true := by rw [decide_eq_true_eq]; omega
        go_wp2
        go_ret
        exact ⟨rfl, B⟩

theorem ext_eq {x y : ByteArray} {l r q : List UInt8} (hx : x.data.toList = l ++ r) (hy : y.data.toList = l ++ q) : x.extract 0 l.length = y.extract 0 l.length := by
  apply ByteArray.ext
  apply Array.toList_inj.1
  simp [ByteArray.data_extract, hx, hy]
theorem dl_zero : dl 0 = [48] := by unfold dl; rw [Lib.decDigits]; rfl

set_option maxHeartbeats 1600000 in
theorem l_FnNetText (A : Option Addr) (n c : Nat) (w : World) (h : RB w A n) (hc : n ≤ c) (hE : TabE w) : Calls Tryd.prog 6 #[.slice A n c] w fun e w' => e = .returned (.bool true) ∧ Below w.heap.size w w' := by
  by_cases hbig : 1048576 < n
  · go_enter Tryd.func6, Tryd.ntmps6
    go_wp2
    go_ret
    exact ⟨rfl, Below.refl _ _⟩
  go_enter Tryd.func6, Tryd.ntmps6
  go_wp2_with fail
  refine (c_DrawFormatNet _ _ _ _ h hc).mono ?_
  rintro e w1 ⟨x, y, rfl, B⟩
  have k0 := Blk.new w1 31 #[.int .i64 x, .int .i64 y]
  replace B := B.alloc B.size (.cells #[.int .i64 x, .int .i64 y] 31)
  go_wp2_with fail
  refine (c_iFormatNet x y _ (hE.to B)).mono ?_
  rintro e w2 ⟨rfl, hq⟩
  replace k0 := k0.to hq
  replace B := Bl.then B hq
  clear hq h
  have y0 := k0.cell 0
  have y1 := k0.cell 1
  have hlt := k0.lt
  simp only [List.getElem?_toArray, List.getElem?_cons_zero, List.getElem?_cons_succ] at y0 y1
  cases hv : vNet x y
  · have HV : Hid (fmtNet x y = ⟨#[]⟩) := by unfold fmtNet; rw [hv]; rfl
    clear hv
    go_wp2_with fail
    refine (c_sFormatNet x y _).mono ?_
    rw [HV.out]
    rintro e w3 ⟨rfl, hq⟩
    replace k0 := k0.to hq
    replace B := Bl.then B hq
    clear hq y0 y1 hlt
    have y0 := k0.cell 0
    have y1 := k0.cell 1
    have hlt := k0.lt
    simp only [List.getElem?_toArray, List.getElem?_cons_zero, List.getElem?_cons_succ] at y0 y1
    go_wp2_with fail
    refine (c_sFormatNet x y _).mono ?_
    rw [HV.out]
    rintro e w4 ⟨rfl, hq⟩
    replace B := Bl.then B hq
    clear hq
    go_wp2
    go_ret
    exact ⟨rfl, B⟩
  · have HV : Hid (fmtNet x y = fmtN x y) := by unfold fmtNet; rw [hv]; rfl
    have a1 := vNet_base hv
    have HW : Hid (fmtEnd x 0 = fmtE x 0) := by unfold fmtEnd; rw [a1]; rfl
    replace a1 := inB_true a1
    clear hv
    have hsz := fmtN_size x y
    have hsz2 := fmtE_size x 0
    have hl0 : (dl 0).length = 1 := by rw [dl_zero]; rfl
    have hco := coE_eq x
    have hd3 := dl_pos y
    have hext := ext_eq (fmtN_list x y) (fmtE_list x 0)
    have hat : byt (fmtN x y) (coE x) = 47 := by
      unfold byt
      rw [fmtN_list, List.getElem?_append_right (by unfold coE; omega), show coE x - (aL x).length = 0 by unfold coE; omega]; rfl
    have hix := run_byt (fmtN x y) (coE x) (by omega)
    rw [hat] at hix
    rw [show (aL x).length = coE x from rfl] at hext
    clear hat
    rw [HV.out]
    generalize fmtN x y = s at *
    go_wp2_with fail
    refine (c_sFormatNet x y _).mono ?_
    rw [HV.out]
    rintro e w3 ⟨rfl, hq⟩
    replace k0 := k0.to hq
    replace B := Bl.then B hq
    clear hq y0 y1 hlt
    have y0 := k0.cell 0
    have hlt := k0.lt
    simp only [List.getElem?_toArray, List.getElem?_cons_zero] at y0
    have hne := ne_empty (s := s) (by omega)
    have HSZ := Lib.hid hsz
    clear hsz
    go_wp2_with fail
    refine (c_iFormatEnd x 0 _ (hE.to B)).mono ?_
    rw [HW.out]
    generalize fmtE x 0 = t at *
    rintro e w4 ⟨rfl, hq⟩
    replace B := Bl.then B hq
    clear hq
    have hP : 0 < ptE x := dl_pos _
    have hsz3 := HSZ.out
    generalize hC : coE x = C at *
    have hk : (t.size : Int) - 2 = (C : Int) := by omega
    have hb1 : (C : Int) ≤ t.size := by omega
    have hb2 : (C : Int) + 1 < s.size := by omega
    have u4 : 0 < C := by omega
    have u3 : decide (0 < C) = true := by rw [decide_eq_true_eq]; exact u4
    have u2 : decide ((C : Int) + 1 < s.size) = true := by rw [decide_eq_true_eq]; omega
    generalize hX : t.extract 0 C = X at hext
    have HX := Lib.hid hX
    have hsm : t.size ≤ 200000 := by
      have := dec_size (x / 256)
      have := dec_size (x % 256)
      have e1 : (dl (x / 256)).length = (dec (x / 256)).size := by rw [size_list, dec_list]
      have e2 : (dl (x % 256)).length = (dec (x % 256)).size := by rw [size_list, dec_list]
      have e4 : ptE x = (dl (x / 256)).length := rfl
      omega
    clear HSZ hsz3 hsz2 hco hl0 hd3 hC hP
    have hb3 : (C : Int) ≤ s.size := by omega
    go_wp2
    go_quiet (fail)
    go_wp2
    go_ret
    exact ⟨rfl, Bl.drewN B _⟩
end Go.Proofs.YthlaldikdlljfaaDoor
