/- Contracts of the readers of numbers: the reference's parseInt, the program's number. -/
import Derived.Test.YthlaldikdlljfaaDoorSE
import Derived.Test.YthlaldikdlljfaaDoorSL2
namespace Go.Proofs.YthlaldikdlljfaaDoor
open Go.RowKit

theorem bytes_neq {a b : ByteArray} (h : a.data.toList ≠ b.data.toList) : (a.toList == b.toList) = false := by
  rw [ByteArray.toList_eq, ByteArray.toList_eq, beq_eq_false_iff_ne]; exact h
theorem bytes_eq {a b : ByteArray} (h : a.data.toList = b.data.toList) : a = b := by
  apply ByteArray.ext
  exact Array.toList_inj.1 h
theorem numV_len {s : List UInt8} (h : s = [] ∨ 5 < s.length) : numV s = -1 := by
  unfold numV
  rw [if_neg]
  simp only [Bool.and_eq_true, decide_eq_true_eq]
  rcases h with rfl | h
  · simp
  · omega
theorem byt_mem {s : ByteArray} {k : Nat} (h : k < s.size) : ∃ c, s.data.toList[k]? = some c ∧ byt s k = (c.toNat : Int) ∧ c ∈ s.data.toList := by
  rw [size_list] at h
  refine ⟨s.data.toList[k], List.getElem?_eq_getElem h, ?_, List.getElem_mem h⟩
  unfold byt
  rw [List.getElem?_eq_getElem h, Option.getD_some]

set_option maxHeartbeats 1600000 in
theorem c_parseInt (s : ByteArray) (w : World) (hs : s.size ≤ 4000000000) :
    Calls Tryd.prog 67 #[.string s] w fun e w' => e = .returned (.int .i64 (numV s.data.toList)) ∧ Below w.heap.size w w' := by
  by_cases h0 : s.size = 0
  · have hn : Hid (numV s.data.toList = -1) := numV_len (.inl (List.eq_nil_of_length_eq_zero (by rw [← size_list]; exact h0)))
    go_enter Tryd.func67, Tryd.ntmps67
    go_wp2
    go_ret
    exact ⟨by rw [hn.out]; rfl, Below.refl _ _⟩
  by_cases h5 : 5 < s.size
  · have hn : Hid (numV s.data.toList = -1) := numV_len (.inr (by rw [← size_list]; exact h5))
    have t0 : ((s.size : Int) == 0) = false := by rw [beq_eq_false_iff_ne]; omega
    have t1 : decide ((5 : Int) < s.size) = true := by rw [decide_eq_true_eq]; omega
    go_enter Tryd.func67, Tryd.ntmps67
    go_wp2
    go_ret
    exact ⟨by rw [hn.out]; rfl, Below.refl _ _⟩
  have t0 : ((s.size : Int) == 0) = false := by rw [beq_eq_false_iff_ne]; omega
  have t1 : decide ((5 : Int) < s.size) = false := by rw [decide_eq_false_iff_not]; omega
  go_enter Tryd.func67, Tryd.ntmps67
  go_wp2
  go_loop [3, 4] (fun n i => ∃ k : Nat, k ≤ s.size ∧ i = .int .i64 k ∧ n = .int .i64 (valL (s.data.toList.take k)) ∧ Hid ((s.data.toList.take k).all isDig = true)) (fun _ i => s.size - (intOf i).toNat)
  case atStart => exact ⟨0, Nat.zero_le _, rfl, rfl, rfl⟩
  case round =>
    obtain ⟨k, hk, rfl, rfl, hD⟩ := hrel
    by_cases hlt : k < s.size
    · obtain ⟨c, hc1, hc2, hc3⟩ := byt_mem hlt
      have hix := run_byt s k hlt
      have hb := valL_lt hD.out (by rw [List.length_take]; omega)
      have ht : s.data.toList.take (k + 1) = s.data.toList.take k ++ [c] := by rw [List.take_add_one, hc1]; rfl
      have hvl : valL (s.data.toList.take (k + 1)) = stepD (valL (s.data.toList.take k)) c := by rw [ht, valL_snoc]
      have HT := Lib.hid ht
      have HC := Lib.hid hc3
      have i2 : (0 : Int) ≤ k ∧ (k : Int) < s.size := by omega
      have hcl := UInt8.toNat_lt c
      rw [hc2] at hix
      have e1 : IntKind.i64.wrap (c.toNat : Int) = c.toNat := IntWalk.i64_in _ (by omega)
      generalize hv : valL (s.data.toList.take k) = v at hb hvl
      have HVL := Lib.hid hvl
      clear ht hc1 hc2 hc3 hvl hv
      cases hd : inB (c.toNat : Int) 48 57
      · have hn : Hid (numV s.data.toList = -1) := numV_no HC.out (by
          cases hh : isDig c
          · rfl
          · have := isDig_iff.1 hh
            rw [inB_mk (by omega) (by omega)] at hd; cases hd)
        go_wp2_with fail
        refine (c_inRange _ _ _ _).mono ?_
        rw [hd]
        rintro e w' ⟨rfl, rfl⟩
        clear hd
        go_wp2
        go_ret
        exact ⟨by rw [hn.out]; rfl, Below.refl _ _⟩
      · have hdd := inB_true hd
        go_wp2_with fail
        refine (c_inRange _ _ _ _).mono ?_
        rw [hd]
        rintro e w' ⟨rfl, rfl⟩
        have HDD := Lib.hid hdd
        clear hd
        go_wp2
        go_round
        case rel =>
          refine ⟨k + 1, by omega, by go_num, ?_, ?_⟩
          · rw [HVL.out]
            unfold stepD
            have := HDD.out
            congr 1
            omega
          · rw [HT.out, List.all_append, hD.out]
            have := HDD.out
            simp only [List.all_cons, List.all_nil, Bool.and_true, Bool.true_and]
            exact isDig_iff.2 (by omega)
        case measure => simp [intOf]; omega
    · obtain rfl : k = s.size := by omega
      have hD2 := hD.out
      rw [show s.data.toList.take s.size = s.data.toList by rw [size_list]; exact List.take_length] at hD2
      rw [show s.data.toList.take s.size = s.data.toList by rw [size_list]; exact List.take_length]
      have hl : s.data.toList.length ≤ 5 := by rw [← size_list]; omega
      have hne : s.data.toList ≠ [] := fun e => h0 (by rw [size_list, e]; rfl)
      have hb := valL_lt hD2 hl
      have hnv : numV s.data.toList = if Lib.decDigits (valL s.data.toList) = s.data.toList then (valL s.data.toList : Int) else -1 := by
        unfold numV
        by_cases hx : Lib.decDigits (valL s.data.toList) = s.data.toList
        · rw [if_pos hx, if_pos (by simp only [Bool.and_eq_true, decide_eq_true_eq]; exact ⟨hl, hne, hD2, hx⟩)]
        · rw [if_neg hx, if_neg (by simp only [Bool.and_eq_true, decide_eq_true_eq]; exact fun h => hx h.2.2.2)]
      have hdl : (dec (valL s.data.toList : Int)).data.toList = Lib.decDigits (valL s.data.toList) := by rw [dec_list]; unfold dl; rw [Int.toNat_natCast]
      generalize valL s.data.toList = v at hb hnv hdl
      go_wp2_with fail
      refine (c_dec _ _ (by omega) (by omega)).mono ?_
      rintro e w1 ⟨rfl, hq⟩
      generalize dec (v : Int) = D at hdl
      by_cases hx : Lib.decDigits v = s.data.toList
      · rw [if_pos hx] at hnv
        obtain rfl : D = s := bytes_eq (hdl.trans hx)
        have HN := Lib.hid hnv
        clear hnv hdl hx hne hl hD2
        go_wp2
        go_ret
        exact ⟨by rw [HN.out]; rfl, hq⟩
      · rw [if_neg hx] at hnv
        have tn := bytes_neq (a := D) (b := s) (by rw [hdl]; exact hx)
        have HN := Lib.hid hnv
        clear hnv hdl hx hne hl hD2
        go_wp2
        go_ret
        exact ⟨by rw [HN.out]; rfl, hq⟩

set_option maxHeartbeats 1600000 in
theorem c_number (s : ByteArray) (w : World) (hs : s.size ≤ 4000000000) (hE : EnvP w) :
    Calls Tryd.prog 64 #[.string s] w fun e w' => ∃ n : Int, e = .returned (.tuple #[.int .i64 n, .bool (decide (0 ≤ numV s.data.toList))]) ∧ (0 ≤ numV s.data.toList → n = numV s.data.toList) ∧ -9223372036854775808 ≤ n ∧ n ≤ 9223372036854775807 ∧ Below w.heap.size w w' := by
  rcases ha : Lib.atoiAll s.data.toList with v | _ | _
  · have hb := Lib.atoiAll_bounds ha
    have hat := Lib.hid (Tryd.strconv_Atoi_ok s (by omega) v ha w)
    have HT := Lib.hid hE.tab
    have hi : Hid (0 ≤ numV s.data.toList → v = numV s.data.toList) := fun h => by have := atoi_num h; rw [ha] at this; injection this
    clear hE
    by_cases hv0 : v < 0
    · have hn : Hid (¬ 0 ≤ numV s.data.toList) := fun h => by have := hi.out h; omega
      have hd : Hid (decide (0 ≤ numV s.data.toList) = false) := by rw [Hid, decide_eq_false_iff_not]; exact hn.out
      have t0 : decide (0 ≤ v) = false := by rw [decide_eq_false_iff_not]; omega
      clear ha
      go_enter Tryd.func64, Tryd.ntmps64
      go_wp2_with fail
      refine hat.out.mono ?_
      rintro e w1 ⟨rfl, hw⟩
      have hq : Below w.heap.size w w1 := by rcases hw with rfl | ⟨t, rfl⟩; exact Below.refl _ _; exact Lib.bytesWorld_below w _ t
      go_wp2
      go_ret2
      exact ⟨v, by rw [hd.out]; rfl, hi.out, hb.1, hb.2, hq⟩
    have t0 : decide (0 ≤ v) = true := by rw [decide_eq_true_eq]; omega
    by_cases h5 : s.size ≤ 5
    · have t1 : decide ((s.size : Int) ≤ 5) = true := by rw [decide_eq_true_eq]; omega
      have hdl := dec_list v
      have hnv : 0 ≤ numV s.data.toList ↔ dl v = s.data.toList := by
        constructor
        · intro h; rw [hi.out h]; exact (numV_some h).1
        · intro h; rw [num_of_atoi (by omega) (by rw [← size_list]; exact h5) h]; omega
      have HNV := Lib.hid hnv
      clear ha hnv
      go_enter Tryd.func64, Tryd.ntmps64
      go_wp2_with fail
      refine hat.out.mono ?_
      rintro e w1 ⟨rfl, hw⟩
      have hq : Below w.heap.size w w1 := by rcases hw with rfl | ⟨t, rfl⟩; exact Below.refl _ _; exact Lib.bytesWorld_below w _ t
      clear hw
      go_wp2_with fail
      refine (c_Itoa v _ (by omega) (by omega) (HT.out.to hq)).mono ?_
      generalize dec v = D at hdl
      rintro e w2 ⟨rfl, hq2⟩
      by_cases hx : dl v = s.data.toList
      · obtain rfl : D = s := bytes_eq (hdl.trans hx)
        have hd : Hid (decide (0 ≤ numV D.data.toList) = true) := by rw [Hid, decide_eq_true_eq]; exact HNV.out.2 hx
        clear hdl hx
        go_wp2
        go_ret2
        exact ⟨v, by rw [hd.out]; first | rfl | simp, hi.out, hb.1, hb.2, Bl.then hq hq2⟩
      · have tn := bytes_neq (a := D) (b := s) (by rw [hdl]; exact hx)
        have hd : Hid (decide (0 ≤ numV s.data.toList) = false) := by rw [Hid, decide_eq_false_iff_not]; exact fun h => hx (HNV.out.1 h)
        clear hdl hx
        go_wp2
        go_ret2
        exact ⟨v, by rw [hd.out]; rfl, hi.out, hb.1, hb.2, Bl.then hq hq2⟩
    · have t1 : decide ((s.size : Int) ≤ 5) = false := by rw [decide_eq_false_iff_not]; omega
      have hn : Hid (numV s.data.toList = -1) := numV_len (.inr (by rw [← size_list]; omega))
      have hd : Hid (decide (0 ≤ numV s.data.toList) = false) := by rw [Hid, decide_eq_false_iff_not, hn.out]; omega
      clear ha
      go_enter Tryd.func64, Tryd.ntmps64
      go_wp2_with fail
      refine hat.out.mono ?_
      rintro e w1 ⟨rfl, hw⟩
      have hq : Below w.heap.size w w1 := by rcases hw with rfl | ⟨t, rfl⟩; exact Below.refl _ _; exact Lib.bytesWorld_below w _ t
      clear hw
      go_wp2
      go_ret2
      exact ⟨v, by rw [hd.out]; rfl, hi.out, hb.1, hb.2, hq⟩
  · have hn : numV s.data.toList < 0 := Int.lt_of_not_ge fun h => by rw [atoi_num h] at ha; cases ha
    have hd : Hid (decide (0 ≤ numV s.data.toList) = false) := by rw [Hid, decide_eq_false_iff_not]; omega
    have HN := Lib.hid hn
    obtain ⟨tp, p, hv⟩ := hE.es
    have hat := Lib.hid (Tryd.strconv_Atoi_syntax_var s (by omega) (fun v e => by rw [ha] at e; cases e) (fun e => by rw [ha] at e; cases e) tp p w hv)
    clear ha hn hv hE
    go_enter Tryd.func64, Tryd.ntmps64
    go_wp2_with fail
    refine hat.out.mono ?_
    rintro e w1 ⟨N, rfl, -, -, hq⟩
    go_wp2
    go_ret2
    exact ⟨0, by rw [hd.out]; rfl, fun h => absurd h (by have := HN.out; omega), by omega, by omega, hq⟩
  · have hn : numV s.data.toList < 0 := Int.lt_of_not_ge fun h => by rw [atoi_num h] at ha; cases ha
    have hd : Hid (decide (0 ≤ numV s.data.toList) = false) := by rw [Hid, decide_eq_false_iff_not]; omega
    have HN := Lib.hid hn
    obtain ⟨tp, p, hv⟩ := hE.er
    have hat := Lib.hid (Tryd.strconv_Atoi_range_var s (by omega) ha tp p w hv)
    have hsat : -9223372036854775808 ≤ Lib.atoiSat s.data.toList ∧ Lib.atoiSat s.data.toList ≤ 9223372036854775807 := by unfold Lib.atoiSat; split <;> omega
    generalize Lib.atoiSat s.data.toList = q at hat hsat
    clear ha hn hv hE
    go_enter Tryd.func64, Tryd.ntmps64
    go_wp2_with fail
    refine hat.out.mono ?_
    rintro e w1 ⟨N, rfl, -, -, hq⟩
    go_wp2
    go_ret2
    exact ⟨q, by rw [hd.out]; rfl, fun h => absurd h (by have := HN.out; omega), hsat.1, hsat.2, hq⟩
end Go.Proofs.YthlaldikdlljfaaDoor
