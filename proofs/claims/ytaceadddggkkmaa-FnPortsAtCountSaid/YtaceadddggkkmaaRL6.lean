/- The walks of the laws FnPortsAt, FnPortsAtCount and FnPortsAtShort. -/
import Derived.Test.YtaceadddggkkmaaRT2
import Derived.Test.YtaceadddggkkmaaRL3
namespace Go.Proofs.Ytaceadddggkkmaa
open Go.RowKit

theorem hasB_mem {zs : List Int} {x : Int} : hasB zs x = true ↔ x ∈ zs := by
  unfold hasB anyUp
  rw [List.any_eq_true]
  constructor
  · rintro ⟨k, hk, he⟩
    have hk' : k < zs.length := by simpa using hk
    rw [beq_iff_eq] at he
    rw [← he]
    simp [nth, hk']
  · intro h
    obtain ⟨k, hk, he⟩ := List.getElem_of_mem h
    exact ⟨k, by simpa using hk, by simp [nth, hk, he]⟩
theorem bal_bd (l : List Rec) : ∀ k : Nat, -(k : Int) ≤ bal l k ∧ bal l k ≤ k
  | 0 => by simp [bal]
  | k + 1 => by
    have := bal_bd l k
    rw [bal]
    split <;> omega
theorem ports_neg (l : List Rec) : ports l (-1) = [] := by
  rcases ports_early (l := l) with h | h
  · exact h
  · exact ports_no h _

set_option maxHeartbeats 1600000 in
theorem l_FnPortsAt (A : Option Addr) (n c : Nat) (w : World) (h : RB w A n) (hc : n ≤ c) :
    Calls Try.prog 15 #[.slice A n c] w fun e w' => e = .returned (.bool true) ∧ Below w.heap.size w w' := by
  by_cases hbig : 1048576 < n
  · go_enter Try.func15, Try.ntmps15
    go_wp2
    go_ret
    exact ⟨rfl, Below.refl _ _⟩
  go_enter Try.func15, Try.ntmps15
  go_wp2_with fail
  refine (c_DrawPortsAt _ _ _ _ h hc).mono ?_
  rintro e w1 ⟨D, m, d, l, now, rfl, hl, hd, hR, hm, ht, B⟩
  have HL := Lib.hid hl
  clear hl h
  go_wp2_with fail
  refine (c_iPortsAt _ _ _ l now _ HL.out hR (by omega)).mono ?_
  rintro e w2 ⟨E, ne, de, rfl, hne, hE, b⟩
  replace hR := hR.to b
  replace B := Bl.then B b
  clear b
  go_wp2_with fail
  refine (c_sPortsAt _ _ _ l now _ HL.out hR (by omega)).mono ?_
  rintro e w3 ⟨F, nf, df, rfl, hnf, hF, b⟩
  replace hR := hR.to b
  replace hE := hE.to b
  replace B := Bl.then B b
  clear b
  have hle := ports_no_len l now
  go_wp2_with fail
  refine (n_equalInts _ _ _ _ _ _ _ _ _ hE.1 hF.1 hne hnf (by omega)).mono ?_
  rw [eqL_same]
  rintro e w4 ⟨rfl, b⟩
  replace hR := hR.to b
  replace hE := hE.to b
  replace B := Bl.then B b
  clear b hF hnf
  subst hne
  go_wp2
  go_loopw [6] (fun i wr => ∃ k : Nat, k ≤ 8 ∧ i = .int .i64 ((1000 : Int) + k) ∧ Hid (RR wr D l) ∧ Hid (RI wr E (ports l now)) ∧ Hid (Below w.heap.size w wr)) (fun i _ => 1008 - (intOf i).toNat)
  case atStart => exact ⟨0, by omega, rfl, hR, hE.1, B⟩
  case round =>
    clear hR hE B
    obtain ⟨k, hk, rfl, HR, HE, HB⟩ := hrel
    by_cases hk8 : k < 8
    · have t0 : decide ((1000 : Int) + k ≤ 1007) = true := by rw [decide_eq_true_eq]; omega
      have e1 : IntKind.i64.wrap ((1000 : Int) + k + 1) = 1000 + k + 1 := IntWalk.i64_in _ (by omega)
      have hR := HR.out
      have hE := HE.out
      have hmem : hasB (ports l now) ((1000 : Int) + k) = (who l ((1000 : Int) + k) now).isSome := by
        rw [Bool.eq_iff_iff, hasB_mem]
        exact mem_ports
      have hx := whoV_form (who l ((1000 : Int) + k) now)
      rw [← hmem] at hx
      generalize ((who l ((1000 : Int) + k) now).getD (0, 0)).1 = x at hx
      generalize ((who l ((1000 : Int) + k) now).getD (0, 0)).2 = y at hx
      have HX := Lib.hid hx
      clear hx hmem
      go_wp2_with fail
      refine (c_iWhoHad _ _ _ l ((1000 : Int) + k) now _ HL.out hR (by omega) (by omega) (by omega)).mono ?_
      rw [HX.out]
      rintro e w5 ⟨rfl, b⟩
      replace hR := (hR.to b).alloc (.cells #[.int .i64 x, .int .i64 y] 27)
      replace hE := (hE.to b).alloc (.cells #[.int .i64 x, .int .i64 y] 27)
      have B1 : Below w.heap.size w (w5.alloc (.cells #[.int .i64 x, .int .i64 y] 27)) := (Bl.then HB.out b).alloc (Bl.then HB.out b).size _
      clear b
      go_wp2_with fail
      refine (c_isIn _ _ (ports l now) ((1000 : Int) + k) _ hE (by omega)).mono ?_
      rintro e w' ⟨rfl, rfl⟩
      generalize hasB (ports l now) ((1000 : Int) + k) = tb
      have tt : (tb != tb) = false := by simp
      have HR1 := Lib.hid hR
      have HE1 := Lib.hid hE
      have HB1 := Lib.hid B1
      clear hR hE B1
      go_wp2
      go_roundw
      case rel => exact ⟨k + 1, by omega, by first | rfl | (congr 1; done) | (congr 1; omega), HR1, HE1, HB1⟩
      case measure => simp [intOf]; omega
    · obtain rfl : k = 8 := by omega
      have hp := ports_neg l
      go_wp2_with fail
      refine (c_iPortsAt _ _ _ l (-1) _ HL.out HR.out (by omega)).mono ?_
      rw [hp]
      rintro e w6 ⟨F, nf, df, rfl, hnf, -, b⟩
      subst hnf
      go_wp2
      go_ret
      exact ⟨ret_bool (by simp), Bl.then HB.out b⟩

set_option maxHeartbeats 1600000 in
theorem l_FnPortsAtShort (A : Option Addr) (n c : Nat) (w : World) (h : RB w A n) (hc : n ≤ c) :
    Calls Try.prog 14 #[.slice A n c] w fun e w' => e = .returned (.bool true) ∧ Below w.heap.size w w' := by
  by_cases hbig : 1048576 < n
  · go_enter Try.func14, Try.ntmps14
    go_wp2
    go_ret
    exact ⟨rfl, Below.refl _ _⟩
  go_enter Try.func14, Try.ntmps14
  go_wp2_with fail
  refine (c_DrawPortsAt _ _ _ _ h hc).mono ?_
  rintro e w1 ⟨D, m, d, l, now, rfl, hl, hd, hR, hm, ht, B⟩
  have HL := Lib.hid hl
  clear hl h
  go_wp2_with fail
  refine (c_iPortsAt _ _ _ l now _ HL.out hR (by omega)).mono ?_
  rintro e w2 ⟨E, ne, de, rfl, hne, hE, b⟩
  replace hR := hR.to b
  replace B := Bl.then B b
  clear b
  go_wp2_with fail
  refine (c_sPortsAt _ _ _ l now _ HL.out hR (by omega)).mono ?_
  rintro e w3 ⟨F, nf, df, rfl, hnf, hF, b⟩
  replace hR := hR.to b
  replace hE := hE.to b
  replace B := Bl.then B b
  clear b
  have hle := ports_no_len l now
  go_wp2_with fail
  refine (n_equalInts _ _ _ _ _ _ _ _ _ hE.1 hF.1 hne hnf (by omega)).mono ?_
  rw [eqL_same]
  rintro e w4 ⟨rfl, b⟩
  replace hR := hR.to b
  replace hE := hE.to b
  replace B := Bl.then B b
  clear b hF hnf
  go_wp2_with fail
  refine (c_iValidRecords _ _ _ l _ HL.out hR (by omega)).mono ?_
  rintro e w5 ⟨rfl, b⟩
  replace hR := hR.to b
  replace hE := hE.to b
  replace B := Bl.then B b
  clear b
  cases hv : vRec l
  · have HV := Lib.hid hv
    clear hv
    go_wp2_with fail
    refine (c_sPortsAt _ _ _ l now _ HL.out hR (by omega)).mono ?_
    rintro e w6 ⟨F, nf, df, rfl, hnf, hF, b⟩
    replace hE := hE.to b
    replace B := Bl.then B b
    clear b
    go_wp2_with fail
    refine (n_equalInts _ _ _ _ _ _ _ _ _ hE.1 hF.1 hne hnf (by omega)).mono ?_
    rw [eqL_same]
    rintro e w7 ⟨rfl, b⟩
    go_wp2
    go_ret
    exact ⟨rfl, Bl.then B b⟩
  have HV := Lib.hid hv
  clear hv
  by_cases h0 : m = 0
  · subst h0
    go_wp2_with fail
    refine (c_sPortsAt _ _ _ l now _ HL.out hR (by omega)).mono ?_
    rintro e w6 ⟨F, nf, df, rfl, hnf, hF, b⟩
    replace hE := hE.to b
    replace B := Bl.then B b
    clear b
    go_wp2_with fail
    refine (n_equalInts _ _ _ _ _ _ _ _ _ hE.1 hF.1 hne hnf (by omega)).mono ?_
    rw [eqL_same]
    rintro e w7 ⟨rfl, b⟩
    go_wp2
    go_ret
    exact ⟨rfl, Bl.then B b⟩
  obtain ⟨j, rfl⟩ : ∃ j, m = j + 1 := ⟨m - 1, by omega⟩
  have hjl : Hid (j < l.length) := Lib.hid (by rw [HL.out]; omega)
  have e1 : IntKind.i64.wrap (j : Int) = j := IntWalk.i64_in _ (by omega)
  have e2 : 0 ≤ (j : Int) ∧ (j : Int) < j + 1 := by omega
  obtain ⟨b0, off, rfl, hb0, c0, -⟩ := hR.get hjl.out
  by_cases hat : now < (rn l j).at_
  · have t1 : decide ((rn l j).at_ ≤ now) = false := by rw [decide_eq_false_iff_not]; omega
    have hps := ports_short HV.out (by rw [HL.out]; omega) (now := now) (by rw [HL.out, Nat.add_sub_cancel]; exact hat)
    rw [HL.out, Nat.add_sub_cancel] at hps
    have HPS := Lib.hid hps
    clear hps
    generalize (rn l j).at_ = ta at c0 t1
    clear hat
    go_wp2_with fail
    refine (c_iPortsAt _ _ _ (l.take j) now _ (by rw [List.length_take, HL.out]; omega) (hR.take _) (by omega)).mono ?_
    rw [HPS.out]
    rintro e w6 ⟨F, nf, df, rfl, hnf, hF, b⟩
    replace hE := hE.to b
    replace B := Bl.then B b
    clear b
    go_wp2_with fail
    refine (n_equalInts _ _ _ _ _ _ _ _ _ hF.1 hE.1 hnf hne (by omega)).mono ?_
    rw [eqL_same]
    rintro e w7 ⟨rfl, b⟩
    go_wp2
    go_ret
    exact ⟨rfl, Bl.then B b⟩
  · have t1 : decide ((rn l j).at_ ≤ now) = true := by rw [decide_eq_true_eq]; omega
    generalize (rn l j).at_ = ta at c0 t1
    clear hat
    go_wp2_with fail
    refine (c_sPortsAt _ _ _ l now _ HL.out hR (by omega)).mono ?_
    rintro e w6 ⟨F, nf, df, rfl, hnf, hF, b⟩
    replace hE := hE.to b
    replace B := Bl.then B b
    clear b
    go_wp2_with fail
    refine (n_equalInts _ _ _ _ _ _ _ _ _ hE.1 hF.1 hne hnf (by omega)).mono ?_
    rw [eqL_same]
    rintro e w7 ⟨rfl, b⟩
    go_wp2
    go_ret
    exact ⟨rfl, Bl.then B b⟩

set_option maxHeartbeats 1600000 in
theorem l_FnPortsAtCount (A : Option Addr) (n c : Nat) (w : World) (h : RB w A n) (hc : n ≤ c) :
    Calls Try.prog 13 #[.slice A n c] w fun e w' => e = .returned (.bool true) ∧ Below w.heap.size w w' := by
  by_cases hbig : 1048576 < n
  · go_enter Try.func13, Try.ntmps13
    go_wp2
    go_ret
    exact ⟨rfl, Below.refl _ _⟩
  go_enter Try.func13, Try.ntmps13
  go_wp2_with fail
  refine (c_DrawPortsAt _ _ _ _ h hc).mono ?_
  rintro e w1 ⟨D, m, d, l, now, rfl, hl, hd, hR, hm, ht, B⟩
  have HL := Lib.hid hl
  clear hl h
  go_wp2_with fail
  refine (c_iPortsAt _ _ _ l now _ HL.out hR (by omega)).mono ?_
  rintro e w2 ⟨E, ne, de, rfl, hne, hE, b⟩
  replace hR := hR.to b
  replace B := Bl.then B b
  clear b
  go_wp2_with fail
  refine (c_sPortsAt _ _ _ l now _ HL.out hR (by omega)).mono ?_
  rintro e w3 ⟨F, nf, df, rfl, hnf, hF, b⟩
  replace hR := hR.to b
  replace hE := hE.to b
  replace B := Bl.then B b
  clear b
  have hle := ports_no_len l now
  go_wp2_with fail
  refine (n_equalInts _ _ _ _ _ _ _ _ _ hE.1 hF.1 hne hnf (by omega)).mono ?_
  rw [eqL_same]
  rintro e w4 ⟨rfl, b⟩
  replace hR := hR.to b
  replace hE := hE.to b
  replace B := Bl.then B b
  clear b hF hnf
  go_wp2_with fail
  refine (c_iValidRecords _ _ _ l _ HL.out hR (by omega)).mono ?_
  rintro e w5 ⟨rfl, b⟩
  replace hR := hR.to b
  replace hE := hE.to b
  replace B := Bl.then B b
  clear b
  cases hv : vRec l
  · have HV := Lib.hid hv
    clear hv
    go_wp2_with fail
    refine (c_sPortsAt _ _ _ l now _ HL.out hR (by omega)).mono ?_
    rintro e w6 ⟨F, nf, df, rfl, hnf, hF, b⟩
    replace hE := hE.to b
    replace B := Bl.then B b
    clear b
    go_wp2_with fail
    refine (n_equalInts _ _ _ _ _ _ _ _ _ hE.1 hF.1 hne hnf (by omega)).mono ?_
    rw [eqL_same]
    rintro e w7 ⟨rfl, b⟩
    go_wp2
    go_ret
    exact ⟨rfl, Bl.then B b⟩
  have HV := Lib.hid hv
  clear hv
  go_wp2
  go_loopw [6, 7] (fun v i wr => ∃ k : Nat, k ≤ m ∧ i = .int .i64 k ∧ v = .int .i64 (bal l k) ∧ wr = w5) (fun _ i _ => m - (intOf i).toNat)
  case atStart => exact ⟨0, Nat.zero_le _, rfl, rfl, rfl⟩
  case round =>
    obtain ⟨k, hk, rfl, rfl, rfl⟩ := hrel
    have hbl := bal_bd l k
    by_cases hlt : k < m
    · obtain ⟨b0, off, rfl, hb0, -, -, -, -, c4⟩ := hR.get (k := k) (by rw [HL.out]; exact hlt)
      have hbs : bal l (k + 1) = if (rn l k).ov then bal l k - 1 else bal l k + 1 := by rw [bal]
      generalize (rn l k).ov = ov at c4 hbs
      cases ov
      · rw [if_neg (by decide)] at hbs
        have e1 : IntKind.i64.wrap (bal l k + 1) = bal l k + 1 := IntWalk.i64_in _ (by omega)
        have HBS := Lib.hid hbs
        clear hbs
        go_wp2
        go_roundw
        case rel => exact ⟨k + 1, by omega, by go_num, by rw [HBS.out], by first | rfl | trivial⟩
        case measure => simp [intOf]; omega
      · rw [if_pos rfl] at hbs
        have e1 : IntKind.i64.wrap (bal l k - 1) = bal l k - 1 := IntWalk.i64_in _ (by omega)
        have HBS := Lib.hid hbs
        clear hbs
        go_wp2
        go_roundw
        case rel => exact ⟨k + 1, by omega, by go_num, by rw [HBS.out], by first | rfl | trivial⟩
        case measure => simp [intOf]; omega
    · obtain rfl : k = m := by omega
      have hpc := ports_count HV.out
      rw [HL.out] at hpc
      go_wp2_with fail
      refine (c_iPortsAt _ _ _ l 10000 _ HL.out hR (by omega)).mono ?_
      rintro e w6 ⟨F, nf, df, rfl, hnf, -, b⟩
      rw [hnf] at hpc
      go_wp2
      go_ret
      exact ⟨ret_bool (by simp), Bl.then B b⟩
end Go.Proofs.Ytaceadddggkkmaa
