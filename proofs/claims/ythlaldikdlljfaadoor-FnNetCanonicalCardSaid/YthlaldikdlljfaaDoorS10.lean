/- Contracts: the readers of addresses, ends and nets, the program's and the reference's. -/
import Derived.Test.YthlaldikdlljfaaDoorS8
namespace Go.Proofs.YthlaldikdlljfaaDoor
open Go.RowKit

theorem arr_size (x : List UInt8) : (⟨x.toArray⟩ : ByteArray).size = x.length := by simp [ByteArray.size]
theorem arr_list (x : List UInt8) : (⟨x.toArray⟩ : ByteArray).data.toList = x := by simp
theorem cut_len {l x y : List UInt8} {c : UInt8} (h : cutc l c = some (x, y)) : x.length ≤ l.length ∧ y.length ≤ l.length := by
  rw [(cutc_eq h).1, List.length_append, List.length_cons]; omega
/-- What a reader of an end or a net hands back. -/
def parV : Option (Int × Int) → Value
  | some (a, p) => .tuple #[.agg #[.int .i64 a, .int .i64 p], .bool true]
  | none => .tuple #[.agg #[.int .i64 0, .int .i64 0], .bool false]

set_option maxHeartbeats 3200000 in
theorem c_readAddr (s : ByteArray) (w : World) (hs : s.size ≤ 4000000000) (hE : EnvP w) :
    Calls Tryd.prog 63 #[.string s] w fun e w' => ∃ n : Int, e = .returned (.tuple #[.int .i64 n, .bool (decide (0 ≤ addrV s.data.toList))]) ∧ (0 ≤ addrV s.data.toList → n = addrV s.data.toList) ∧ Below w.heap.size w w' := by
  cases hc : cutc s.data.toList 46 with
  | none =>
    have hv : addrV s.data.toList = -1 := by unfold addrV; rw [hc]
    have HD : Hid (decide (0 ≤ addrV s.data.toList) = false) := by rw [Hid, hv]; rfl
    have HN : Hid (¬ 0 ≤ addrV s.data.toList) := by rw [Hid, hv]; omega
    have J := Lib.hid (c_Cut s 46 w hs hE)
    rw [hc] at J
    clear hv hc
    go_enter Tryd.func63, Tryd.ntmps63
    go_wp2_with fail
    refine J.out.mono ?_
    rintro e w1 ⟨B, rfl⟩
    go_wp2_with fail
    refine (c_number s _ hs (hE.to B)).mono ?_
    generalize decide (0 ≤ numV s.data.toList) = q1
    rintro e w2 ⟨a, rfl, -, a1, a2, hq⟩
    replace B := Bl.then B hq
    clear hq
    go_wp2_with fail
    refine (c_number ⟨#[]⟩ _ (by decide) (hE.to B)).mono ?_
    generalize decide (0 ≤ numV (⟨#[]⟩ : ByteArray).data.toList) = q2
    rintro e w3 ⟨b, rfl, -, b1, b2, hq⟩
    replace B := Bl.then B hq
    clear hq
    go_wp2
    go_ret2
    exact ⟨_, by rw [HD.out]; rfl, fun h => absurd h (by have := HN.out; omega), B⟩
  | some p =>
    obtain ⟨x, y⟩ := p
    obtain ⟨l1, l2⟩ := cut_len hc
    rw [← size_list] at l1 l2
    have hv : addrV s.data.toList = if inB (numV x) 0 255 && inB (numV y) 0 255 then 256 * numV x + numV y else -1 := by unfold addrV; rw [hc]
    have HV := Lib.hid hv
    have J := Lib.hid (c_Cut s 46 w hs hE)
    rw [hc] at J
    clear hc hv
    have hx := numV_bd x
    have hy := numV_bd y
    go_enter Tryd.func63, Tryd.ntmps63
    go_wp2_with fail
    refine J.out.mono ?_
    rintro e w1 ⟨B, rfl⟩
    go_wp2_with fail
    refine (c_number ⟨x.toArray⟩ _ (by rw [arr_size]; omega) (hE.to B)).mono ?_
    rw [arr_list]
    rintro e w2 ⟨a, rfl, ha, a1, a2, hq⟩
    replace B := Bl.then B hq
    clear hq
    go_wp2_with fail
    refine (c_number ⟨y.toArray⟩ _ (by rw [arr_size]; omega) (hE.to B)).mono ?_
    rw [arr_list]
    rintro e w3 ⟨b, rfl, hb, b1, b2, hq⟩
    replace B := Bl.then B hq
    clear hq
    generalize numV x = u at ha hx HV
    generalize numV y = v at hb hy HV
    have HA := Lib.hid ha
    have HB := Lib.hid hb
    clear ha hb
    by_cases hu : 0 ≤ u
    · obtain rfl : a = u := HA.out hu
      have du : decide (0 ≤ a) = true := by rw [decide_eq_true_eq]; exact hu
      by_cases hw : 0 ≤ v
      · obtain rfl : b = v := HB.out hw
        have dv : decide (0 ≤ b) = true := by rw [decide_eq_true_eq]; exact hw
        by_cases h3 : a < 256
        · have d3 : decide (a < 256) = true := by rw [decide_eq_true_eq]; exact h3
          by_cases h4 : b < 256
          · have d4 : decide (b < 256) = true := by rw [decide_eq_true_eq]; exact h4
            have HW : Hid (addrV s.data.toList = 256 * a + b) := by rw [Hid, HV.out, if_pos (by rw [inB_mk hu (by omega), inB_mk hw (by omega)]; rfl)]
            have HD : Hid (decide (0 ≤ addrV s.data.toList) = true) := by rw [Hid, HW.out, decide_eq_true_eq]; omega
            go_wp2
            go_ret2
            exact ⟨_, by rw [HD.out]; rfl, fun _ => by rw [HW.out]; omega, B⟩
          · have d4 : decide (b < 256) = false := by rw [decide_eq_false_iff_not]; exact h4
            have HW : Hid (addrV s.data.toList = -1) := by rw [Hid, HV.out, if_neg (by simp only [Bool.and_eq_true]; exact fun h => by have := inB_true h.2; omega)]
            have HD : Hid (decide (0 ≤ addrV s.data.toList) = false) := by rw [Hid, HW.out]; rfl
            go_wp2
            go_ret2
            exact ⟨_, by rw [HD.out]; rfl, fun h => by rw [HW.out] at h; omega, B⟩
        · have d3 : decide (a < 256) = false := by rw [decide_eq_false_iff_not]; exact h3
          have HW : Hid (addrV s.data.toList = -1) := by rw [Hid, HV.out, if_neg (by simp only [Bool.and_eq_true]; exact fun h => by have := inB_true h.1; omega)]
          have HD : Hid (decide (0 ≤ addrV s.data.toList) = false) := by rw [Hid, HW.out]; rfl
          go_wp2
          go_ret2
          exact ⟨_, by rw [HD.out]; rfl, fun h => by rw [HW.out] at h; omega, B⟩
      · have dv : decide (0 ≤ v) = false := by rw [decide_eq_false_iff_not]; exact hw
        have HW : Hid (addrV s.data.toList = -1) := by rw [Hid, HV.out, if_neg (by simp only [Bool.and_eq_true]; exact fun h => by have := inB_true h.2; omega)]
        have HD : Hid (decide (0 ≤ addrV s.data.toList) = false) := by rw [Hid, HW.out]; rfl
        go_wp2
        go_ret2
        exact ⟨_, by rw [HD.out]; rfl, fun h => by rw [HW.out] at h; omega, B⟩
    · have du : decide (0 ≤ u) = false := by rw [decide_eq_false_iff_not]; exact hu
      have HW : Hid (addrV s.data.toList = -1) := by rw [Hid, HV.out, if_neg (by simp only [Bool.and_eq_true]; exact fun h => by have := inB_true h.1; omega)]
      have HD : Hid (decide (0 ≤ addrV s.data.toList) = false) := by rw [Hid, HW.out]; rfl
      go_wp2
      go_ret2
      exact ⟨_, by rw [HD.out]; rfl, fun h => by rw [HW.out] at h; omega, B⟩

theorem so_two {w : World} {base : Nat} {v : Value} {xs : List ByteArray} (h : SO w base v xs) (h2 : xs.length = 2) : ∃ g c x y, v = .slice (some ⟨g, 0, none⟩) 2 c ∧ xs = [x, y] ∧ base ≤ g ∧ g < w.heap.size ∧ w.cell? ⟨g, 0, none⟩ = some (.string x) ∧ w.cell? ⟨g, 1, none⟩ = some (.string y) := by
  unfold SO at h
  match xs, h2 with
  | [x, y], _ =>
    obtain ⟨g, cap, rfl, hb, hl⟩ := World.ownsRow.form h (by simp)
    refine ⟨g, cap, x, y, rfl, rfl, hb, hl, ?_, ?_⟩
    · rw [World.ownsRow.cellAt h 0 (by simp)]; rfl
    · rw [World.ownsRow.cellAt h 1 (by simp)]; rfl

set_option maxHeartbeats 1600000 in
theorem c_parseAddr (s : ByteArray) (w : World) (hs : s.size ≤ 4000000000) :
    Calls Tryd.prog 66 #[.string s] w fun e w' => e = .returned (.int .i64 (addrV s.data.toList)) ∧ Below w.heap.size w w' := by
  go_enter Tryd.func66, Tryd.ntmps66
  go_wp2_with fail
  refine (c_splitAt s 46 _ hs).mono ?_
  rintro e w1 ⟨v, xs, rfl, ho, hxs, B⟩
  by_cases h2 : xs.length = 2
  · obtain ⟨g, cc, x, y, rfl, rfl, hgb, hgl, hc0, hc1⟩ := so_two ho h2
    obtain ⟨q1, q2⟩ := two_parts hxs.symm
    obtain ⟨l1, l2⟩ := cut_len q1
    rw [← size_list, ← size_list] at l1 l2
    have hv : addrV s.data.toList = if inB (numV x.data.toList) 0 255 && inB (numV y.data.toList) 0 255 then 256 * numV x.data.toList + numV y.data.toList else -1 := by unfold addrV; rw [q1]
    have HV := Lib.hid hv
    clear hv q1 q2 hxs h2 ho
    go_wp2_with fail
    refine (c_parseInt x _ (by omega)).mono ?_
    rintro e w2 ⟨rfl, hq⟩
    replace hc1 := cell_keep hc1 hq
    replace B := Bl.then B hq
    have hgl2 := Nat.lt_of_lt_of_le hgl hq.size
    clear hq hc0
    go_wp2_with fail
    refine (c_parseInt y _ (by omega)).mono ?_
    rintro e w3 ⟨rfl, hq⟩
    replace B := Bl.then B hq
    have hx := numV_bd x.data.toList
    have hy := numV_bd y.data.toList
    generalize numV x.data.toList = a at hx HV
    generalize numV y.data.toList = b at hy HV
    clear hq
    cases i1 : inB a 0 255
    · have HW : Hid (addrV s.data.toList = -1) := by rw [Hid, HV.out, i1]; rfl
      go_wp2_with fail
      refine (c_inRange _ _ _ _).mono ?_
      rw [i1]
      rintro e w' ⟨rfl, rfl⟩
      go_wp2
      go_ret
      exact ⟨by rw [HW.out]; rfl, B⟩
    · go_wp2_with fail
      refine (c_inRange _ _ _ _).mono ?_
      rw [i1]
      rintro e w' ⟨rfl, rfl⟩
      cases i2 : inB b 0 255
      · have HW : Hid (addrV s.data.toList = -1) := by rw [Hid, HV.out, i1, i2]; rfl
        go_wp2_with fail
        refine (c_inRange _ _ _ _).mono ?_
        rw [i2]
        rintro e w' ⟨rfl, rfl⟩
        go_wp2
        go_ret
        exact ⟨by rw [HW.out]; rfl, B⟩
      · have HW : Hid (addrV s.data.toList = 256 * a + b) := by rw [Hid, HV.out, i1, i2]; rfl
        go_wp2_with fail
        refine (c_inRange _ _ _ _).mono ?_
        rw [i2]
        rintro e w' ⟨rfl, rfl⟩
        go_wp2
        go_ret
        exact ⟨by rw [HW.out]; rfl, B⟩
  · obtain ⟨E, cE, rfl, -, -, -⟩ := own_slice ho
    have hl : (spl s.data.toList 46).length ≠ 2 := by rw [← hxs, List.length_map]; exact h2
    have HV := Lib.hid (addrV_not hl)
    have t0 : ((xs.length : Int) == 2) = false := by rw [beq_eq_false_iff_ne]; omega
    clear hl hxs ho
    go_wp2
    go_ret
    exact ⟨by rw [HV.out]; rfl, B⟩

set_option maxHeartbeats 3200000 in
theorem c_iParseEnd (s : ByteArray) (w : World) (hs : s.size ≤ 4000000000) (hE : EnvP w) :
    Calls Tryd.prog 31 #[.string s] w fun e w' => e = .returned (parV (parE s.data.toList)) ∧ Below w.heap.size w w' := by
  have r0 := Blk.new w 25 #[.int .i64 0, .int .i64 0]
  have B : Below w.heap.size w (w.alloc (.cells #[.int .i64 0, .int .i64 0] 25)) := (Below.refl _ _).alloc (Nat.le_refl _) _
  have J := Lib.hid (c_Cut s 58 _ hs (hE.to B))
  cases hc : cutc s.data.toList 58 with
  | none =>
    have HO := Lib.hid (show parE s.data.toList = none by unfold parE; rw [hc])
    rw [hc] at J
    clear hc
    go_enter Tryd.func31, Tryd.ntmps31
    go_wp2_with fail
    refine J.out.mono ?_
    rintro e w1 ⟨hq, rfl⟩
    replace r0 := r0.to hq
    replace B := Bl.then B hq
    clear hq J
    go_wp2_with fail
    refine (c_readAddr s _ hs (hE.to B)).mono ?_
    generalize decide (0 ≤ addrV s.data.toList) = q1
    rintro e w2 ⟨a, rfl, -, hq⟩
    replace r0 := r0.to hq
    replace B := Bl.then B hq
    clear hq
    go_wp2_with fail
    refine (c_number ⟨#[]⟩ _ (by decide) (hE.to B)).mono ?_
    generalize decide (0 ≤ numV (⟨#[]⟩ : ByteArray).data.toList) = q2
    rintro e w3 ⟨b, rfl, -, -, -, hq⟩
    replace r0 := (r0.to hq).alloc (.cells #[.int .i64 a, .int .i64 b] 25)
    replace B := (Bl.then B hq).alloc (Bl.then B hq).size (.cells #[.int .i64 a, .int .i64 b] 25)
    clear hq
    have e0 := r0.cell 0
    have e1 := r0.cell 1
    have f0 := r0.frozen 0
    have f1 := r0.frozen 1
    simp only [List.getElem?_toArray, List.getElem?_cons_zero, List.getElem?_cons_succ] at e0 e1
    have hlt0 := r0.lt
    go_wp2
    generalize hwf : (((w3.alloc (.cells #[.int .i64 a, .int .i64 b] 25)).setCell { block := w.heap.size, off := 0 } (Value.int IntKind.i64 0)).setCell { block := w.heap.size, off := 1 } (Value.int IntKind.i64 0)) = wf
    have z : Blk wf w.heap.size 25 #[.int .i64 0, .int .i64 0] := by rw [← hwf]; exact (r0.set_ 0 _).set_ 1 _
    have Bf : Below w.heap.size w wf := by rw [← hwf]; exact (B.setCell (Nat.le_refl _) _).setCell (Nat.le_refl _) _
    have z0 := z.cell 0
    have z1 := z.cell 1
    simp only [List.getElem?_toArray, List.getElem?_cons_zero, List.getElem?_cons_succ] at z0 z1
    refine bodyPost_ret (v := .tuple #[.agg #[.int .i64 0, .int .i64 0], .bool false]) (by simp [results, Tryd.results31, go_sem, z0, z1]) rfl ?_
    exact ⟨by rw [HO.out]; rfl, Bf⟩
  | some p =>
    obtain ⟨x, y⟩ := p
    obtain ⟨l1, l2⟩ := cut_len hc
    rw [← size_list] at l1 l2
    have hp : parE s.data.toList = if inB (addrV x) 0 65535 && inB (numV y) 0 65535 then some (addrV x, numV y) else none := by unfold parE; rw [hc]
    have hpos : 0 < s.size := by rw [size_list, (cutc_eq hc).1]; simp; omega
    have HT := Lib.hid (fun a p => parE_text (s := s) (a := a) (p := p))
    have HO1 := Lib.hid hp
    rw [hc] at J
    clear hc hp
    have bx := addrV_bd x
    have by' := numV_bd y
    go_enter Tryd.func31, Tryd.ntmps31
    go_wp2_with fail
    refine J.out.mono ?_
    rintro e w1 ⟨hq, rfl⟩
    replace r0 := r0.to hq
    replace B := Bl.then B hq
    clear hq J
    go_wp2_with fail
    refine (c_readAddr ⟨x.toArray⟩ _ (by rw [arr_size]; omega) (hE.to B)).mono ?_
    rw [arr_list]
    rintro e w2 ⟨a, rfl, ha, hq⟩
    replace r0 := r0.to hq
    replace B := Bl.then B hq
    clear hq
    go_wp2_with fail
    refine (c_number ⟨y.toArray⟩ _ (by rw [arr_size]; omega) (hE.to B)).mono ?_
    rw [arr_list]
    rintro e w3 ⟨n, rfl, hn, -, -, hq⟩
    replace r0 := (r0.to hq).alloc (.cells #[.int .i64 a, .int .i64 n] 25)
    replace B := (Bl.then B hq).alloc (Bl.then B hq).size (.cells #[.int .i64 a, .int .i64 n] 25)
    have k1 := Blk.new w3 25 #[.int .i64 a, .int .i64 n]
    have HA := Lib.hid ha
    have HN := Lib.hid hn
    clear hq ha hn
    have e0 := r0.cell 0
    have e1 := r0.cell 1
    have f0 := r0.frozen 0
    have f1 := r0.frozen 1
    simp only [List.getElem?_toArray, List.getElem?_cons_zero, List.getElem?_cons_succ] at e0 e1
    have hlt0 := r0.lt
    generalize addrV x = u at HA bx HO1
    generalize numV y = v at HN by' HO1
    by_cases hu : 0 ≤ u
    · obtain rfl : a = u := HA.out hu
      have du : decide (0 ≤ a) = true := by rw [decide_eq_true_eq]; exact hu
      by_cases hw : 0 ≤ v
      · obtain rfl : n = v := HN.out hw
        have dv : decide (0 ≤ n) = true := by rw [decide_eq_true_eq]; exact hw
        go_wp2_with fail
        refine (c_iFormatEnd a n _ (hE.tab.to B)).mono ?_
        rintro e w4 ⟨rfl, hq⟩
        replace r0 := r0.to hq
        replace k1 := k1.to hq
        replace B := Bl.then B hq
        clear e0 e1 f0 f1 hlt0 hq
        have e0 := r0.cell 0
        have e1 := r0.cell 1
        have f0 := r0.frozen 0
        have f1 := r0.frozen 1
        simp only [List.getElem?_toArray, List.getElem?_cons_zero, List.getElem?_cons_succ] at e0 e1
        have hlt0 := r0.lt
        have m0 := k1.cell 0
        have m1 := k1.cell 1
        have hlt1 := k1.lt
        simp only [List.getElem?_toArray, List.getElem?_cons_zero, List.getElem?_cons_succ] at m0 m1
        cases hv : inB a 0 65535 && inB n 0 65535
        · have HO : Hid (parE s.data.toList = none) := by rw [Hid, HO1.out, hv]; rfl
          have hf : fmtEnd a n = ⟨#[]⟩ := by unfold fmtEnd; rw [hv]; rfl
          have hem : ((fmtEnd a n).toList == s.toList) = false := bytes_neq (fun e => by
            have h1 := congrArg List.length e
            rw [hf, ← size_list, ← size_list] at h1
            have h2 : (⟨#[]⟩ : ByteArray).size = 0 := rfl
            omega)
          clear hf
          generalize fmtEnd a n = D at hem ⊢
          clear hv
          go_wp2
          generalize hwf : ((w4.setCell { block := w.heap.size, off := 0 } (Value.int IntKind.i64 0)).setCell { block := w.heap.size, off := 1 } (Value.int IntKind.i64 0)) = wf
          have z : Blk wf w.heap.size 25 #[.int .i64 0, .int .i64 0] := by rw [← hwf]; exact (r0.set_ 0 _).set_ 1 _
          have Bf : Below w.heap.size w wf := by rw [← hwf]; exact (B.setCell (Nat.le_refl _) _).setCell (Nat.le_refl _) _
          have z0 := z.cell 0
          have z1 := z.cell 1
          simp only [List.getElem?_toArray, List.getElem?_cons_zero, List.getElem?_cons_succ] at z0 z1
          refine bodyPost_ret (v := .tuple #[.agg #[.int .i64 0, .int .i64 0], .bool false]) (by simp [results, Tryd.results31, go_sem, z0, z1]) rfl ?_
          exact ⟨by rw [HO.out]; rfl, Bf⟩
        · have HO : Hid (parE s.data.toList = some (a, n)) := by rw [Hid, HO1.out, hv]; rfl
          have hf : fmtEnd a n = s := (HT.out a n HO.out).2
          rw [hf]
          clear hf hv
          go_wp2
          generalize hwf : ((w4.setCell { block := w.heap.size, off := 0 } (Value.int IntKind.i64 a)).setCell { block := w.heap.size, off := 1 } (Value.int IntKind.i64 n)) = wf
          have z : Blk wf w.heap.size 25 #[.int .i64 a, .int .i64 n] := by rw [← hwf]; exact (r0.set_ 0 _).set_ 1 _
          have Bf : Below w.heap.size w wf := by rw [← hwf]; exact (B.setCell (Nat.le_refl _) _).setCell (Nat.le_refl _) _
          have z0 := z.cell 0
          have z1 := z.cell 1
          simp only [List.getElem?_toArray, List.getElem?_cons_zero, List.getElem?_cons_succ] at z0 z1
          refine bodyPost_ret (v := .tuple #[.agg #[.int .i64 a, .int .i64 n], .bool true]) (by simp [results, Tryd.results31, go_sem, z0, z1]) rfl ?_
          exact ⟨by rw [HO.out]; rfl, Bf⟩
      · have dv : decide (0 ≤ v) = false := by rw [decide_eq_false_iff_not]; exact hw
        have HO : Hid (parE s.data.toList = none) := by rw [Hid, HO1.out, if_neg (fun hv => by have := (inB_true (by simp only [Bool.and_eq_true] at hv; exact hv.2)).1; omega)]
        go_wp2
        generalize hwf : (((w3.alloc (.cells #[.int .i64 a, .int .i64 n] 25)).setCell { block := w.heap.size, off := 0 } (Value.int IntKind.i64 0)).setCell { block := w.heap.size, off := 1 } (Value.int IntKind.i64 0)) = wf
        have z : Blk wf w.heap.size 25 #[.int .i64 0, .int .i64 0] := by rw [← hwf]; exact (r0.set_ 0 _).set_ 1 _
        have Bf : Below w.heap.size w wf := by rw [← hwf]; exact (B.setCell (Nat.le_refl _) _).setCell (Nat.le_refl _) _
        have z0 := z.cell 0
        have z1 := z.cell 1
        simp only [List.getElem?_toArray, List.getElem?_cons_zero, List.getElem?_cons_succ] at z0 z1
        refine bodyPost_ret (v := .tuple #[.agg #[.int .i64 0, .int .i64 0], .bool false]) (by simp [results, Tryd.results31, go_sem, z0, z1]) rfl ?_
        exact ⟨by rw [HO.out]; rfl, Bf⟩
    · have du : decide (0 ≤ u) = false := by rw [decide_eq_false_iff_not]; exact hu
      have HO : Hid (parE s.data.toList = none) := by rw [Hid, HO1.out, if_neg (fun hv => by have := (inB_true (by simp only [Bool.and_eq_true] at hv; exact hv.1)).1; omega)]
      go_wp2
      generalize hwf : (((w3.alloc (.cells #[.int .i64 a, .int .i64 n] 25)).setCell { block := w.heap.size, off := 0 } (Value.int IntKind.i64 0)).setCell { block := w.heap.size, off := 1 } (Value.int IntKind.i64 0)) = wf
      have z : Blk wf w.heap.size 25 #[.int .i64 0, .int .i64 0] := by rw [← hwf]; exact (r0.set_ 0 _).set_ 1 _
      have Bf : Below w.heap.size w wf := by rw [← hwf]; exact (B.setCell (Nat.le_refl _) _).setCell (Nat.le_refl _) _
      have z0 := z.cell 0
      have z1 := z.cell 1
      simp only [List.getElem?_toArray, List.getElem?_cons_zero, List.getElem?_cons_succ] at z0 z1
      refine bodyPost_ret (v := .tuple #[.agg #[.int .i64 0, .int .i64 0], .bool false]) (by simp [results, Tryd.results31, go_sem, z0, z1]) rfl ?_
      exact ⟨by rw [HO.out]; rfl, Bf⟩

set_option maxHeartbeats 3200000 in
theorem c_iParseNet (s : ByteArray) (w : World) (hs : s.size ≤ 4000000000) (hE : EnvP w) :
    Calls Tryd.prog 32 #[.string s] w fun e w' => e = .returned (parV (parN s.data.toList)) ∧ Below w.heap.size w w' := by
  have r0 := Blk.new w 31 #[.int .i64 0, .int .i64 0]
  have B : Below w.heap.size w (w.alloc (.cells #[.int .i64 0, .int .i64 0] 31)) := (Below.refl _ _).alloc (Nat.le_refl _) _
  have J := Lib.hid (c_Cut s 47 _ hs (hE.to B))
  cases hc : cutc s.data.toList 47 with
  | none =>
    have HO := Lib.hid (show parN s.data.toList = none by unfold parN; rw [hc])
    rw [hc] at J
    clear hc
    go_enter Tryd.func32, Tryd.ntmps32
    go_wp2_with fail
    refine J.out.mono ?_
    rintro e w1 ⟨hq, rfl⟩
    replace r0 := r0.to hq
    replace B := Bl.then B hq
    clear hq J
    go_wp2_with fail
    refine (c_readAddr s _ hs (hE.to B)).mono ?_
    generalize decide (0 ≤ addrV s.data.toList) = q1
    rintro e w2 ⟨a, rfl, -, hq⟩
    replace r0 := r0.to hq
    replace B := Bl.then B hq
    clear hq
    go_wp2_with fail
    refine (c_number ⟨#[]⟩ _ (by decide) (hE.to B)).mono ?_
    generalize decide (0 ≤ numV (⟨#[]⟩ : ByteArray).data.toList) = q2
    rintro e w3 ⟨b, rfl, -, -, -, hq⟩
    replace r0 := (r0.to hq).alloc (.cells #[.int .i64 a, .int .i64 b] 31)
    replace B := (Bl.then B hq).alloc (Bl.then B hq).size (.cells #[.int .i64 a, .int .i64 b] 31)
    clear hq
    have e0 := r0.cell 0
    have e1 := r0.cell 1
    have f0 := r0.frozen 0
    have f1 := r0.frozen 1
    simp only [List.getElem?_toArray, List.getElem?_cons_zero, List.getElem?_cons_succ] at e0 e1
    have hlt0 := r0.lt
    go_wp2
    generalize hwf : (((w3.alloc (.cells #[.int .i64 a, .int .i64 b] 31)).setCell { block := w.heap.size, off := 0 } (Value.int IntKind.i64 0)).setCell { block := w.heap.size, off := 1 } (Value.int IntKind.i64 0)) = wf
    have z : Blk wf w.heap.size 31 #[.int .i64 0, .int .i64 0] := by rw [← hwf]; exact (r0.set_ 0 _).set_ 1 _
    have Bf : Below w.heap.size w wf := by rw [← hwf]; exact (B.setCell (Nat.le_refl _) _).setCell (Nat.le_refl _) _
    have z0 := z.cell 0
    have z1 := z.cell 1
    simp only [List.getElem?_toArray, List.getElem?_cons_zero, List.getElem?_cons_succ] at z0 z1
    refine bodyPost_ret (v := .tuple #[.agg #[.int .i64 0, .int .i64 0], .bool false]) (by simp [results, Tryd.results32, go_sem, z0, z1]) rfl ?_
    exact ⟨by rw [HO.out]; rfl, Bf⟩
  | some p =>
    obtain ⟨x, y⟩ := p
    obtain ⟨l1, l2⟩ := cut_len hc
    rw [← size_list] at l1 l2
    have hp : parN s.data.toList = if vNet (addrV x) (numV y) then some (addrV x, numV y) else none := by unfold parN; rw [hc]
    have hpos : 0 < s.size := by rw [size_list, (cutc_eq hc).1]; simp; omega
    have HT := Lib.hid (fun a p => parN_text (s := s) (a := a) (p := p))
    have HO1 := Lib.hid hp
    rw [hc] at J
    clear hc hp
    have bx := addrV_bd x
    have by' := numV_bd y
    go_enter Tryd.func32, Tryd.ntmps32
    go_wp2_with fail
    refine J.out.mono ?_
    rintro e w1 ⟨hq, rfl⟩
    replace r0 := r0.to hq
    replace B := Bl.then B hq
    clear hq J
    go_wp2_with fail
    refine (c_readAddr ⟨x.toArray⟩ _ (by rw [arr_size]; omega) (hE.to B)).mono ?_
    rw [arr_list]
    rintro e w2 ⟨a, rfl, ha, hq⟩
    replace r0 := r0.to hq
    replace B := Bl.then B hq
    clear hq
    go_wp2_with fail
    refine (c_number ⟨y.toArray⟩ _ (by rw [arr_size]; omega) (hE.to B)).mono ?_
    rw [arr_list]
    rintro e w3 ⟨n, rfl, hn, -, -, hq⟩
    replace r0 := (r0.to hq).alloc (.cells #[.int .i64 a, .int .i64 n] 31)
    replace B := (Bl.then B hq).alloc (Bl.then B hq).size (.cells #[.int .i64 a, .int .i64 n] 31)
    have k1 := Blk.new w3 31 #[.int .i64 a, .int .i64 n]
    have HA := Lib.hid ha
    have HN := Lib.hid hn
    clear hq ha hn
    have e0 := r0.cell 0
    have e1 := r0.cell 1
    have f0 := r0.frozen 0
    have f1 := r0.frozen 1
    simp only [List.getElem?_toArray, List.getElem?_cons_zero, List.getElem?_cons_succ] at e0 e1
    have hlt0 := r0.lt
    generalize addrV x = u at HA bx HO1
    generalize numV y = v at HN by' HO1
    by_cases hu : 0 ≤ u
    · obtain rfl : a = u := HA.out hu
      have du : decide (0 ≤ a) = true := by rw [decide_eq_true_eq]; exact hu
      by_cases hw : 0 ≤ v
      · obtain rfl : n = v := HN.out hw
        have dv : decide (0 ≤ n) = true := by rw [decide_eq_true_eq]; exact hw
        go_wp2_with fail
        refine (c_iFormatNet a n _ (hE.tab.to B)).mono ?_
        rintro e w4 ⟨rfl, hq⟩
        replace r0 := r0.to hq
        replace k1 := k1.to hq
        replace B := Bl.then B hq
        clear e0 e1 f0 f1 hlt0 hq
        have e0 := r0.cell 0
        have e1 := r0.cell 1
        have f0 := r0.frozen 0
        have f1 := r0.frozen 1
        simp only [List.getElem?_toArray, List.getElem?_cons_zero, List.getElem?_cons_succ] at e0 e1
        have hlt0 := r0.lt
        have m0 := k1.cell 0
        have m1 := k1.cell 1
        have hlt1 := k1.lt
        simp only [List.getElem?_toArray, List.getElem?_cons_zero, List.getElem?_cons_succ] at m0 m1
        cases hv : vNet a n
        · have HO : Hid (parN s.data.toList = none) := by rw [Hid, HO1.out, hv]; rfl
          have hf : fmtNet a n = ⟨#[]⟩ := by unfold fmtNet; rw [hv]; rfl
          have hem : ((fmtNet a n).toList == s.toList) = false := bytes_neq (fun e => by
            have h1 := congrArg List.length e
            rw [hf, ← size_list, ← size_list] at h1
            have h2 : (⟨#[]⟩ : ByteArray).size = 0 := rfl
            omega)
          clear hf
          generalize fmtNet a n = D at hem ⊢
          clear hv
          go_wp2
          generalize hwf : ((w4.setCell { block := w.heap.size, off := 0 } (Value.int IntKind.i64 0)).setCell { block := w.heap.size, off := 1 } (Value.int IntKind.i64 0)) = wf
          have z : Blk wf w.heap.size 31 #[.int .i64 0, .int .i64 0] := by rw [← hwf]; exact (r0.set_ 0 _).set_ 1 _
          have Bf : Below w.heap.size w wf := by rw [← hwf]; exact (B.setCell (Nat.le_refl _) _).setCell (Nat.le_refl _) _
          have z0 := z.cell 0
          have z1 := z.cell 1
          simp only [List.getElem?_toArray, List.getElem?_cons_zero, List.getElem?_cons_succ] at z0 z1
          refine bodyPost_ret (v := .tuple #[.agg #[.int .i64 0, .int .i64 0], .bool false]) (by simp [results, Tryd.results32, go_sem, z0, z1]) rfl ?_
          exact ⟨by rw [HO.out]; rfl, Bf⟩
        · have HO : Hid (parN s.data.toList = some (a, n)) := by rw [Hid, HO1.out, hv]; rfl
          have hf : fmtNet a n = s := (HT.out a n HO.out).2
          rw [hf]
          clear hf hv
          go_wp2
          generalize hwf : ((w4.setCell { block := w.heap.size, off := 0 } (Value.int IntKind.i64 a)).setCell { block := w.heap.size, off := 1 } (Value.int IntKind.i64 n)) = wf
          have z : Blk wf w.heap.size 31 #[.int .i64 a, .int .i64 n] := by rw [← hwf]; exact (r0.set_ 0 _).set_ 1 _
          have Bf : Below w.heap.size w wf := by rw [← hwf]; exact (B.setCell (Nat.le_refl _) _).setCell (Nat.le_refl _) _
          have z0 := z.cell 0
          have z1 := z.cell 1
          simp only [List.getElem?_toArray, List.getElem?_cons_zero, List.getElem?_cons_succ] at z0 z1
          refine bodyPost_ret (v := .tuple #[.agg #[.int .i64 a, .int .i64 n], .bool true]) (by simp [results, Tryd.results32, go_sem, z0, z1]) rfl ?_
          exact ⟨by rw [HO.out]; rfl, Bf⟩
      · have dv : decide (0 ≤ v) = false := by rw [decide_eq_false_iff_not]; exact hw
        have HO : Hid (parN s.data.toList = none) := by rw [Hid, HO1.out, if_neg (fun hv => by have := (inB_true (vNet_bits hv)).1; omega)]
        go_wp2
        generalize hwf : (((w3.alloc (.cells #[.int .i64 a, .int .i64 n] 31)).setCell { block := w.heap.size, off := 0 } (Value.int IntKind.i64 0)).setCell { block := w.heap.size, off := 1 } (Value.int IntKind.i64 0)) = wf
        have z : Blk wf w.heap.size 31 #[.int .i64 0, .int .i64 0] := by rw [← hwf]; exact (r0.set_ 0 _).set_ 1 _
        have Bf : Below w.heap.size w wf := by rw [← hwf]; exact (B.setCell (Nat.le_refl _) _).setCell (Nat.le_refl _) _
        have z0 := z.cell 0
        have z1 := z.cell 1
        simp only [List.getElem?_toArray, List.getElem?_cons_zero, List.getElem?_cons_succ] at z0 z1
        refine bodyPost_ret (v := .tuple #[.agg #[.int .i64 0, .int .i64 0], .bool false]) (by simp [results, Tryd.results32, go_sem, z0, z1]) rfl ?_
        exact ⟨by rw [HO.out]; rfl, Bf⟩
    · have du : decide (0 ≤ u) = false := by rw [decide_eq_false_iff_not]; exact hu
      have HO : Hid (parN s.data.toList = none) := by rw [Hid, HO1.out, if_neg (fun hv => by have := (inB_true (vNet_base hv)).1; omega)]
      go_wp2
      generalize hwf : (((w3.alloc (.cells #[.int .i64 a, .int .i64 n] 31)).setCell { block := w.heap.size, off := 0 } (Value.int IntKind.i64 0)).setCell { block := w.heap.size, off := 1 } (Value.int IntKind.i64 0)) = wf
      have z : Blk wf w.heap.size 31 #[.int .i64 0, .int .i64 0] := by rw [← hwf]; exact (r0.set_ 0 _).set_ 1 _
      have Bf : Below w.heap.size w wf := by rw [← hwf]; exact (B.setCell (Nat.le_refl _) _).setCell (Nat.le_refl _) _
      have z0 := z.cell 0
      have z1 := z.cell 1
      simp only [List.getElem?_toArray, List.getElem?_cons_zero, List.getElem?_cons_succ] at z0 z1
      refine bodyPost_ret (v := .tuple #[.agg #[.int .i64 0, .int .i64 0], .bool false]) (by simp [results, Tryd.results32, go_sem, z0, z1]) rfl ?_
      exact ⟨by rw [HO.out]; rfl, Bf⟩
end Go.Proofs.YthlaldikdlljfaaDoor
