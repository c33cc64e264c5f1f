/- The walks of the laws FnExactFormatTable, FnTableText and FnTableTextEmpty. -/
import Derived.Test.YthlaldikdlljfaaDoorS6
import Derived.Test.YthlaldikdlljfaaDoorSW
import Derived.Test.YthlaldikdlljfaaDoorSL2
import Derived.Test.YthlaldikdlljfaaDoorT8
import Derived.Test.YthlaldikdlljfaaDoorT12
import Derived.Test.YthlaldikdlljfaaDoorTO
namespace Go.Proofs.YthlaldikdlljfaaDoor
open Go.RowKit

theorem c_DrawFormatTable (A : Option Addr) (n c : Nat) (w : World) (h : RB w A n) (hc : n ≤ c) :
    Calls Tryd.prog 29 #[.slice A n c] w fun e w' => ∃ E m d l, e = .returned (.slice E m d) ∧ l.length = m ∧ m ≤ d ∧ TM w' E l ∧ m ≤ 14 ∧ Below w.heap.size w w' := by
  go_enter Tryd.func29, Tryd.ntmps29
  go_wp2_with fail
  refine (c_newReader _ _ _ _ h hc).mono ?_
  rintro e w1 ⟨g, rfl, hr, hg, hb⟩
  go_wp2_with fail
  refine (c_anyTable _ _ _ hr (by omega)).mono ?_
  rintro e w2 ⟨v, l, p1, rfl, ho, hl, hr, hp1, hg1⟩
  obtain ⟨E, d, rfl, hd, -, -⟩ := ho.slice
  go_wp2
  go_ret
  exact ⟨E, _, d, l, rfl, rfl, hd, ho.tm rfl, hl, hb.trans (below_of_grown hg1 hb.size hg)⟩

set_option maxHeartbeats 1600000 in
theorem l_FnExactFormatTable (A : Option Addr) (n c : Nat) (a : List Mpg) (w : World) (hn : a.length = n) (hm : n ≤ maxLen) (h : TM w A a) (hE : TabE w) :
    Calls Tryd.prog 7 #[.slice A n c] w fun e w' => e = .returned (.bool true) ∧ Below w.heap.size w w' := by
  have HN := Lib.hid hn
  clear hn
  by_cases hbig : 1048576 - (n : Int) < 0
  · go_enter Tryd.func7, Tryd.ntmps7
    go_wp2_with fail
    refine (c_szMappingS _ _ _ _ _ (by omega) (by omega) hm).mono ?_
    rw [if_pos hbig]
    rintro e w' ⟨rfl, rfl⟩
    go_wp2
    go_ret
    exact ⟨rfl, Below.refl _ _⟩
  have t0 : decide (1048576 - (n : Int) < 0) = false := by rw [decide_eq_false_iff_not]; exact hbig
  have BB := Below.refl w.heap.size w
  have HG := Lib.hid (show ∀ w' , Below w.heap.size w w' → TM w' A a from fun w' b => h.to b)
  go_enter Tryd.func7, Tryd.ntmps7
  go_wp2_with fail
  refine (c_szMappingS _ _ _ _ _ (by omega) (by omega) hm).mono ?_
  rw [if_neg (by omega)]
  rintro e w' ⟨rfl, rfl⟩
  go_wp2_with fail
  refine (c_toMappingS _ _ _ a _ HN.out (HG.out _ BB) (by omega)).mono ?_
  rintro e v1 ⟨A1, n1, d1, rfl, e1, O1, hq⟩
  replace BB := Bl.then BB hq
  clear hq
  obtain rfl : n = n1 := HN.out.symm.trans e1
  clear e1
  go_wp2_with fail
  refine (c_sFormatTable _ _ _ a _ HN.out O1.1 (by omega)).mono ?_
  rintro e v2 ⟨rfl, hq⟩
  replace BB := Bl.then BB hq
  clear hq O1
  go_wp2_with fail
  refine (c_toMappingS _ _ _ a _ HN.out (HG.out _ BB) (by omega)).mono ?_
  rintro e v3 ⟨A2, n2, d2, rfl, e2, O2, hq⟩
  replace BB := Bl.then BB hq
  clear hq
  obtain rfl : n = n2 := HN.out.symm.trans e2
  clear e2
  go_wp2_with fail
  refine (c_iFormatTable _ _ _ a _ HN.out O2.2.2.1 O2.1 (by omega) (hE.to BB)).mono ?_
  rintro e v4 ⟨rfl, hq⟩
  replace O2 := O2.to hq
  replace BB := Bl.then BB hq
  clear hq
  go_wp2_with fail
  refine (c_toMappingS _ _ _ a _ HN.out (HG.out _ BB) (by omega)).mono ?_
  rintro e v5 ⟨A3, n3, d3, rfl, e3, O3, hq⟩
  replace O2 := O2.to hq
  replace BB := Bl.then BB hq
  clear hq
  obtain rfl : n = n3 := HN.out.symm.trans e3
  clear e3
  go_wp2_with fail
  refine (c_eqMappingS _ _ _ _ _ a _ HN.out O2.1 O3.1 (by omega)).mono ?_
  rintro e v6 ⟨rfl, hq⟩
  replace BB := Bl.then BB hq
  go_wp2
  go_ret
  exact ⟨rfl, BB⟩

theorem tabT_bad {l : List Mpg} (h : vTab l = false) : tabT l = ⟨#[]⟩ := by unfold tabT; rw [h]; rfl
theorem tabT_list {l : List Mpg} (h : vTab l = true) : (tabT l).data.toList = tabL l := by unfold tabT; rw [h, if_pos rfl]
/-- How often a byte stands among the first ones. -/
def cntB (s : ByteArray) (c : UInt8) (k : Nat) : Nat := (s.data.toList.take k).count c
theorem cntB_succ {s : ByteArray} {c : UInt8} {k : Nat} (h : k < s.size) : cntB s c (k + 1) = cntB s c k + if byt s k = (c.toNat : Int) then 1 else 0 := by
  unfold cntB byt
  rw [size_list] at h
  rw [List.take_add_one, List.getElem?_eq_getElem h, List.count_append, Option.getD_some]
  congr 1
  rw [Option.toList_some, List.count_singleton]
  by_cases e : s.data.toList[k] = c
  · rw [e]; simp
  · have e1 : (s.data.toList[k] == c) = false := by rw [beq_eq_false_iff_ne]; exact e
    have e2 : ¬ ((s.data.toList[k].toNat : Int) = (c.toNat : Int)) := fun x => e (UInt8.toNat_inj.1 (by omega))
    rw [e1, if_neg e2]; rfl
theorem cntB_le (s : ByteArray) (c : UInt8) (k : Nat) : cntB s c k ≤ k := by
  unfold cntB
  exact Nat.le_trans List.count_le_length (by rw [List.length_take]; omega)
theorem dl_count {n : Int} {c : UInt8} (h : c.toNat < 48 ∨ 57 < c.toNat) : (dl n).count c = 0 := by
  rw [List.count_eq_zero]
  intro hc
  have := dl_dig hc
  omega
theorem fmtEnd_list {a p : Int} (h : (inB a 0 65535 && inB p 0 65535) = true) : (fmtEnd a p).data.toList = aL a ++ 58 :: dl p := by unfold fmtEnd; rw [h, if_pos rfl, fmtE_list]
theorem okM_end {m : Mpg} (h : okM m = true) : (inB m.ad 0 65535 && inB m.ep 0 65535) = true := by unfold okM at h; rw [Bool.and_eq_true] at h; exact h.1
theorem partL_eq {m : Mpg} (h : okM m = true) : partL m = aL m.ad ++ 58 :: (dl m.ep ++ 32 :: (dl m.po ++ 32 :: dl m.la)) := by
  unfold partL partB
  simp only [ByteArray.data_append, Array.toList_append, fmtEnd_list (okM_end h), dec_list]
  simp
theorem part_colon {m : Mpg} (h : okM m = true) : (partL m).count 58 = 1 := by
  rw [partL_eq h]
  unfold aL
  simp [dl_count (c := 58) (n := m.ad / 256) (by decide), dl_count (c := 58) (n := m.ad % 256) (by decide), dl_count (c := 58) (n := m.ep) (by decide), dl_count (c := 58) (n := m.po) (by decide), dl_count (c := 58) (n := m.la) (by decide)]
theorem part_semi {m : Mpg} (h : okM m = true) : (partL m).count 59 = 0 := by
  rw [partL_eq h]
  unfold aL
  simp [dl_count (c := 59) (n := m.ad / 256) (by decide), dl_count (c := 59) (n := m.ad % 256) (by decide), dl_count (c := 59) (n := m.ep) (by decide), dl_count (c := 59) (n := m.po) (by decide), dl_count (c := 59) (n := m.la) (by decide)]
theorem tail_count (c : UInt8) (a b : Nat) (ha : ([59, 32] : List UInt8).count c = a) : ∀ (r : List (List UInt8)), (∀ x ∈ r, x.count c = b) → (Lib.joinTail [59, 32] r).count c = r.length * (a + b)
  | [], _ => by simp [Lib.joinTail]
  | x :: r, h => by
    have ih := tail_count c a b ha r (fun y hy => h y (List.mem_cons_of_mem _ hy))
    have hx := h x (List.mem_cons_self ..)
    unfold Lib.joinTail at ih ⊢
    rw [List.map_cons, List.flatten_cons, List.count_append, List.count_append, ih, ha, hx, List.length_cons, Nat.add_mul]
    omega
theorem tab_okM {l : List Mpg} (h : vTab l = true) : ∀ m ∈ l, okM m = true := fun m hm => by
  obtain ⟨k, hk, rfl⟩ := mem_mn hm
  exact (tab_at h hk).1
theorem tab_count {l : List Mpg} (h : vTab l = true) (h0 : l ≠ []) : (tabL l).count 58 = l.length ∧ (tabL l).count 59 + 1 = l.length := by
  have ho := tab_okM h
  cases l with
  | nil => exact absurd rfl h0
  | cons m r =>
    unfold tabL
    rw [List.map_cons, Lib.join_cons, List.count_append, List.count_append]
    have h58 := tail_count 58 0 1 (by decide) (r.map partL) (fun x hx => by obtain ⟨y, hy, rfl⟩ := List.mem_map.1 hx; exact part_colon (ho y (List.mem_cons_of_mem _ hy)))
    have h59 := tail_count 59 1 0 (by decide) (r.map partL) (fun x hx => by obtain ⟨y, hy, rfl⟩ := List.mem_map.1 hx; exact part_semi (ho y (List.mem_cons_of_mem _ hy)))
    have a := part_colon (ho m (List.mem_cons_self ..))
    have b := part_semi (ho m (List.mem_cons_self ..))
    rw [h58, h59, a, b, List.length_map, List.length_cons]
    omega

theorem tabT_pos {l : List Mpg} (h : vTab l = true) (h0 : l ≠ []) : 0 < (tabT l).size := by
  rw [size_list, tabT_list h]
  have h1 := (tab_count h h0).1
  have h2 : (tabL l).count 58 ≤ (tabL l).length := List.count_le_length
  have : 0 < l.length := List.length_pos_iff.2 h0
  omega

set_option maxHeartbeats 1600000 in
theorem l_FnTableText (A : Option Addr) (n c : Nat) (w : World) (h : RB w A n) (hc : n ≤ c) (hE : TabE w) : Calls Tryd.prog 8 #[.slice A n c] w fun e w' => e = .returned (.bool true) ∧ Below w.heap.size w w' := by
  by_cases hbig : 1048576 < n
  · go_enter Tryd.func8, Tryd.ntmps8
    go_wp2
    go_ret
    exact ⟨rfl, Below.refl _ _⟩
  go_enter Tryd.func8, Tryd.ntmps8
  go_wp2_with fail
  refine (c_DrawFormatTable _ _ _ _ h hc).mono ?_
  rintro e w1 ⟨E, m, d, l, rfl, hl, hd, hT, hm, B⟩
  have HN := Lib.hid hl
  clear hl h
  go_wp2_with fail
  refine (c_iFormatTable _ _ _ l _ HN.out hd hT (by omega) (hE.to B)).mono ?_
  rintro e w2 ⟨rfl, hq⟩
  replace hT := hT.to hq
  replace B := Bl.then B hq
  clear hq
  cases hv : vTab l
  · have HV := Lib.hid (tabT_bad hv)
    have HO := Lib.hid hv
    clear hv
    rw [HV.out]
    go_wp2_with fail
    refine (c_sFormatTable _ _ _ l _ HN.out hT (by omega)).mono ?_
    rw [HV.out]
    rintro e w3 ⟨rfl, hq⟩
    replace hT := hT.to hq
    replace B := Bl.then B hq
    clear hq
    go_wp2_with fail
    refine (c_sFormatTable _ _ _ l _ HN.out hT (by omega)).mono ?_
    rw [HV.out]
    rintro e w3 ⟨rfl, hq⟩
    replace hT := hT.to hq
    replace B := Bl.then B hq
    clear hq
    go_wp2_with fail
    refine (c_iValidTable _ _ _ l _ HN.out hd hT (by omega)).mono ?_
    rw [HO.out]
    rintro e w4 ⟨rfl, hq⟩
    replace hT := hT.to hq
    replace B := Bl.then B hq
    clear hq
    go_wp2
    go_ret
    exact ⟨rfl, B⟩
  have HO := Lib.hid hv
  by_cases hm0 : m = 0
  · have hnil : l = [] := List.eq_nil_of_length_eq_zero (by rw [HN.out, hm0])
    have HV : Hid (tabT l = ⟨#[]⟩) := by rw [hnil]; unfold tabT tabL; rfl
    clear hv hnil
    subst hm0
    rw [HV.out]
    go_wp2_with fail
    refine (c_sFormatTable _ _ _ l _ HN.out hT (by omega)).mono ?_
    rw [HV.out]
    rintro e w3 ⟨rfl, hq⟩
    replace hT := hT.to hq
    replace B := Bl.then B hq
    clear hq
    go_wp2_with fail
    refine (c_sFormatTable _ _ _ l _ HN.out hT (by omega)).mono ?_
    rw [HV.out]
    rintro e w3 ⟨rfl, hq⟩
    replace hT := hT.to hq
    replace B := Bl.then B hq
    clear hq
    go_wp2_with fail
    refine (c_iValidTable _ _ _ l _ HN.out hd hT (by omega)).mono ?_
    rw [HO.out]
    rintro e w4 ⟨rfl, hq⟩
    replace hT := hT.to hq
    replace B := Bl.then B hq
    clear hq
    go_wp2
    go_ret
    exact ⟨rfl, B⟩
  have hne : l ≠ [] := fun e => hm0 (by rw [← HN.out, e]; rfl)
  obtain ⟨q1, q2⟩ := tab_count hv hne
  have hpos := tabT_pos hv hne
  have hsz : (tabT l).size ≤ 1000000 := by rw [size_list, tabT_list hv]; exact tabL_len hv
  have hfin1 : cntB (tabT l) 58 (tabT l).size = m := by unfold cntB; rw [size_list, List.take_length, tabT_list hv, q1, HN.out]
  have hfin2 : cntB (tabT l) 59 (tabT l).size + 1 = m := by unfold cntB; rw [size_list, List.take_length, tabT_list hv, q2, HN.out]
  clear hv hne q1 q2
  generalize hs : tabT l = s at hpos hsz hfin1 hfin2
  have HV := Lib.hid hs
  have hem := ne_empty hpos
  have HF1 := Lib.hid hfin1
  have HF2 := Lib.hid hfin2
  clear hs hpos hfin1 hfin2
  go_wp2_with fail
  refine (c_sFormatTable _ _ _ l _ HN.out hT (by omega)).mono ?_
  rw [HV.out]
  rintro e w3 ⟨rfl, hq⟩
  replace hT := hT.to hq
  replace B := Bl.then B hq
  clear hq
  go_wp2
  go_loop [5, 6, 7] (fun a b i => ∃ k : Nat, k ≤ s.size ∧ i = .int .i64 k ∧ a = .int .i64 (cntB s 59 k) ∧ b = .int .i64 (cntB s 58 k)) (fun _ _ i => s.size - (intOf i).toNat)
  case atStart => exact ⟨0, Nat.zero_le _, rfl, rfl, rfl⟩
  case round =>
    obtain ⟨k, hk, rfl, rfl, rfl⟩ := hrel
    by_cases hlt : k < s.size
    · have hix := run_byt s k hlt
      have h1 : cntB s 59 (k + 1) = cntB s 59 k + if byt s k = 59 then 1 else 0 := cntB_succ (c := 59) hlt
      have h2 : cntB s 58 (k + 1) = cntB s 58 k + if byt s k = 58 then 1 else 0 := cntB_succ (c := 58) hlt
      have b1 := cntB_le s 59 k
      have b2 := cntB_le s 58 k
      have i2 : (0 : Int) ≤ k ∧ (k : Int) < s.size := by omega
      generalize byt s k = z at hix h1 h2
      generalize cntB s 59 k = p at h1 b1
      generalize cntB s 58 k = q at h2 b2
      have H1 := Lib.hid h1
      have H2 := Lib.hid h2
      clear h1 h2
      by_cases z1 : z = 59
      · subst z1
        go_wp2
        go_round
        case rel => exact ⟨k + 1, by omega, by go_num, by rw [H1.out]; simp, by rw [H2.out]; simp⟩
        case measure => simp [intOf]; omega
      · have t1 : (z == 59) = false := by rw [beq_eq_false_iff_ne]; exact z1
        by_cases z2 : z = 58
        · subst z2
          go_wp2
          go_round
          case rel => exact ⟨k + 1, by omega, by go_num, by rw [H1.out]; simp, by rw [H2.out]; simp⟩
          case measure => simp [intOf]; omega
        · have t2 : (z == 58) = false := by rw [beq_eq_false_iff_ne]; exact z2
          have Z := Lib.hid (And.intro z1 z2)
          clear z1 z2
          go_wp2
          go_round
          case rel => exact ⟨k + 1, by omega, by go_num, by rw [H1.out, if_neg Z.out.1]; simp, by rw [H2.out, if_neg Z.out.2]; simp⟩
          case measure => simp [intOf]; omega
    · obtain rfl : k = s.size := by omega
      have f1 := HF1.out
      have f2 := HF2.out
      generalize cntB s 58 s.size = q at f1
      generalize cntB s 59 s.size = p at f2
      subst f1
      obtain rfl : q = p + 1 := f2.symm
      clear f2
      have u1 : ((p : Int) == ((p + 1 : Nat) : Int) - 1) = true := by rw [beq_iff_eq]; omega
      go_wp2
      go_ret
      exact ⟨ret_bool (by simp), B⟩

theorem tab_front {l : List Mpg} (h : vTab l = true) (h0 : 0 < l.length) : ∃ r, (tabT l).data.toList = (fmtEnd (mn l 0).ad (mn l 0).ep).data.toList ++ 32 :: r := by
  rw [tabT_list h]
  cases l with
  | nil => simp at h0
  | cons m r =>
    have hm : mn (m :: r) 0 = m := rfl
    rw [hm]
    unfold tabL
    rw [List.map_cons, Lib.join_cons]
    unfold partL partB
    simp only [ByteArray.data_append, Array.toList_append, List.append_assoc]
    exact ⟨_, rfl⟩
theorem front_ext {s F : ByteArray} {r : List UInt8} (h : s.data.toList = F.data.toList ++ 32 :: r) : s.extract 0 F.size = F ∧ byt s F.size = 32 ∧ F.size < s.size := by
  refine ⟨?_, ?_, ?_⟩
  · apply ByteArray.ext
    apply Array.toList_inj.1
    rw [ByteArray.data_extract, Array.toList_extract, h, size_list]
    simp
  · unfold byt
    rw [h, size_list, List.getElem?_append_right (by omega), Nat.sub_self]; rfl
  · rw [size_list, size_list, h, List.length_append, List.length_cons]; omega

set_option maxHeartbeats 1600000 in
theorem l_FnTableTextEmpty (A : Option Addr) (n c : Nat) (w : World) (h : RB w A n) (hc : n ≤ c) (hE : TabE w) : Calls Tryd.prog 9 #[.slice A n c] w fun e w' => e = .returned (.bool true) ∧ Below w.heap.size w w' := by
  by_cases hbig : 1048576 < n
  · go_enter Tryd.func9, Tryd.ntmps9
    go_wp2
    go_ret
    exact ⟨rfl, Below.refl _ _⟩
  go_enter Tryd.func9, Tryd.ntmps9
  go_wp2_with fail
  refine (c_DrawFormatTable _ _ _ _ h hc).mono ?_
  rintro e w1 ⟨E, m, d, l, rfl, hl, hd, hT, hm, B⟩
  have HN := Lib.hid hl
  clear hl h
  go_wp2_with fail
  refine (c_iFormatTable _ _ _ l _ HN.out hd hT (by omega) (hE.to B)).mono ?_
  rintro e w2 ⟨rfl, hq⟩
  replace hT := hT.to hq
  replace B := Bl.then B hq
  clear hq
  cases hv : vTab l
  · have HV := Lib.hid (tabT_bad hv)
    have HO := Lib.hid hv
    clear hv
    rw [HV.out]
    go_wp2_with fail
    refine (c_sFormatTable _ _ _ l _ HN.out hT (by omega)).mono ?_
    rw [HV.out]
    rintro e w3 ⟨rfl, hq⟩
    replace hT := hT.to hq
    replace B := Bl.then B hq
    clear hq
    go_wp2_with fail
    refine (c_iValidTable _ _ _ l _ HN.out hd hT (by omega)).mono ?_
    rw [HO.out]
    rintro e w4 ⟨rfl, hq⟩
    replace hT := hT.to hq
    replace B := Bl.then B hq
    clear hq
    go_wp2_with fail
    refine (c_sFormatTable _ _ _ l _ HN.out hT (by omega)).mono ?_
    rw [HV.out]
    rintro e w3 ⟨rfl, hq⟩
    replace hT := hT.to hq
    replace B := Bl.then B hq
    clear hq
    by_cases hm0 : m = 0
    · subst hm0
      go_wp2
      go_ret
      exact ⟨rfl, B⟩
    · have t1 : decide ((0 : Int) < m) = true := by rw [decide_eq_true_eq]; omega
      have t2 : decide (0 < m) = true := by rw [decide_eq_true_eq]; omega
      go_wp2
      go_ret
      exact ⟨rfl, B⟩
  have HO := Lib.hid hv
  by_cases hm0 : m = 0
  · have hnil : l = [] := List.eq_nil_of_length_eq_zero (by rw [HN.out, hm0])
    have HV : Hid (tabT l = ⟨#[]⟩) := by rw [hnil]; unfold tabT tabL; rfl
    clear hv hnil
    subst hm0
    rw [HV.out]
    go_wp2_with fail
    refine (c_sFormatTable _ _ _ l _ HN.out hT (by omega)).mono ?_
    rw [HV.out]
    rintro e w3 ⟨rfl, hq⟩
    replace hT := hT.to hq
    replace B := Bl.then B hq
    clear hq
    go_wp2_with fail
    refine (c_iValidTable _ _ _ l _ HN.out hd hT (by omega)).mono ?_
    rw [HO.out]
    rintro e w4 ⟨rfl, hq⟩
    replace hT := hT.to hq
    replace B := Bl.then B hq
    clear hq
    go_wp2_with fail
    refine (c_sFormatTable _ _ _ l _ HN.out hT (by omega)).mono ?_
    rw [HV.out]
    rintro e w3 ⟨rfl, hq⟩
    replace hT := hT.to hq
    replace B := Bl.then B hq
    clear hq
    go_wp2
    go_ret
    exact ⟨rfl, B⟩
  have hkl : Hid (0 < l.length) := Lib.hid (by rw [HN.out]; omega)
  obtain ⟨r, hr⟩ := tab_front hv hkl.out
  obtain ⟨x1, x2, x3⟩ := front_ext hr
  have hsz : (tabT l).size ≤ 1000000 := by rw [size_list, tabT_list hv]; exact tabL_len hv
  clear hv hr
  generalize hs : tabT l = s at x1 x2 x3 hsz
  generalize hF : fmtEnd (mn l 0).ad (mn l 0).ep = F at x1 x2 x3
  have HV := Lib.hid hs
  have HF := Lib.hid hF
  have hix := run_byt s F.size x3
  rw [x2] at hix
  have hb1 : (F.size : Int) ≤ s.size := by omega
  have u1 : decide ((F.size : Int) < s.size) = true := by rw [decide_eq_true_eq]; omega
  have u2 : decide (F.size < s.size) = true := by rw [decide_eq_true_eq]; omega
  have m0 : ((m : Int) == 0) = false := by rw [beq_eq_false_iff_ne]; omega
  clear hs hF x2
  go_wp2_with fail
  refine (c_sFormatTable _ _ _ l _ HN.out hT (by omega)).mono ?_
  rw [HV.out]
  rintro e w3 ⟨rfl, hq⟩
  replace hT := hT.to hq
  replace B := Bl.then B hq
  clear hq
  go_wp2_with fail
  refine (c_iValidTable _ _ _ l _ HN.out hd hT (by omega)).mono ?_
  rw [HO.out]
  rintro e w4 ⟨rfl, hq⟩
  replace hT := hT.to hq
  replace B := Bl.then B hq
  clear hq
  obtain ⟨b, off, rfl, hb, c0, c1, c2, c3⟩ := hT.get hkl.out
  simp only [Nat.zero_mul, Nat.add_zero] at c0 c1 c2 c3
  have i1 : (0 : Int) < m := by omega
  go_wp2_with fail
  refine (c_iFormatEnd _ _ _ (hE.to B)).mono ?_
  rw [HF.out]
  rintro e w5 ⟨rfl, hq⟩
  replace B := Bl.then B hq
  go_wp2
  go_ret
  exact ⟨rfl, B⟩
end Go.Proofs.YthlaldikdlljfaaDoor
