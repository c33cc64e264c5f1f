/- Joined: W13, W14. -/
import Derived.Test.YtjflfhjnbccpmaaGreatDoorJ8
set_option linter.unusedVariables false
set_option linter.unusedSimpArgs false
namespace Go.Proofs.YtjflfhjnbccpmaaGreatDoor
open Go.RowKit
/-- A row of the call's own that reads as contacts. -/
def KO (w : World) (base : Nat) (v : Value) (l : List Con) : Prop := w.ownsRow base 129 3 v l.length (conCs l)
theorem KO.empty {w : World} {base n : Nat} (hb : base ≤ w.heap.size) (hn : n = w.heap.size) : KO (w.alloc (.cells #[] 129)) base (.slice (some ⟨n, 0, none⟩) 0 0) [] := by
  subst hn
  exact World.ownsRow_made w #[] 0 hb (by unfold maxLen; omega) (by simp)
theorem lit_con {w : World} {t n : Nat} {cs : Array Value} (r : Con) (hn : n = w.heap.size) (hc : cs = (conC r).toArray) : TK (w.alloc (.cells cs t)) (some ⟨n, 0, none⟩) [r] := by
  subst hn hc
  have := (Blk.new w t (conC r).toArray).rd
  simpa [TK, conCs] using this
def fltK (l : List Con) (x : Con) (k : Nat) : List Con := (l.take k).filter (fun d => !decide (d = x))
theorem fltK_succ {l : List Con} {x : Con} {k : Nat} (h : k < l.length) : fltK l x (k + 1) = fltK l x k ++ if cn l k = x then [] else [cn l k] := by
  unfold fltK
  rw [List.take_add_one, List.getElem?_eq_getElem h, List.filter_append, cn_at h]
  congr 1
  by_cases hx : l[k] = x <;> simp [hx]
theorem fltK_len (l : List Con) (x : Con) (k : Nat) : (fltK l x k).length ≤ k := by
  unfold fltK
  exact Nat.le_trans (List.length_filter_le _ _) (by rw [List.length_take]; omega)
set_option maxHeartbeats 3200000 in
theorem c_note (A : Option Addr) (n c : Nat) (l : List Con) (x : Con) (w : World) (hn : l.length = n) (h : TK w A l) (hl : n ≤ 10) :
    Calls Tryz.prog 142 #[.slice A n c, .agg #[.int .i64 x.po, .int .i64 x.ad, .int .i64 x.ep]] w fun e w' => ∃ A' k c', e = .returned (.slice A' k c') ∧ k ≤ c' ∧ (noteC l x).length = k ∧ Fr A' w.heap.size ∧ TK w' A' (noteC l x) ∧ Below w.heap.size w w' := by
  have HN := Lib.hid hn
  have HA : Hid (∀ W, Below w.heap.size w W → TK W A l) := fun W b => h.to b
  clear hn h
  have heql := neq_con
  have hgd := guard_con
  have k0 := (Blk.new w 129 #[.int .i64 x.po, .int .i64 x.ad, .int .i64 x.ep]).alloc (.cells #[] 129)
  have hoR : KO ((w.alloc (.cells #[.int .i64 x.po, .int .i64 x.ad, .int .i64 x.ep] 129)).alloc (.cells #[] 129)) (w.heap.size + 1) (.slice (some ⟨w.heap.size + 1, 0, none⟩) 0 0) [] := KO.empty (by simp) (by simp)
  have B : Below w.heap.size w ((w.alloc (.cells #[.int .i64 x.po, .int .i64 x.ad, .int .i64 x.ep] 129)).alloc (.cells #[] 129)) := ((Below.refl _ _).alloc (Nat.le_refl _) _).alloc (by simp) _
  go_enter Tryz.func142, Tryz.ntmps142
  go_wp2
  go_loopw [5, 6] (fun v i wr => ∃ (k : Nat) (v' : Value), k ≤ n ∧ i = .int .i64 k ∧ v' = v ∧ Hid (KO wr (w.heap.size + 1) v' (fltK l x k)) ∧ Hid (Below w.heap.size w wr ∧ Blk wr w.heap.size 129 #[.int .i64 x.po, .int .i64 x.ad, .int .i64 x.ep])) (fun _ i _ => n - (intOf i).toNat)
  case atStart => exact ⟨0, _, Nat.zero_le _, rfl, rfl, hoR, B, k0⟩
  case round =>
    clear hoR B k0
    obtain ⟨k, v', hk, rfl, rfl, HO, HB⟩ := hrel
    obtain ⟨B, k0⟩ := HB.out
    have ho := HO.out
    clear HB HO
    by_cases hlt : k < n
    · have hkl : Hid (k < l.length) := Lib.hid (by rw [HN.out]; exact hlt)
      obtain ⟨b0, off, rfl, hb0, c0, c1, c2⟩ := (HA.out _ B).get hkl.out
      have hs := fltK_succ (x := x) hkl.out
      have hml := fltK_len l x k
      have e2 : 0 ≤ (k : Int) ∧ (k : Int) < n := by omega
      have x0 := k0.cell 0
      have x1 := k0.cell 1
      have x2 := k0.cell 2
      have hlt0 := k0.lt
      simp only [List.getElem?_toArray, List.getElem?_cons_zero, List.getElem?_cons_succ] at x0 x1 x2
      cases he : eqK (cn l k) x
      · have hne : cn l k ≠ x := fun e => by rw [eqK_iff.2 e] at he; cases he
        rw [if_neg hne] at hs
        have HSS := Lib.hid hs
        clear hs hne
        go_wp2
        go_quiet (fail)
        generalize hwq : World.drewN wr _ = w1
        have hq : Below wr.heap.size wr w1 := by rw [← hwq]; exact Bl.of_drewN wr _
        replace ho := own_to ho hq (Nat.le_refl _)
        replace k0 := k0.to hq
        replace B := Bl.then B hq
        clear hq hwq x0 x1 x2 hlt0 hb0 c0 c1 c2
        obtain ⟨b0', off', e', hb0, c0, c1, c2⟩ := (HA.out _ B).get hkl.out
        cases e'
        have hL : TK (w1.alloc (.cells #[.int .i64 (cn l k).po, .int .i64 (cn l k).ad, .int .i64 (cn l k).ep] 129)) (some ⟨w1.heap.size, 0, none⟩) [cn l k] := lit_con (w := w1) (cn l k) rfl rfl
        generalize hlle : fltK l x k = ll at ho hml
        have HLL := Lib.hid hlle
        clear hlle
        have hoR : (w1.alloc (.cells #[.int .i64 (cn l k).po, .int .i64 (cn l k).ad, .int .i64 (cn l k).ep] 129)).ownsRow (w.heap.size + 1) 129 3 v' ll.length (conCs ll) := World.ownsRow.alloc ho _
        have hnl := conCs_len [cn l k]
        have hnc := conCs_one [cn l k]
        unfold TK at hL
        generalize hnle : conCs [cn l k] = nl at hnl hnc hL
        have HNL := Lib.hid hnle
        have hs1 := k0.lt
        clear hnle ho
        go_wp2_with (at_builtin; go_must (obtain ⟨i0, hi, hz0, hz1, hz2⟩ := info_parts conT_info; refine wpList_append_rd _ rfl _ _ 42 rfl (w.heap.size + 1) 129 i0 _ 3 24 Tryz.underlying42 hi hz0 hz1 hz2 rfl (by omega) _ ll.length (conCs ll) rfl hoR (some ⟨w1.heap.size, 0, none⟩) 1 1 nl rfl hL hnl hnc (by unfold maxLen; omega) (by omega) (by simp; omega) ?_; intro v1 w5 ho5 hg5 hat5; clear hi hz0 hz1 hz2 hat5))
        have B5 := (B.alloc B.size (.cells #[.int .i64 (cn l k).po, .int .i64 (cn l k).ad, .int .i64 (cn l k).ep] 129)).grown hg5 (by have := B.size; simp; omega) (fun j hj => by have := (World.ownsRow.lt hoR j hj).1; omega)
        have k5 := (k0.alloc (.cells #[.int .i64 (cn l k).po, .int .i64 (cn l k).ad, .int .i64 (cn l k).ep] 129)).grown hg5 (fun e => by have := (World.ownsRow.lt hoR _ e.symm).1; omega)
        go_roundw
        case rel =>
          refine ⟨k + 1, v1, by omega, by go_num, rfl, ?_, B5, k5⟩
          rw [HSS.out, HLL.out]
          show KO _ _ _ _
          unfold KO
          rw [conCs_app, HNL.out, List.length_append]
          exact ho5
        case measure => simp [intOf]; omega
      · have hne : cn l k = x := eqK_iff.1 he
        rw [if_pos hne, List.append_nil] at hs
        have HSS := Lib.hid hs
        clear hs hne
        go_wp2
        go_quiet (fail)
        generalize hwq : World.drewN wr _ = w1
        have hq : Below wr.heap.size wr w1 := by rw [← hwq]; exact Bl.of_drewN wr _
        replace ho := own_to ho hq (Nat.le_refl _)
        replace k0 := k0.to hq
        replace B := Bl.then B hq
        go_wp2
        go_roundw
        case rel => exact ⟨k + 1, v', by omega, by go_num, rfl, by rw [HSS.out]; exact ho, B, k0⟩
        case measure => simp [intOf]; omega
    · obtain rfl : k = n := by omega
      have hml := fltK_len l x k
      have hfl : fltK l x k = l.filter (fun d => !decide (d = x)) := by unfold fltK; rw [← HN.out, List.take_length]
      rw [hfl] at ho hml
      clear hfl
      obtain ⟨m, hm⟩ : ∃ m, (l.filter (fun d => !decide (d = x))).length = m := ⟨_, rfl⟩
      unfold KO at ho
      rw [hm] at ho hml
      have x0 := k0.cell 0
      have x1 := k0.cell 1
      have x2 := k0.cell 2
      have hlt0 := k0.lt
      simp only [List.getElem?_toArray, List.getElem?_cons_zero, List.getElem?_cons_succ] at x0 x1 x2
      have hL : TK (wr.alloc (.cells #[.int .i64 x.po, .int .i64 x.ad, .int .i64 x.ep] 129)) (some ⟨wr.heap.size, 0, none⟩) [x] := lit_con (w := wr) x rfl rfl
      have hoR : (wr.alloc (.cells #[.int .i64 x.po, .int .i64 x.ad, .int .i64 x.ep] 129)).ownsRow (w.heap.size + 1) 129 3 v' m (conCs (l.filter (fun d => !decide (d = x)))) := World.ownsRow.alloc ho _
      have hnl := conCs_len [x]
      have hnc := conCs_one [x]
      unfold TK at hL
      generalize hnle : conCs [x] = nl at hnl hnc hL
      have HNL := Lib.hid hnle
      have HLM := Lib.hid hm
      clear hnle ho hm
      go_upto_region 8 with (at_builtin; go_must (obtain ⟨i0, hi, hz0, hz1, hz2⟩ := info_parts conT_info; refine wpList_append_rd _ rfl _ _ 42 rfl (w.heap.size + 1) 129 i0 _ 3 24 Tryz.underlying42 hi hz0 hz1 hz2 rfl (by omega) _ m (conCs (l.filter (fun d => !decide (d = x)))) rfl hoR (some ⟨wr.heap.size, 0, none⟩) 1 1 nl rfl hL hnl hnc (by unfold maxLen; omega) (by omega) (by simp; omega) ?_; intro v1 w5 ho5 hg5 hat5; clear hi hz0 hz1 hz2 hat5))
      have B5 := (B.alloc B.size (.cells #[.int .i64 x.po, .int .i64 x.ad, .int .i64 x.ep] 129)).grown hg5 (by have := B.size; simp; omega) (fun j hj => by have := (World.ownsRow.lt hoR j hj).1; omega)
      clear hoR hL hg5 B k0 x0 x1 x2 hlt0
      obtain ⟨q, hqm⟩ : ∃ q, m + 1 = q := ⟨_, rfl⟩
      rw [hqm] at ho5
      obtain ⟨g, cap, rfl, hgb, hgl⟩ := World.ownsRow.form ho5 (by omega)
      have hT : TK w5 (some ⟨g, 0, none⟩) (l.filter (fun d => !decide (d = x)) ++ [x]) := (by
        have := Rd.of_ownS ho5
        rw [← HNL.out, ← conCs_app] at this
        exact this)
      obtain ⟨A9, c9, e9, hcq, hcm, -⟩ := own_slice ho5
      cases e9
      clear ho5
      have hoE : (w5.alloc (.cells #[] 129)).ownsRow w5.heap.size 129 3 (.slice (some ⟨w5.heap.size, 0, none⟩) 0 0) 0 [] := World.ownsRow_made w5 #[] 0 (Nat.le_refl _) (by unfold maxLen; omega) (by simp)
      have BE : Below w.heap.size w (w5.alloc (.cells #[] 129)) := B5.alloc B5.size _
      by_cases hm9 : q ≤ 10
      · have t0 : max (0 : Int) ((q : Int) - 10) = 0 := by omega
        have e3 : IntKind.i64.wrap ((q : Int) - 10) = (q : Int) - 10 := IntWalk.i64_in _ (by omega)
        have hR : TK (w5.alloc (.cells #[] 129)) (some ⟨g, 0, none⟩) (noteC l x) := by rw [noteC_short HLM.out (by omega)]; exact hT.alloc _
        have hlen : (noteC l x).length = q := by rw [noteC_short HLM.out (by omega), List.length_append, HLM.out]; exact hqm
        have HLEN := Lib.hid hlen
        have hnl := conCs_len (noteC l x)
        rw [hlen] at hnl
        have hnc := conCs_one (noteC l x)
        unfold TK at hR
        generalize hnle2 : conCs (noteC l x) = nl2 at hnl hnc hR
        have HNL2 := Lib.hid hnle2
        clear hlen hnle2 hT
        go_wp2_with (at_builtin; go_must (obtain ⟨i0, hi, hz0, hz1, hz2⟩ := info_parts conT_info; refine wpList_append_rd _ rfl _ _ 42 rfl w5.heap.size 129 i0 _ 3 24 Tryz.underlying42 hi hz0 hz1 hz2 rfl (by omega) _ 0 [] rfl hoE (some ⟨g, 0, none⟩) q cap nl2 rfl hR hnl hnc (by unfold maxLen; omega) (by omega) (by simp) ?_; intro v2 w7 ho7 hg7 hat7; clear hi hz0 hz1 hz2 hat7))
        replace ho7 : w7.ownsRow w5.heap.size 129 3 v2 q nl2 := by simpa using ho7
        obtain ⟨A2, c2, rfl, hc2, hm2, -⟩ := own_slice ho7
        have hF := (own_fr ho7).low B5.size
        have hRR := Rd.of_ownS ho7
        rw [← HNL2.out] at hRR
        have B7 := BE.grown hg7 BE.size (fun j hj => by have := (World.ownsRow.lt hoE j hj).1; have := B5.size; omega)
        have HF := Lib.hid hF
        have HRR := Lib.hid hRR
        clear hF hRR ho7 hg7 hoE
        go_ret
        exact ⟨A2, q, c2, rfl, hc2, HLEN.out, HF.out, HRR.out, B7⟩
      · have hmq : m = 10 := by omega
        subst hmq
        have hq11 : q = 11 := by omega
        subst hq11
        have hT1 := hT.drop1
        have hR : TK (w5.alloc (.cells #[] 129)) (some ⟨g, 3, none⟩) (noteC l x) := by rw [noteC_long HLM.out]; exact TK.alloc (by simpa using hT1) _
        have hlen : (noteC l x).length = 10 := by rw [noteC_long HLM.out, List.length_drop, List.length_append, HLM.out]; rfl
        have HLEN := Lib.hid hlen
        have hnl := conCs_len (noteC l x)
        rw [hlen] at hnl
        have hnc := conCs_one (noteC l x)
        unfold TK at hR
        generalize hnle2 : conCs (noteC l x) = nl2 at hnl hnc hR
        have HNL2 := Lib.hid hnle2
        clear hlen hnle2 hT hT1
        go_wp2_with (at_builtin; go_must (obtain ⟨i0, hi, hz0, hz1, hz2⟩ := info_parts conT_info; refine wpList_append_rd _ rfl _ _ 42 rfl w5.heap.size 129 i0 _ 3 24 Tryz.underlying42 hi hz0 hz1 hz2 rfl (by omega) _ 0 [] rfl hoE (some ⟨g, 3, none⟩) 10 _ nl2 rfl hR hnl hnc (by unfold maxLen; omega) (by omega) (by simp) ?_; intro v2 w7 ho7 hg7 hat7; clear hi hz0 hz1 hz2 hat7))
        replace ho7 : w7.ownsRow w5.heap.size 129 3 v2 10 nl2 := by simpa using ho7
        obtain ⟨A2, c2, rfl, hc2, hm2, -⟩ := own_slice ho7
        have hF := (own_fr ho7).low B5.size
        have hRR := Rd.of_ownS ho7
        rw [← HNL2.out] at hRR
        have B7 := BE.grown hg7 BE.size (fun j hj => by have := (World.ownsRow.lt hoE j hj).1; have := B5.size; omega)
        have HF := Lib.hid hF
        have HRR := Lib.hid hRR
        clear hF hRR ho7 hg7 hoE
        go_ret
        exact ⟨A2, 10, c2, rfl, hc2, HLEN.out, HF.out, HRR.out, B7⟩
end Go.Proofs.YtjflfhjnbccpmaaGreatDoor
namespace Go.Proofs.YtjflfhjnbccpmaaGreatDoor
open Go.RowKit
set_option maxHeartbeats 1600000 in
theorem c_lets (fi port fa fp : Int) (C : Option Addr) (m d : Nat) (l : List Con) (w : World) (hm : l.length = m) (h : TK w C l) (hl : m ≤ 1000) :
    Calls Tryz.prog 145 #[.int .i64 fi, .slice C m d, .int .i64 port, .agg #[.int .i64 fa, .int .i64 fp]] w fun e w' => e = .returned (.bool (letG fi l port fa fp)) ∧ Below w.heap.size w w' := by
  have HM := Lib.hid hm
  have HC : Hid (∀ W, Below w.heap.size w W → TK W C l) := fun W b => h.to b
  clear hm h
  have k0 := Blk.new w 70 #[.int .i64 fa, .int .i64 fp]
  have B : Below w.heap.size w (w.alloc (.cells #[.int .i64 fa, .int .i64 fp] 70)) := (Below.refl _ _).alloc (Nat.le_refl _) _
  by_cases h0 : fi = 0
  · have t0 : (fi == 0) = true := beq_iff_eq.2 h0
    have HZ : Hid (letG fi l port fa fp = true) := Lib.hid (by unfold letG; rw [decide_eq_true h0]; rfl)
    clear h0
    go_enter Tryz.func145, Tryz.ntmps145
    go_wp2
    go_ret
    exact ⟨ret_bool (by rw [HZ.out]), B⟩
  have t0 : (fi == 0) = false := beq_eq_false_iff_ne.2 h0
  have HZ : Hid (letG fi l port fa fp = anyUp (fun k => letQ fi port fa fp (cn l k)) m) := Lib.hid (by unfold letG; rw [decide_eq_false h0, HM.out]; rfl)
  clear h0
  go_enter Tryz.func145, Tryz.ntmps145
  go_wp2
  go_loopw [9] (fun i wr => ∃ k : Nat, k ≤ m ∧ i = .int .i64 k ∧ Hid (∀ j, j < k → letQ fi port fa fp (cn l j) = false) ∧ Hid (Below w.heap.size w wr ∧ Blk wr w.heap.size 70 #[.int .i64 fa, .int .i64 fp])) (fun i _ => m - (intOf i).toNat)
  case atStart => exact ⟨0, Nat.zero_le _, rfl, fun j hj => absurd hj (by omega), B, k0⟩
  case round =>
    clear k0 B
    obtain ⟨k, hk, rfl, hF, HB⟩ := hrel
    obtain ⟨B, k0⟩ := HB.out
    clear HB
    by_cases hlt : k < m
    · have hkl : Hid (k < l.length) := Lib.hid (by rw [HM.out]; exact hlt)
      obtain ⟨b0, off, rfl, hb0, c0, c1, c2⟩ := (HC.out _ B).get hkl.out
      have e2 : 0 ≤ (k : Int) ∧ (k : Int) < m := by omega
      have B5 := B.alloc B.size (.cells #[.int .i64 (cn l k).po, .int .i64 (cn l k).ad, .int .i64 (cn l k).ep] 129)
      have k5 := k0.alloc (.cells #[.int .i64 (cn l k).po, .int .i64 (cn l k).ad, .int .i64 (cn l k).ep] 129)
      have x0 := k0.cell 0
      have x1 := k0.cell 1
      have hlt0 := k0.lt
      simp only [List.getElem?_toArray, List.getElem?_cons_zero, List.getElem?_cons_succ] at x0 x1
      have HX : Hid (letQ fi port fa fp (cn l k) = (decide ((cn l k).po = port) && (decide ((cn l k).ad = fa) && (decide (fi = 1) || decide ((cn l k).ep = fp))))) := rfl
      cases hlq : letQ fi port fa fp (cn l k)
      · have hx := HX.out
        rw [hlq] at hx
        have HL := Lib.hid hlq
        by_cases h1 : (cn l k).po = port
        · have t1 : ((cn l k).po == port) = true := beq_iff_eq.2 h1
          by_cases h2 : (cn l k).ad = fa
          · have t2 : ((cn l k).ad == fa) = true := beq_iff_eq.2 h2
            rw [decide_eq_true h1, decide_eq_true h2, Bool.true_and, Bool.true_and] at hx
            have hx2 : decide (fi = 1) = false ∧ decide ((cn l k).ep = fp) = false := by
              cases h3 : decide (fi = 1) <;> rw [h3] at hx <;> cases h4 : decide ((cn l k).ep = fp) <;> rw [h4] at hx <;> simp at hx ⊢
            have t3 : (fi == 1) = false := beq_eq_false_iff_ne.2 (of_decide_eq_false hx2.1)
            have t4 : ((cn l k).ep == fp) = false := beq_eq_false_iff_ne.2 (of_decide_eq_false hx2.2)
            clear hx hx2 h1 h2 hlq
            go_wp2
            go_roundw
            case rel => exact ⟨k + 1, by omega, by go_num, upTo_succ hF.out HL.out, B5, k5⟩
            case measure => simp [intOf]; omega
          · have t2 : ((cn l k).ad == fa) = false := beq_eq_false_iff_ne.2 h2
            clear hx h1 h2 hlq
            go_wp2
            go_roundw
            case rel => exact ⟨k + 1, by omega, by go_num, upTo_succ hF.out HL.out, B5, k5⟩
            case measure => simp [intOf]; omega
        · have t1 : ((cn l k).po == port) = false := beq_eq_false_iff_ne.2 h1
          clear hx h1 hlq
          go_wp2
          go_roundw
          case rel => exact ⟨k + 1, by omega, by go_num, upTo_succ hF.out HL.out, B5, k5⟩
          case measure => simp [intOf]; omega
      · have hx := HX.out
        rw [hlq] at hx
        have HL := Lib.hid hlq
        replace hx := hx.symm
        rw [Bool.and_eq_true, Bool.and_eq_true, Bool.or_eq_true, decide_eq_true_eq, decide_eq_true_eq, decide_eq_true_eq, decide_eq_true_eq] at hx
        obtain ⟨h1, h2, h3⟩ := hx
        have t1 : ((cn l k).po == port) = true := beq_iff_eq.2 h1
        have t2 : ((cn l k).ad == fa) = true := beq_iff_eq.2 h2
        by_cases h4 : fi = 1
        · have t3 : (fi == 1) = true := beq_iff_eq.2 h4
          clear h1 h2 h3 h4 hlq
          go_wp2
          go_ret
          exact ⟨ret_bool (by rw [HZ.out, anyUp_true hlt HL.out]), B5⟩
        · have t3 : (fi == 1) = false := beq_eq_false_iff_ne.2 h4
          have t4 : ((cn l k).ep == fp) = true := beq_iff_eq.2 (h3.resolve_left h4)
          clear h1 h2 h3 h4 hlq
          go_wp2
          go_ret
          exact ⟨ret_bool (by rw [HZ.out, anyUp_true hlt HL.out]), B5⟩
    · obtain rfl : k = m := by omega
      go_wp2
      go_ret
      exact ⟨ret_bool (by rw [HZ.out, anyUp_false hF.out]), B⟩
def outB (g : Gt) (p : Pk) : Bool := inN g.ba g.bi p.fa && (!inN g.ba g.bi p.ta && (p.ta != g.ou))
def inB' (g : Gt) (p : Pk) : Bool := (p.ta == g.ou) && !inN g.ba g.bi p.fa
theorem wayV_out {g : Gt} {p : Pk} (h : outB g p = true) : wayV g p = 1 := by
  unfold outB at h
  simp only [Bool.and_eq_true, Bool.not_eq_true', bne_iff_ne] at h
  unfold wayV
  rw [h.1, if_pos rfl, if_neg h.2.2, h.2.1, if_neg (by simp)]
theorem wayV_in {g : Gt} {p : Pk} (h : inB' g p = true) : wayV g p = 2 := by
  unfold inB' at h
  simp only [Bool.and_eq_true, Bool.not_eq_true', beq_iff_eq] at h
  unfold wayV
  rw [h.2, if_neg (by simp), if_pos h.1]
theorem wayV_btw {g : Gt} {p : Pk} (h1 : inN g.ba g.bi p.fa = true) (h2 : p.ta = g.ou) : wayV g p = 3 := by
  unfold wayV
  rw [h1, if_pos rfl, if_pos h2]
theorem wayV_none {g : Gt} {p : Pk} (h1 : outB g p = false) (h2 : inB' g p = false) (h3 : inN g.ba g.bi p.fa = true → p.ta ≠ g.ou) : wayV g p = 0 := by
  unfold outB at h1
  unfold inB' at h2
  unfold wayV
  cases h4 : inN g.ba g.bi p.fa
  · rw [h4] at h2
    rw [if_neg (by simp)]
    simp at h2
    rw [if_neg h2]
  · have := h3 h4
    rw [h4] at h1
    rw [if_pos rfl, if_neg this]
    simp [this] at h1
    rw [h1, if_pos rfl]
theorem c_goesOut (g : Gt) (p : Pk) (A : Option Addr) (n c : Nat) (C : Option Addr) (m d : Nat) (D : Option Addr) (dc : Nat) (w : World) (hv : vGate g = true) (hp : vPk p = true) (hn : g.tb.length = n) (h : TM w A g.tb) (hm : g.cs.length = m) (h' : TK w C g.cs) :
    Calls Tryz.prog 137 #[.agg #[.int .i64 g.ba, .int .i64 g.bi, .int .i64 g.ou, .slice A n c, .slice C m d, .int .i64 g.fi, .int .i64 g.ho, .int .i64 g.no], .agg #[.int .i64 0, .int .i64 p.fa, .int .i64 p.fp, .int .i64 p.ta, .int .i64 p.tp, .slice D 0 dc]] w fun e w' => e = .returned (.bool (outB g p)) ∧ Below w.heap.size w w' := by
  have HN := Lib.hid hn
  have HM := Lib.hid hm
  have HA : Hid (∀ W, Below w.heap.size w W → TM W A g.tb) := fun W b => h.to b
  have HC : Hid (∀ W, Below w.heap.size w W → TK W C g.cs) := fun W b => h'.to b
  have HV := Lib.hid hv
  have HP := Lib.hid hp
  have HG := Lib.hid (gate_nums hv)
  clear hn hm h h' hv hp
  have k0 := (Blk.new w 44 #[.int .i64 g.ba, .int .i64 g.bi, .int .i64 g.ou, .slice A n c, .slice C m d, .int .i64 g.fi, .int .i64 g.ho, .int .i64 g.no]).alloc (.cells #[.int .i64 0, .int .i64 p.fa, .int .i64 p.fp, .int .i64 p.ta, .int .i64 p.tp, .slice D 0 dc] 74)
  have k1 := Blk.new (w.alloc (.cells #[.int .i64 g.ba, .int .i64 g.bi, .int .i64 g.ou, .slice A n c, .slice C m d, .int .i64 g.fi, .int .i64 g.ho, .int .i64 g.no] 44)) 74 #[.int .i64 0, .int .i64 p.fa, .int .i64 p.fp, .int .i64 p.ta, .int .i64 p.tp, .slice D 0 dc]
  have B : Below w.heap.size w ((w.alloc (.cells #[.int .i64 g.ba, .int .i64 g.bi, .int .i64 g.ou, .slice A n c, .slice C m d, .int .i64 g.fi, .int .i64 g.ho, .int .i64 g.no] 44)).alloc (.cells #[.int .i64 0, .int .i64 p.fa, .int .i64 p.fp, .int .i64 p.ta, .int .i64 p.tp, .slice D 0 dc] 74)) := ((Below.refl _ _).alloc (Nat.le_refl _) _).alloc (by simp) _
  simp only [World.size_alloc] at k1
  have y0 := k0.cell 0; have y1 := k0.cell 1; have y2 := k0.cell 2; have y3 := k0.cell 3; have y4 := k0.cell 4; have y5 := k0.cell 5; have y6 := k0.cell 6; have y7 := k0.cell 7; have l0 := k0.lt; simp only [List.getElem?_toArray, List.getElem?_cons_zero, List.getElem?_cons_succ] at y0 y1 y2 y3 y4 y5 y6 y7
  have p0 := k1.cell 0; have p1 := k1.cell 1; have p2 := k1.cell 2; have p3 := k1.cell 3; have p4 := k1.cell 4; have p5 := k1.cell 5; have l1 := k1.lt; simp only [List.getElem?_toArray, List.getElem?_cons_zero, List.getElem?_cons_succ] at p0 p1 p2 p3 p4 p5
  have HX : Hid (outB g p = (inN g.ba g.bi p.fa && (!inN g.ba g.bi p.ta && (p.ta != g.ou)))) := rfl
  go_enter Tryz.func137, Tryz.ntmps137
  go_wp2_with fail
  refine (c_validGate g A n c C m d _ HV.out HN.out (HA.out _ B) HM.out (HC.out _ B)).mono ?_
  rintro e w1 ⟨rfl, hq⟩
  clear y0 y1 y2 y3 y4 y5 y6 y7 l0; clear p0 p1 p2 p3 p4 p5 l1; replace k0 := k0.to hq; replace k1 := k1.to hq; replace B := Bl.then B hq; clear hq; have y0 := k0.cell 0; have y1 := k0.cell 1; have y2 := k0.cell 2; have y3 := k0.cell 3; have y4 := k0.cell 4; have y5 := k0.cell 5; have y6 := k0.cell 6; have y7 := k0.cell 7; have l0 := k0.lt; simp only [List.getElem?_toArray, List.getElem?_cons_zero, List.getElem?_cons_succ] at y0 y1 y2 y3 y4 y5 y6 y7; have p0 := k1.cell 0; have p1 := k1.cell 1; have p2 := k1.cell 2; have p3 := k1.cell 3; have p4 := k1.cell 4; have p5 := k1.cell 5; have l1 := k1.lt; simp only [List.getElem?_toArray, List.getElem?_cons_zero, List.getElem?_cons_succ] at p0 p1 p2 p3 p4 p5
  go_wp2_with fail
  refine (c_sValidPacket p D dc _ HP.out).mono ?_
  rintro e w2 ⟨rfl, hq⟩
  clear y0 y1 y2 y3 y4 y5 y6 y7 l0; clear p0 p1 p2 p3 p4 p5 l1; replace k0 := k0.to hq; replace k1 := k1.to hq; replace B := Bl.then B hq; clear hq; have y0 := k0.cell 0; have y1 := k0.cell 1; have y2 := k0.cell 2; have y3 := k0.cell 3; have y4 := k0.cell 4; have y5 := k0.cell 5; have y6 := k0.cell 6; have y7 := k0.cell 7; have l0 := k0.lt; simp only [List.getElem?_toArray, List.getElem?_cons_zero, List.getElem?_cons_succ] at y0 y1 y2 y3 y4 y5 y6 y7; have p0 := k1.cell 0; have p1 := k1.cell 1; have p2 := k1.cell 2; have p3 := k1.cell 3; have p4 := k1.cell 4; have p5 := k1.cell 5; have l1 := k1.lt; simp only [List.getElem?_toArray, List.getElem?_cons_zero, List.getElem?_cons_succ] at p0 p1 p2 p3 p4 p5
  cases hi : inN g.ba g.bi p.fa
  · skip
    go_wp2_with fail
    refine (c_inNet _ _ _ _ HG.out.1).mono ?_
    rw [hi]
    rintro e w3 ⟨rfl, hq⟩
    clear y0 y1 y2 y3 y4 y5 y6 y7 l0; clear p0 p1 p2 p3 p4 p5 l1; replace k0 := k0.to hq; replace k1 := k1.to hq; replace B := Bl.then B hq; clear hq; have y0 := k0.cell 0; have y1 := k0.cell 1; have y2 := k0.cell 2; have y3 := k0.cell 3; have y4 := k0.cell 4; have y5 := k0.cell 5; have y6 := k0.cell 6; have y7 := k0.cell 7; have l0 := k0.lt; simp only [List.getElem?_toArray, List.getElem?_cons_zero, List.getElem?_cons_succ] at y0 y1 y2 y3 y4 y5 y6 y7; have p0 := k1.cell 0; have p1 := k1.cell 1; have p2 := k1.cell 2; have p3 := k1.cell 3; have p4 := k1.cell 4; have p5 := k1.cell 5; have l1 := k1.lt; simp only [List.getElem?_toArray, List.getElem?_cons_zero, List.getElem?_cons_succ] at p0 p1 p2 p3 p4 p5
    go_wp2
    go_ret
    exact ⟨ret_bool (by rw [HX.out, hi]; rfl), B⟩
  go_wp2_with fail
  refine (c_inNet _ _ _ _ HG.out.1).mono ?_
  rw [hi]
  rintro e w3 ⟨rfl, hq⟩
  clear y0 y1 y2 y3 y4 y5 y6 y7 l0; clear p0 p1 p2 p3 p4 p5 l1; replace k0 := k0.to hq; replace k1 := k1.to hq; replace B := Bl.then B hq; clear hq; have y0 := k0.cell 0; have y1 := k0.cell 1; have y2 := k0.cell 2; have y3 := k0.cell 3; have y4 := k0.cell 4; have y5 := k0.cell 5; have y6 := k0.cell 6; have y7 := k0.cell 7; have l0 := k0.lt; simp only [List.getElem?_toArray, List.getElem?_cons_zero, List.getElem?_cons_succ] at y0 y1 y2 y3 y4 y5 y6 y7; have p0 := k1.cell 0; have p1 := k1.cell 1; have p2 := k1.cell 2; have p3 := k1.cell 3; have p4 := k1.cell 4; have p5 := k1.cell 5; have l1 := k1.lt; simp only [List.getElem?_toArray, List.getElem?_cons_zero, List.getElem?_cons_succ] at p0 p1 p2 p3 p4 p5
  cases ht : inN g.ba g.bi p.ta
  · skip
    go_wp2_with fail
    refine (c_inNet _ _ _ _ HG.out.1).mono ?_
    rw [ht]
    rintro e w3 ⟨rfl, hq⟩
    clear y0 y1 y2 y3 y4 y5 y6 y7 l0; clear p0 p1 p2 p3 p4 p5 l1; replace k0 := k0.to hq; replace k1 := k1.to hq; replace B := Bl.then B hq; clear hq; have y0 := k0.cell 0; have y1 := k0.cell 1; have y2 := k0.cell 2; have y3 := k0.cell 3; have y4 := k0.cell 4; have y5 := k0.cell 5; have y6 := k0.cell 6; have y7 := k0.cell 7; have l0 := k0.lt; simp only [List.getElem?_toArray, List.getElem?_cons_zero, List.getElem?_cons_succ] at y0 y1 y2 y3 y4 y5 y6 y7; have p0 := k1.cell 0; have p1 := k1.cell 1; have p2 := k1.cell 2; have p3 := k1.cell 3; have p4 := k1.cell 4; have p5 := k1.cell 5; have l1 := k1.lt; simp only [List.getElem?_toArray, List.getElem?_cons_zero, List.getElem?_cons_succ] at p0 p1 p2 p3 p4 p5
    go_wp2
    go_ret
    exact ⟨ret_bool (by rw [HX.out, hi, ht]; rfl), B⟩
  go_wp2_with fail
  refine (c_inNet _ _ _ _ HG.out.1).mono ?_
  rw [ht]
  rintro e w3 ⟨rfl, hq⟩
  clear y0 y1 y2 y3 y4 y5 y6 y7 l0; clear p0 p1 p2 p3 p4 p5 l1; replace k0 := k0.to hq; replace k1 := k1.to hq; replace B := Bl.then B hq; clear hq; have y0 := k0.cell 0; have y1 := k0.cell 1; have y2 := k0.cell 2; have y3 := k0.cell 3; have y4 := k0.cell 4; have y5 := k0.cell 5; have y6 := k0.cell 6; have y7 := k0.cell 7; have l0 := k0.lt; simp only [List.getElem?_toArray, List.getElem?_cons_zero, List.getElem?_cons_succ] at y0 y1 y2 y3 y4 y5 y6 y7; have p0 := k1.cell 0; have p1 := k1.cell 1; have p2 := k1.cell 2; have p3 := k1.cell 3; have p4 := k1.cell 4; have p5 := k1.cell 5; have l1 := k1.lt; simp only [List.getElem?_toArray, List.getElem?_cons_zero, List.getElem?_cons_succ] at p0 p1 p2 p3 p4 p5
  go_wp2
  go_ret
  exact ⟨ret_bool (by rw [HX.out, hi, ht]; rfl), B⟩
theorem c_comesIn (g : Gt) (p : Pk) (A : Option Addr) (n c : Nat) (C : Option Addr) (m d : Nat) (D : Option Addr) (dc : Nat) (w : World) (hv : vGate g = true) (hp : vPk p = true) (hn : g.tb.length = n) (h : TM w A g.tb) (hm : g.cs.length = m) (h' : TK w C g.cs) :
    Calls Tryz.prog 138 #[.agg #[.int .i64 g.ba, .int .i64 g.bi, .int .i64 g.ou, .slice A n c, .slice C m d, .int .i64 g.fi, .int .i64 g.ho, .int .i64 g.no], .agg #[.int .i64 0, .int .i64 p.fa, .int .i64 p.fp, .int .i64 p.ta, .int .i64 p.tp, .slice D 0 dc]] w fun e w' => e = .returned (.bool (inB' g p)) ∧ Below w.heap.size w w' := by
  have HN := Lib.hid hn
  have HM := Lib.hid hm
  have HA : Hid (∀ W, Below w.heap.size w W → TM W A g.tb) := fun W b => h.to b
  have HC : Hid (∀ W, Below w.heap.size w W → TK W C g.cs) := fun W b => h'.to b
  have HV := Lib.hid hv
  have HP := Lib.hid hp
  have HG := Lib.hid (gate_nums hv)
  clear hn hm h h' hv hp
  have k0 := (Blk.new w 44 #[.int .i64 g.ba, .int .i64 g.bi, .int .i64 g.ou, .slice A n c, .slice C m d, .int .i64 g.fi, .int .i64 g.ho, .int .i64 g.no]).alloc (.cells #[.int .i64 0, .int .i64 p.fa, .int .i64 p.fp, .int .i64 p.ta, .int .i64 p.tp, .slice D 0 dc] 74)
  have k1 := Blk.new (w.alloc (.cells #[.int .i64 g.ba, .int .i64 g.bi, .int .i64 g.ou, .slice A n c, .slice C m d, .int .i64 g.fi, .int .i64 g.ho, .int .i64 g.no] 44)) 74 #[.int .i64 0, .int .i64 p.fa, .int .i64 p.fp, .int .i64 p.ta, .int .i64 p.tp, .slice D 0 dc]
  have B : Below w.heap.size w ((w.alloc (.cells #[.int .i64 g.ba, .int .i64 g.bi, .int .i64 g.ou, .slice A n c, .slice C m d, .int .i64 g.fi, .int .i64 g.ho, .int .i64 g.no] 44)).alloc (.cells #[.int .i64 0, .int .i64 p.fa, .int .i64 p.fp, .int .i64 p.ta, .int .i64 p.tp, .slice D 0 dc] 74)) := ((Below.refl _ _).alloc (Nat.le_refl _) _).alloc (by simp) _
  simp only [World.size_alloc] at k1
  have y0 := k0.cell 0; have y1 := k0.cell 1; have y2 := k0.cell 2; have y3 := k0.cell 3; have y4 := k0.cell 4; have y5 := k0.cell 5; have y6 := k0.cell 6; have y7 := k0.cell 7; have l0 := k0.lt; simp only [List.getElem?_toArray, List.getElem?_cons_zero, List.getElem?_cons_succ] at y0 y1 y2 y3 y4 y5 y6 y7
  have p0 := k1.cell 0; have p1 := k1.cell 1; have p2 := k1.cell 2; have p3 := k1.cell 3; have p4 := k1.cell 4; have p5 := k1.cell 5; have l1 := k1.lt; simp only [List.getElem?_toArray, List.getElem?_cons_zero, List.getElem?_cons_succ] at p0 p1 p2 p3 p4 p5
  have HX : Hid (inB' g p = ((p.ta == g.ou) && !inN g.ba g.bi p.fa)) := rfl
  go_enter Tryz.func138, Tryz.ntmps138
  go_wp2_with fail
  refine (c_validGate g A n c C m d _ HV.out HN.out (HA.out _ B) HM.out (HC.out _ B)).mono ?_
  rintro e w1 ⟨rfl, hq⟩
  clear y0 y1 y2 y3 y4 y5 y6 y7 l0; clear p0 p1 p2 p3 p4 p5 l1; replace k0 := k0.to hq; replace k1 := k1.to hq; replace B := Bl.then B hq; clear hq; have y0 := k0.cell 0; have y1 := k0.cell 1; have y2 := k0.cell 2; have y3 := k0.cell 3; have y4 := k0.cell 4; have y5 := k0.cell 5; have y6 := k0.cell 6; have y7 := k0.cell 7; have l0 := k0.lt; simp only [List.getElem?_toArray, List.getElem?_cons_zero, List.getElem?_cons_succ] at y0 y1 y2 y3 y4 y5 y6 y7; have p0 := k1.cell 0; have p1 := k1.cell 1; have p2 := k1.cell 2; have p3 := k1.cell 3; have p4 := k1.cell 4; have p5 := k1.cell 5; have l1 := k1.lt; simp only [List.getElem?_toArray, List.getElem?_cons_zero, List.getElem?_cons_succ] at p0 p1 p2 p3 p4 p5
  go_wp2_with fail
  refine (c_sValidPacket p D dc _ HP.out).mono ?_
  rintro e w2 ⟨rfl, hq⟩
  clear y0 y1 y2 y3 y4 y5 y6 y7 l0; clear p0 p1 p2 p3 p4 p5 l1; replace k0 := k0.to hq; replace k1 := k1.to hq; replace B := Bl.then B hq; clear hq; have y0 := k0.cell 0; have y1 := k0.cell 1; have y2 := k0.cell 2; have y3 := k0.cell 3; have y4 := k0.cell 4; have y5 := k0.cell 5; have y6 := k0.cell 6; have y7 := k0.cell 7; have l0 := k0.lt; simp only [List.getElem?_toArray, List.getElem?_cons_zero, List.getElem?_cons_succ] at y0 y1 y2 y3 y4 y5 y6 y7; have p0 := k1.cell 0; have p1 := k1.cell 1; have p2 := k1.cell 2; have p3 := k1.cell 3; have p4 := k1.cell 4; have p5 := k1.cell 5; have l1 := k1.lt; simp only [List.getElem?_toArray, List.getElem?_cons_zero, List.getElem?_cons_succ] at p0 p1 p2 p3 p4 p5
  cases ho : p.ta == g.ou
  · skip
    go_wp2
    go_ret
    exact ⟨ret_bool (by rw [HX.out, ho]; rfl), B⟩
  go_wp2_with fail
  refine (c_inNet _ _ _ _ HG.out.1).mono ?_
  rintro e w3 ⟨rfl, hq⟩
  clear y0 y1 y2 y3 y4 y5 y6 y7 l0; clear p0 p1 p2 p3 p4 p5 l1; replace k0 := k0.to hq; replace k1 := k1.to hq; replace B := Bl.then B hq; clear hq; have y0 := k0.cell 0; have y1 := k0.cell 1; have y2 := k0.cell 2; have y3 := k0.cell 3; have y4 := k0.cell 4; have y5 := k0.cell 5; have y6 := k0.cell 6; have y7 := k0.cell 7; have l0 := k0.lt; simp only [List.getElem?_toArray, List.getElem?_cons_zero, List.getElem?_cons_succ] at y0 y1 y2 y3 y4 y5 y6 y7; have p0 := k1.cell 0; have p1 := k1.cell 1; have p2 := k1.cell 2; have p3 := k1.cell 3; have p4 := k1.cell 4; have p5 := k1.cell 5; have l1 := k1.lt; simp only [List.getElem?_toArray, List.getElem?_cons_zero, List.getElem?_cons_succ] at p0 p1 p2 p3 p4 p5
  go_wp2
  go_ret
  exact ⟨ret_bool (by rw [HX.out, ho]; rfl), B⟩
theorem c_sWayOf (g : Gt) (p : Pk) (A : Option Addr) (n c : Nat) (C : Option Addr) (m d : Nat) (D : Option Addr) (dc : Nat) (w : World) (hv : vGate g = true) (hp : vPk p = true) (hn : g.tb.length = n) (h : TM w A g.tb) (hm : g.cs.length = m) (h' : TK w C g.cs) :
    Calls Tryz.prog 82 #[.agg #[.int .i64 g.ba, .int .i64 g.bi, .int .i64 g.ou, .slice A n c, .slice C m d, .int .i64 g.fi, .int .i64 g.ho, .int .i64 g.no], .agg #[.int .i64 0, .int .i64 p.fa, .int .i64 p.fp, .int .i64 p.ta, .int .i64 p.tp, .slice D 0 dc]] w fun e w' => e = .returned (.int .i64 (wayV g p)) ∧ Below w.heap.size w w' := by
  have HN := Lib.hid hn
  have HM := Lib.hid hm
  have HA : Hid (∀ W, Below w.heap.size w W → TM W A g.tb) := fun W b => h.to b
  have HC : Hid (∀ W, Below w.heap.size w W → TK W C g.cs) := fun W b => h'.to b
  have HV := Lib.hid hv
  have HP := Lib.hid hp
  have HG := Lib.hid (gate_nums hv)
  clear hn hm h h' hv hp
  have k0 := (Blk.new w 44 #[.int .i64 g.ba, .int .i64 g.bi, .int .i64 g.ou, .slice A n c, .slice C m d, .int .i64 g.fi, .int .i64 g.ho, .int .i64 g.no]).alloc (.cells #[.int .i64 0, .int .i64 p.fa, .int .i64 p.fp, .int .i64 p.ta, .int .i64 p.tp, .slice D 0 dc] 74)
  have k1 := Blk.new (w.alloc (.cells #[.int .i64 g.ba, .int .i64 g.bi, .int .i64 g.ou, .slice A n c, .slice C m d, .int .i64 g.fi, .int .i64 g.ho, .int .i64 g.no] 44)) 74 #[.int .i64 0, .int .i64 p.fa, .int .i64 p.fp, .int .i64 p.ta, .int .i64 p.tp, .slice D 0 dc]
  have B : Below w.heap.size w ((w.alloc (.cells #[.int .i64 g.ba, .int .i64 g.bi, .int .i64 g.ou, .slice A n c, .slice C m d, .int .i64 g.fi, .int .i64 g.ho, .int .i64 g.no] 44)).alloc (.cells #[.int .i64 0, .int .i64 p.fa, .int .i64 p.fp, .int .i64 p.ta, .int .i64 p.tp, .slice D 0 dc] 74)) := ((Below.refl _ _).alloc (Nat.le_refl _) _).alloc (by simp) _
  simp only [World.size_alloc] at k1
  have y0 := k0.cell 0; have y1 := k0.cell 1; have y2 := k0.cell 2; have y3 := k0.cell 3; have y4 := k0.cell 4; have y5 := k0.cell 5; have y6 := k0.cell 6; have y7 := k0.cell 7; have l0 := k0.lt; simp only [List.getElem?_toArray, List.getElem?_cons_zero, List.getElem?_cons_succ] at y0 y1 y2 y3 y4 y5 y6 y7
  have p0 := k1.cell 0; have p1 := k1.cell 1; have p2 := k1.cell 2; have p3 := k1.cell 3; have p4 := k1.cell 4; have p5 := k1.cell 5; have l1 := k1.lt; simp only [List.getElem?_toArray, List.getElem?_cons_zero, List.getElem?_cons_succ] at p0 p1 p2 p3 p4 p5
  go_enter Tryz.func82, Tryz.ntmps82
  go_wp2_with fail
  refine (c_validGate g A n c C m d _ HV.out HN.out (HA.out _ B) HM.out (HC.out _ B)).mono ?_
  rintro e w1 ⟨rfl, hq⟩
  clear y0 y1 y2 y3 y4 y5 y6 y7 l0; clear p0 p1 p2 p3 p4 p5 l1; replace k0 := k0.to hq; replace k1 := k1.to hq; replace B := Bl.then B hq; clear hq; have y0 := k0.cell 0; have y1 := k0.cell 1; have y2 := k0.cell 2; have y3 := k0.cell 3; have y4 := k0.cell 4; have y5 := k0.cell 5; have y6 := k0.cell 6; have y7 := k0.cell 7; have l0 := k0.lt; simp only [List.getElem?_toArray, List.getElem?_cons_zero, List.getElem?_cons_succ] at y0 y1 y2 y3 y4 y5 y6 y7; have p0 := k1.cell 0; have p1 := k1.cell 1; have p2 := k1.cell 2; have p3 := k1.cell 3; have p4 := k1.cell 4; have p5 := k1.cell 5; have l1 := k1.lt; simp only [List.getElem?_toArray, List.getElem?_cons_zero, List.getElem?_cons_succ] at p0 p1 p2 p3 p4 p5
  go_wp2_with fail
  refine (c_sValidPacket p D dc _ HP.out).mono ?_
  rintro e w2 ⟨rfl, hq⟩
  clear y0 y1 y2 y3 y4 y5 y6 y7 l0; clear p0 p1 p2 p3 p4 p5 l1; replace k0 := k0.to hq; replace k1 := k1.to hq; replace B := Bl.then B hq; clear hq; have y0 := k0.cell 0; have y1 := k0.cell 1; have y2 := k0.cell 2; have y3 := k0.cell 3; have y4 := k0.cell 4; have y5 := k0.cell 5; have y6 := k0.cell 6; have y7 := k0.cell 7; have l0 := k0.lt; simp only [List.getElem?_toArray, List.getElem?_cons_zero, List.getElem?_cons_succ] at y0 y1 y2 y3 y4 y5 y6 y7; have p0 := k1.cell 0; have p1 := k1.cell 1; have p2 := k1.cell 2; have p3 := k1.cell 3; have p4 := k1.cell 4; have p5 := k1.cell 5; have l1 := k1.lt; simp only [List.getElem?_toArray, List.getElem?_cons_zero, List.getElem?_cons_succ] at p0 p1 p2 p3 p4 p5
  go_wp2_with fail
  refine (c_goesOut g p A n c C m d D dc _ HV.out HP.out HN.out (HA.out _ B) HM.out (HC.out _ B)).mono ?_
  rintro e w4 ⟨rfl, hq⟩
  clear y0 y1 y2 y3 y4 y5 y6 y7 l0; clear p0 p1 p2 p3 p4 p5 l1; replace k0 := k0.to hq; replace k1 := k1.to hq; replace B := Bl.then B hq; clear hq; have y0 := k0.cell 0; have y1 := k0.cell 1; have y2 := k0.cell 2; have y3 := k0.cell 3; have y4 := k0.cell 4; have y5 := k0.cell 5; have y6 := k0.cell 6; have y7 := k0.cell 7; have l0 := k0.lt; simp only [List.getElem?_toArray, List.getElem?_cons_zero, List.getElem?_cons_succ] at y0 y1 y2 y3 y4 y5 y6 y7; have p0 := k1.cell 0; have p1 := k1.cell 1; have p2 := k1.cell 2; have p3 := k1.cell 3; have p4 := k1.cell 4; have p5 := k1.cell 5; have l1 := k1.lt; simp only [List.getElem?_toArray, List.getElem?_cons_zero, List.getElem?_cons_succ] at p0 p1 p2 p3 p4 p5
  cases h1 : outB g p
  · have H1 := Lib.hid h1
    clear h1
    go_wp2_with fail
    refine (c_comesIn g p A n c C m d D dc _ HV.out HP.out HN.out (HA.out _ B) HM.out (HC.out _ B)).mono ?_
    rintro e w5 ⟨rfl, hq⟩
    clear y0 y1 y2 y3 y4 y5 y6 y7 l0; clear p0 p1 p2 p3 p4 p5 l1; replace k0 := k0.to hq; replace k1 := k1.to hq; replace B := Bl.then B hq; clear hq; have y0 := k0.cell 0; have y1 := k0.cell 1; have y2 := k0.cell 2; have y3 := k0.cell 3; have y4 := k0.cell 4; have y5 := k0.cell 5; have y6 := k0.cell 6; have y7 := k0.cell 7; have l0 := k0.lt; simp only [List.getElem?_toArray, List.getElem?_cons_zero, List.getElem?_cons_succ] at y0 y1 y2 y3 y4 y5 y6 y7; have p0 := k1.cell 0; have p1 := k1.cell 1; have p2 := k1.cell 2; have p3 := k1.cell 3; have p4 := k1.cell 4; have p5 := k1.cell 5; have l1 := k1.lt; simp only [List.getElem?_toArray, List.getElem?_cons_zero, List.getElem?_cons_succ] at p0 p1 p2 p3 p4 p5
    cases h2 : inB' g p
    · have H2 := Lib.hid h2
      clear h2
      go_wp2_with fail
      refine (c_inNet _ _ _ _ HG.out.1).mono ?_
      rintro e w6 ⟨rfl, hq⟩
      clear y0 y1 y2 y3 y4 y5 y6 y7 l0; clear p0 p1 p2 p3 p4 p5 l1; replace k0 := k0.to hq; replace k1 := k1.to hq; replace B := Bl.then B hq; clear hq; have y0 := k0.cell 0; have y1 := k0.cell 1; have y2 := k0.cell 2; have y3 := k0.cell 3; have y4 := k0.cell 4; have y5 := k0.cell 5; have y6 := k0.cell 6; have y7 := k0.cell 7; have l0 := k0.lt; simp only [List.getElem?_toArray, List.getElem?_cons_zero, List.getElem?_cons_succ] at y0 y1 y2 y3 y4 y5 y6 y7; have p0 := k1.cell 0; have p1 := k1.cell 1; have p2 := k1.cell 2; have p3 := k1.cell 3; have p4 := k1.cell 4; have p5 := k1.cell 5; have l1 := k1.lt; simp only [List.getElem?_toArray, List.getElem?_cons_zero, List.getElem?_cons_succ] at p0 p1 p2 p3 p4 p5
      cases h3 : inN g.ba g.bi p.fa
      · have H3 := Lib.hid h3
        clear h3
        go_wp2
        go_ret
        exact ⟨ret_int (by rw [wayV_none H1.out H2.out (fun h => by rw [H3.out] at h; cases h)]), B⟩
      · have H3 := Lib.hid h3
        clear h3
        by_cases h4 : p.ta = g.ou
        · have t4 : (p.ta == g.ou) = true := beq_iff_eq.2 h4
          have H4 := Lib.hid h4
          clear h4
          go_wp2
          go_ret
          exact ⟨ret_int (by rw [wayV_btw H3.out H4.out]), B⟩
        · have t4 : (p.ta == g.ou) = false := beq_eq_false_iff_ne.2 h4
          have H4 := Lib.hid h4
          clear h4
          go_wp2
          go_ret
          exact ⟨ret_int (by rw [wayV_none H1.out H2.out (fun _ => H4.out)]), B⟩
    · have H2 := Lib.hid h2
      clear h2
      go_wp2
      go_ret
      exact ⟨ret_int (by rw [wayV_in H2.out]), B⟩
  · have H1 := Lib.hid h1
    clear h1
    go_wp2
    go_ret
    exact ⟨ret_int (by rw [wayV_out H1.out]), B⟩
end Go.Proofs.YtjflfhjnbccpmaaGreatDoor
