/- Joined: W22P, W23, W22, UO, W25, W26, W27, W28. -/
import Derived.Test.YtjflfhjnbccpmaaGreatDoorJ13
import Derived.MapKept
import Derived.Test.YtjflfhjnbccpmaaGreatDoorProg
import Derived.WalkKit
import Derived.ProofKit
import Derived.OpenShut
import Derived.ChangeOld
import Derived.SliceStrings
import Derived.Lib.FrozenHead2
import Derived.Lib.OthersKept
import Derived.Shelf.Strings.BuilderK
set_option linter.unusedVariables false
set_option linter.unusedSimpArgs false
namespace Go.Proofs.YtjflfhjnbccpmaaGreatDoor
open Go.RowKit
theorem same_word {x : ByteArray} {l m : List UInt8} (h : l = x.data.toList) : x.toList = m ↔ l = m := by rw [ByteArray.toList_eq, h]
theorem lineL_if (g : Gt) (s : List UInt8) {bs bw bf bt bc : Bool} {q : Nat} (h1 : decide (wn (spl s 32) 0 = sendW) = bs) (h2 : decide (wn (spl s 32) 0 = waitW) = bw) (h3 : decide (wn (spl s 32) 0 = filterW) = bf) (hq : (spl s 32).length = q)
    (h4 : decide (s = tableW) = bt) (h5 : decide (s = countW) = bc) :
    lineL g s = if bs && decide (q = 3) then sendL g (wn (spl s 32) 1) (wn (spl s 32) 2) else if bw && decide (q = 2) then waitL g (numV (wn (spl s 32) 1)) else if bf && decide (q = 2) then filterL g (numV (wn (spl s 32) 1))
      else if bt then ((tabT g.tb).data.toList, g) else if bc then (dl g.tb.length ++ 32 :: dl g.cs.length, g) else (whatL, g) := by
  subst h1 h2 h3 hq h4 h5
  unfold lineL
  simp only [decide_eq_true_eq]
theorem cell_grown {w w' : World} {row : Option Nat} {b o : Nat} {v : Value} (h : w.cell? ⟨b, o, none⟩ = some v) (hg : w.grownBy w' row) (hb : b < w.heap.size) (hne : some b ≠ row) : w'.cell? ⟨b, o, none⟩ = some v :=
  (World.cell?_of_block (w := w) (a := ⟨b, o, none⟩) (hg.block b hb hne)).trans h
theorem grown_below {w w' : World} {gb : Nat} (hg : w.grownBy w' (some gb)) {w0 : World} (h : Below w0.heap.size w0 w) (hgb : w0.heap.size ≤ gb) : Below w0.heap.size w0 w' := h.grown hg h.size (fun j hj => by injection hj with e; omega)
theorem cnt_join (n m : Nat) : dec (n : Int) ++ (⟨#[32]⟩ : ByteArray) ++ dec (m : Int) = ⟨(dl (n : Int) ++ 32 :: dl (m : Int)).toArray⟩ := by
  rw [sp_join, dec_list, dec_list]
end Go.Proofs.YtjflfhjnbccpmaaGreatDoor
namespace Go.Proofs.YtjflfhjnbccpmaaGreatDoor
open Go.RowKit
set_option maxRecDepth 20000 in
set_option maxHeartbeats 6400000 in
theorem c_sLine (g : Gt) (gb : Nat) (P : Nat → Prop) (w0 w : World) (s : ByteArray) (hv : vGate g = true) (hG : GA w gb 56 P g) (hB : Below w0.heap.size w0 w) (hgb : w0.heap.size ≤ gb) (hs : s.size ≤ 4000000000) :
    Calls Tryz.prog 23 #[.pointer (some ⟨gb, 0, none⟩), .string s] w fun e w' => e = .returned (.string ⟨(lineL g s.data.toList).1.toArray⟩) ∧ GA w' gb 56 (fun k => P k ∨ w.heap.size ≤ k) (lineL g s.data.toList).2 ∧ w.grownBy w' (some gb) := by
  have HGA := Lib.hid hG
  obtain ⟨A, n, c, C, m, d, k0, hn, hc, h, hm, hd, h', ap1, ap2⟩ := hG
  have HN := Lib.hid hn
  have HM := Lib.hid hm
  have HA : Hid (∀ W, Below w.heap.size w W → TM W A g.tb) := fun W b => h.to b
  have HC : Hid (∀ W, Below w.heap.size w W → TK W C g.cs) := fun W b => h'.to b
  have HV := Lib.hid hv
  have hn8 : n ≤ 8 := hn ▸ tab_len (gate_tab hv)
  have hm10 : m ≤ 10 := hm ▸ con_len (gate_con hv)
  have hgl := k0.lt
  have B : Below w.heap.size w w := Below.refl _ _
  have B0 := hB
  clear hn hm h h' hv ap1 ap2 hB
  go_enter Tryz.func23, Tryz.ntmps23
  go_wp2_with fail
  refine (c_split2 s _ hs).mono ?_
  rintro e w1 ⟨A0, q, cc, xs, rfl, HCT⟩
  have hq := HCT.below
  replace k0 := k0.to hq
  replace B := Bl.then B hq
  replace B0 := Bl.then B0 hq
  obtain ⟨x0, hx0, hw0, hz0⟩ := HCT.word HCT.pos
  have hRW := HCT.rd
  have hFW := HCT.fr
  have hqp := HCT.pos
  have HNUM := Lib.hid HCT.num
  have HWD : Hid (∀ k, k < q → ∃ x, xs[k]? = some x ∧ wn (spl s.data.toList 32) k = x.data.toList ∧ x.size ≤ s.size) := fun k hk => HCT.word hk
  clear HCT hq
  obtain ⟨b, off, rfl, hbl, -⟩ := hRW 0 (.string x0) (by rw [List.getElem?_map, hx0]; rfl)
  have hbne : some b ≠ some gb := fun e => by injection e with e; have := hFW _ rfl; simp at this; omega
  have c0 : w1.cell? ⟨b, off, none⟩ = some (.string x0) := by have := wcell hRW hx0; simpa using this
  obtain ⟨b1, hb1⟩ : ∃ b, (decide (wn (spl s.data.toList 32) 0 = sendW) && decide (q = 3)) = b := ⟨_, rfl⟩
  obtain ⟨b2, hb2⟩ : ∃ b, (decide (wn (spl s.data.toList 32) 0 = waitW) && decide (q = 2)) = b := ⟨_, rfl⟩
  obtain ⟨b3, hb3⟩ : ∃ b, (decide (wn (spl s.data.toList 32) 0 = filterW) && decide (q = 2)) = b := ⟨_, rfl⟩
  obtain ⟨b4, hb4⟩ : ∃ b, decide (s.data.toList = tableW) = b := ⟨_, rfl⟩
  obtain ⟨b5, hb5⟩ : ∃ b, decide (s.data.toList = countW) = b := ⟨_, rfl⟩
  have HLN : Hid (lineL g s.data.toList = if b1 then sendL g (wn (spl s.data.toList 32) 1) (wn (spl s.data.toList 32) 2) else if b2 then waitL g (numV (wn (spl s.data.toList 32) 1)) else if b3 then filterL g (numV (wn (spl s.data.toList 32) 1)) else if b4 then ((tabT g.tb).data.toList, g) else if b5 then (dl g.tb.length ++ 32 :: dl g.cs.length, g) else (whatL, g)) := Lib.hid (by rw [lineL_if g s.data.toList rfl rfl rfl HNUM.out hb4 hb5, hb1, hb2, hb3])
  have hQ3 : ((q : Int) == 3) = decide (q = 3) := by rw [Bool.eq_iff_iff, beq_iff_eq, decide_eq_true_eq]; omega
  have hQ2 : ((q : Int) == 2) = decide (q = 2) := by rw [Bool.eq_iff_iff, beq_iff_eq, decide_eq_true_eq]; omega
  have e2 : (0 : Int) < (q : Int) := by omega
  have HT : Hid ((x0.toList = [115, 101, 110, 100] ↔ wn (spl s.data.toList 32) 0 = sendW) ∧ (x0.toList = [119, 97, 105, 116] ↔ wn (spl s.data.toList 32) 0 = waitW) ∧ (x0.toList = [102, 105, 108, 116, 101, 114] ↔ wn (spl s.data.toList 32) 0 = filterW)) := Lib.hid ⟨same_word hw0, same_word hw0, same_word hw0⟩
  have HT2 : Hid ((s.toList = [116, 97, 98, 108, 101] ↔ s.data.toList = tableW) ∧ (s.toList = [99, 111, 117, 110, 116] ↔ s.data.toList = countW)) := Lib.hid ⟨same_word rfl, same_word rfl⟩
  have HB := Lib.hid (And.intro hb1 (And.intro hb2 hb3))
  have HB4 := Lib.hid hb4
  have HB5 := Lib.hid hb5
  have HQ := Lib.hid (And.intro hQ3 hQ2)
  clear hb1 hb2 hb3 hb4 hb5 hQ3 hQ2 hw0 hx0
  go_upto_region 2 with fail
  go_cut [8] (fun s wx => s = .bool b1 ∧ wx = w1)
  case first =>
    have tq := HQ.out.1
    have hb := HB.out.1
    cases hd : decide (wn (spl s.data.toList 32) 0 = sendW)
    · have ts : ¬ x0.toList = [115, 101, 110, 100] := fun e => of_decide_eq_false hd (HT.out.1.1 e)
      rw [hd] at hb
      subst hb
      clear hd tq
      go_wp2_with fail
      go_meet
      exact ⟨rfl, rfl⟩
    · have ts : x0.toList = [115, 101, 110, 100] := HT.out.1.2 (of_decide_eq_true hd)
      rw [hd] at hb
      clear hd
      cases hd2 : decide (q = 3)
      · rw [hd2] at tq hb
        subst hb
        clear hd2
        go_wp2_with fail
        go_meet
        exact ⟨rfl, rfl⟩
      · rw [hd2] at tq hb
        subst hb
        clear hd2
        go_wp2_with fail
        go_meet
        exact ⟨rfl, rfl⟩
  case rest =>
    obtain ⟨rfl, hwc⟩ := hcut
    subst hwc
    cases b1
    rotate_left
    · have hq3 : q = 3 := by have := HB.out.1; rw [Bool.and_eq_true, decide_eq_true_eq, decide_eq_true_eq] at this; exact this.2
      subst hq3
      obtain ⟨x1, hx1, hw1, hz1⟩ := HWD.out 1 (by omega)
      obtain ⟨x2, hx2, hw2, hz2⟩ := HWD.out 2 (by omega)
      have HZ : Hid (lineL g s.data.toList = sendL g x1.data.toList x2.data.toList) := Lib.hid (by rw [HLN.out, if_pos rfl, ← hw1, ← hw2])
      go_upto_region 3 with fail
      have hq : Below wc.heap.size wc wc.drew := Bl.of_drewN wc 1
      have c1 : wc.drew.cell? ⟨b, off + 1, none⟩ = some (.string x1) := wcell hRW hx1
      have c2 : wc.drew.cell? ⟨b, off + 2, none⟩ = some (.string x2) := wcell hRW hx2
      replace B : Below w.heap.size w wc.drew := Bl.then B hq
      replace B0 : Below w0.heap.size w0 wc.drew := Bl.then B0 hq
      replace hbl : b < wc.drew.heap.size := hbl
      clear hx1 hx2 hw1 hw2 hq c0 k0 hRW
      go_wp2_with fail
      refine wp_region_held_drew (S := (fun w' => w'.cell? ⟨b, off + 1, none⟩ = some (.string x1) ∧ w'.cell? ⟨b, off + 2, none⟩ = some (.string x2))) (by kernel_rfl) ?_ (fun hHeld => ?_)
      · (try dsimp only); exact ⟨c1, c2⟩
      refine wpAnyH_take (i := 0) (v := ?_) (arr_at rfl) (by kernel_rfl) (by kernel_rfl) (by kernel_rfl) (fun _ _ _ h => h) ?_ (by assumption) ?_
      rotate_left
      · first | (refine Or.inr ⟨by rfl, ?_⟩; with_reducible rfl) | (refine Or.inl ⟨by rfl, ?_⟩; intro w hSw; (try dsimp only at hSw); go_simp; first | done | with_reducible rfl)
      try simp only [Act.put, List.setIfInBounds_toArray, List.set_cons_zero, List.set_cons_succ]
      refine wpAnyH_take (i := 1) (v := ?_) (arr_at rfl) (by kernel_rfl) (by kernel_rfl) (by kernel_rfl) (fun _ _ _ h => h) ?_ (by assumption) ?_
      rotate_left
      · first | (refine Or.inr ⟨by rfl, ?_⟩; with_reducible rfl) | (refine Or.inl ⟨by rfl, ?_⟩; intro w hSw; (try dsimp only at hSw); go_simp; first | done | with_reducible rfl)
      try simp only [Act.put, List.setIfInBounds_toArray, List.set_cons_zero, List.set_cons_succ]
      refine wpAnyH_take (i := 2) (v := ?_) (arr_at rfl) (by kernel_rfl) (by kernel_rfl) (by kernel_rfl) (fun _ _ _ h => h) ?_ (by assumption) ?_
      rotate_left
      · first | (refine Or.inr ⟨by rfl, ?_⟩; with_reducible rfl) | (refine Or.inl ⟨by rfl, ?_⟩; intro w hSw; (try dsimp only at hSw); go_simp; first | done | with_reducible rfl)
      try simp only [Act.put, List.setIfInBounds_toArray, List.set_cons_zero, List.set_cons_succ]
      refine wpAnyH_take (i := 3) (v := ?_) (arr_at rfl) (by kernel_rfl) (by kernel_rfl) (by kernel_rfl) (fun _ _ _ h => h) ?_ (by assumption) ?_
      rotate_left
      · first | (refine Or.inr ⟨by rfl, ?_⟩; with_reducible rfl) | (refine Or.inl ⟨by rfl, ?_⟩; intro w hSw; (try dsimp only at hSw); go_simp; first | done | with_reducible rfl)
      try simp only [Act.put, List.setIfInBounds_toArray, List.set_cons_zero, List.set_cons_succ]
      refine wpAnyH_take (i := 4) (v := ?_) (arr_at rfl) (by kernel_rfl) (by kernel_rfl) (by kernel_rfl) (fun _ _ _ h => h) ?_ (by assumption) ?_
      rotate_left
      · first | (refine Or.inr ⟨by rfl, ?_⟩; with_reducible rfl) | (refine Or.inl ⟨by rfl, ?_⟩; intro w hSw; (try dsimp only at hSw); go_simp; first | done | with_reducible rfl)
      try simp only [Act.put, List.setIfInBounds_toArray, List.set_cons_zero, List.set_cons_succ]
      refine wpAnyH_take (i := 5) (v := ?_) (arr_at rfl) (by kernel_rfl) (by kernel_rfl) (by kernel_rfl) (fun _ _ _ h => h) ?_ (by assumption) ?_
      rotate_left
      · first | (refine Or.inr ⟨by rfl, ?_⟩; with_reducible rfl) | (refine Or.inl ⟨by rfl, ?_⟩; intro w hSw; (try dsimp only at hSw); go_simp; first | done | with_reducible rfl)
      try simp only [Act.put, List.setIfInBounds_toArray, List.set_cons_zero, List.set_cons_succ]
      refine wpAnyH_take (i := 6) (v := ?_) (arr_at rfl) (by kernel_rfl) (by kernel_rfl) (by kernel_rfl) (fun _ _ _ h => h) ?_ (by assumption) ?_
      rotate_left
      · first | (refine Or.inr ⟨by rfl, ?_⟩; with_reducible rfl) | (refine Or.inl ⟨by rfl, ?_⟩; intro w hSw; (try dsimp only at hSw); go_simp; first | done | with_reducible rfl)
      try simp only [Act.put, List.setIfInBounds_toArray, List.set_cons_zero, List.set_cons_succ]
      refine wpAnyH_ready (rs := [7]) (by kernel_rfl) (by simp) ?_
      refine AllReadyH.cons (arr_at rfl) (fun K hK => ?_) AllReadyH.nil
      go_simp
      have HGN : GA _ gb 56 P g := HGA.out.to B; go_at_call 33; refine (c_sSendWords g gb P w0 _ x1 x2 HV.out HGN B0 hgb (by omega) (by omega)).mono ?_; rintro e wE ⟨rfl, hGA, hgr⟩; replace c1 := cell_grown c1 hgr hbl hbne; replace c2 := cell_grown c2 hgr hbl hbne
      refine hK.out _ _ ?_ (fun hHeld => ?_)
      · (try dsimp only); exact ⟨c1, c2⟩
      clear hK K
      try simp only [Act.put, List.setIfInBounds_toArray, List.set_cons_zero, List.set_cons_succ]
      refine wpAnyH_take (i := 8) (v := ?_) (arr_at rfl) (by kernel_rfl) (by kernel_rfl) (by kernel_rfl) (fun _ _ _ h => h) ?_ (by assumption) ?_
      rotate_left
      · first | (refine Or.inr ⟨by rfl, ?_⟩; with_reducible rfl) | (refine Or.inl ⟨by rfl, ?_⟩; intro w hSw; (try dsimp only at hSw); go_simp; first | done | with_reducible rfl)
      try simp only [Act.put, List.setIfInBounds_toArray, List.set_cons_zero, List.set_cons_succ]
      refine wpAnyH_done (by kernel_rfl) ?_ _
      go_wp2
      go_ret
      exact ⟨by rw [HZ.out]; rfl, by rw [HZ.out]; exact hGA.mono (fun k hk => hk.imp id (Nat.le_trans B.size)), grown_trans (grown_of_below B _) hgr⟩
    go_upto_region 4 with fail
    go_cut [26] (fun s wx => s = .bool b2 ∧ wx = wc)
    case first =>
      have tq := HQ.out.2
      have hb := HB.out.2.1
      cases hd : decide (wn (spl s.data.toList 32) 0 = waitW)
      · have ts : ¬ x0.toList = [119, 97, 105, 116] := fun e => of_decide_eq_false hd (HT.out.2.1.1 e)
        rw [hd] at hb
        subst hb
        clear hd tq
        go_wp2_with fail
        go_meet
        exact ⟨rfl, rfl⟩
      · have ts : x0.toList = [119, 97, 105, 116] := HT.out.2.1.2 (of_decide_eq_true hd)
        rw [hd] at hb
        clear hd
        cases hd2 : decide (q = 2)
        · rw [hd2] at tq hb
          subst hb
          clear hd2
          go_wp2_with fail
          go_meet
          exact ⟨rfl, rfl⟩
        · rw [hd2] at tq hb
          subst hb
          clear hd2
          go_wp2_with fail
          go_meet
          exact ⟨rfl, rfl⟩
    case rest =>
      obtain ⟨rfl, hwc⟩ := hcut
      subst hwc
      cases b2
      rotate_left
      · have hq2 : q = 2 := by have := HB.out.2.1; rw [Bool.and_eq_true, decide_eq_true_eq, decide_eq_true_eq] at this; exact this.2
        subst hq2
        obtain ⟨x1, hx1, hw1, hz1⟩ := HWD.out 1 (by omega)
        have HGN : GA wc gb 56 P g := HGA.out.to B
        have HZ : Hid (lineL g s.data.toList = waitL g (numV x1.data.toList)) := Lib.hid (by rw [HLN.out, hw1]; simp)
        have c1 : wc.cell? ⟨b, off + 1, none⟩ = some (.string x1) := wcell hRW hx1
        clear hx1 hw1 hRW k0
        go_wp2_with fail
        refine (c_sWait g gb P _ x1 HV.out HGN (by omega)).mono ?_
        rintro e wE ⟨rfl, hGA, hgr⟩
        go_wp2
        go_ret
        exact ⟨by rw [HZ.out]; rfl, by rw [HZ.out]; exact hGA.mono (fun k hk => hk.imp id (Nat.le_trans B.size)), grown_trans (grown_of_below B _) hgr⟩
      go_upto_region 6 with fail
      go_cut [41] (fun s wx => s = .bool b3 ∧ wx = wc)
      case first =>
        have tq := HQ.out.2
        have hb := HB.out.2.2
        cases hd : decide (wn (spl s.data.toList 32) 0 = filterW)
        · have ts : ¬ x0.toList = [102, 105, 108, 116, 101, 114] := fun e => of_decide_eq_false hd (HT.out.2.2.1 e)
          rw [hd] at hb
          subst hb
          clear hd tq
          go_wp2_with fail
          go_meet
          exact ⟨rfl, rfl⟩
        · have ts : x0.toList = [102, 105, 108, 116, 101, 114] := HT.out.2.2.2 (of_decide_eq_true hd)
          rw [hd] at hb
          clear hd
          cases hd2 : decide (q = 2)
          · rw [hd2] at tq hb
            subst hb
            clear hd2
            go_wp2_with fail
            go_meet
            exact ⟨rfl, rfl⟩
          · rw [hd2] at tq hb
            subst hb
            clear hd2
            go_wp2_with fail
            go_meet
            exact ⟨rfl, rfl⟩
      case rest =>
        obtain ⟨rfl, hwc⟩ := hcut
        subst hwc
        cases b3
        rotate_left
        · have hq2 : q = 2 := by have := HB.out.2.2; rw [Bool.and_eq_true, decide_eq_true_eq, decide_eq_true_eq] at this; exact this.2
          subst hq2
          obtain ⟨x1, hx1, hw1, hz1⟩ := HWD.out 1 (by omega)
          have HGN : GA wc gb 56 P g := HGA.out.to B
          have HZ : Hid (lineL g s.data.toList = filterL g (numV x1.data.toList)) := Lib.hid (by rw [HLN.out, hw1]; simp)
          have c1 : wc.cell? ⟨b, off + 1, none⟩ = some (.string x1) := wcell hRW hx1
          clear hx1 hw1 hRW k0
          go_wp2_with fail
          refine (c_sFilter g gb P _ x1 HV.out HGN (by omega)).mono ?_
          rintro e wE ⟨rfl, hGA, hgr⟩
          go_wp2
          go_ret
          exact ⟨by rw [HZ.out]; rfl, by rw [HZ.out]; exact hGA.mono (fun k hk => hk.imp id (Nat.le_trans B.size)), grown_trans (grown_of_below B _) hgr⟩
        cases b4
        rotate_left
        · have ht4 : s.toList = [116, 97, 98, 108, 101] := HT2.out.1.2 (of_decide_eq_true HB4.out)
          have HZ : Hid (lineL g s.data.toList = ((tabT g.tb).data.toList, g)) := Lib.hid (by rw [HLN.out]; rfl)
          have y3 := k0.cell 3
          have l1 := k0.lt
          simp only [List.getElem?_toArray, List.getElem?_cons_zero, List.getElem?_cons_succ] at y3
          go_wp2_with fail
          refine (c_sFormatTable A n c g.tb _ HN.out (HA.out _ B) (by omega)).mono ?_
          rintro e w9 ⟨rfl, hq⟩
          replace B := Bl.then B hq
          go_wp2
          go_ret
          exact ⟨by rw [HZ.out]; rfl, by rw [HZ.out]; exact (HGA.out.to B).inl, grown_of_below B _⟩
        have ht4 : ¬ s.toList = [116, 97, 98, 108, 101] := fun e => of_decide_eq_false HB4.out (HT2.out.1.1 e)
        cases b5
        rotate_left
        · have ht5 : s.toList = [99, 111, 117, 110, 116] := HT2.out.2.2 (of_decide_eq_true HB5.out)
          have HZ : Hid (lineL g s.data.toList = (dl g.tb.length ++ 32 :: dl g.cs.length, g)) := Lib.hid (by rw [HLN.out]; rfl)
          have hz1 := dec_size (n : Int)
          have hz2 := dec_size (m : Int)
          have hs1 : ¬ (9223372036854775807 < (dec (n : Int)).size + 1) := by omega
          have hs2 : ¬ (9223372036854775807 < (dec (n : Int)).size + 1 + (dec (m : Int)).size) := by omega
          go_upto_region 11 with fail
          have hq : Below wc.heap.size wc wc.drew := Bl.of_drewN wc 1
          replace k0 := k0.to hq
          replace B := Bl.then B hq
          replace B0 := Bl.then B0 hq
          clear c0 hbl hRW hq
          go_wp2_with fail
          refine wp_region_held_drew (S := (fun w' => w'.cell? ⟨gb, 3, none⟩ = some (.slice A n c) ∧ w'.cell? ⟨gb, 4, none⟩ = some (.slice C m d))) (by kernel_rfl) ?_ (fun hHeld => ?_)
          · (try dsimp only); exact ⟨k0.cell 3, k0.cell 4⟩
          refine wpAnyH_take (i := 0) (v := ?_) (arr_at rfl) (by kernel_rfl) (by kernel_rfl) (by kernel_rfl) (fun _ _ _ h => h) ?_ (by assumption) ?_
          rotate_left
          · first | (refine Or.inr ⟨by rfl, ?_⟩; with_reducible rfl) | (refine Or.inl ⟨by rfl, ?_⟩; intro w hSw; (try dsimp only at hSw); go_simp; first | done | with_reducible rfl)
          try simp only [Act.put, List.setIfInBounds_toArray, List.set_cons_zero, List.set_cons_succ]
          refine wpAnyH_take (i := 1) (v := ?_) (arr_at rfl) (by kernel_rfl) (by kernel_rfl) (by kernel_rfl) (fun _ _ _ h => h) ?_ (by assumption) ?_
          rotate_left
          · first | (refine Or.inr ⟨by rfl, ?_⟩; with_reducible rfl) | (refine Or.inl ⟨by rfl, ?_⟩; intro w hSw; (try dsimp only at hSw); go_simp; first | done | with_reducible rfl)
          try simp only [Act.put, List.setIfInBounds_toArray, List.set_cons_zero, List.set_cons_succ]
          refine wpAnyH_take (i := 2) (v := ?_) (arr_at rfl) (by kernel_rfl) (by kernel_rfl) (by kernel_rfl) (fun _ _ _ h => h) ?_ (by assumption) ?_
          rotate_left
          · first | (refine Or.inr ⟨by rfl, ?_⟩; with_reducible rfl) | (refine Or.inl ⟨by rfl, ?_⟩; intro w hSw; (try dsimp only at hSw); go_simp; first | done | with_reducible rfl)
          try simp only [Act.put, List.setIfInBounds_toArray, List.set_cons_zero, List.set_cons_succ]
          refine wpAnyH_take (i := 3) (v := ?_) (arr_at rfl) (by kernel_rfl) (by kernel_rfl) (by kernel_rfl) (fun _ _ _ h => h) ?_ (by assumption) ?_
          rotate_left
          · first | (refine Or.inr ⟨by rfl, ?_⟩; with_reducible rfl) | (refine Or.inl ⟨by rfl, ?_⟩; intro w hSw; (try dsimp only at hSw); go_simp; first | done | with_reducible rfl)
          try simp only [Act.put, List.setIfInBounds_toArray, List.set_cons_zero, List.set_cons_succ]
          refine wpAnyH_take (i := 4) (v := ?_) (arr_at rfl) (by kernel_rfl) (by kernel_rfl) (by kernel_rfl) (fun _ _ _ h => h) ?_ (by assumption) ?_
          rotate_left
          · first | (refine Or.inr ⟨by rfl, ?_⟩; with_reducible rfl) | (refine Or.inl ⟨by rfl, ?_⟩; intro w hSw; (try dsimp only at hSw); go_simp; first | done | with_reducible rfl)
          try simp only [Act.put, List.setIfInBounds_toArray, List.set_cons_zero, List.set_cons_succ]
          refine wpAnyH_take (i := 5) (v := ?_) (arr_at rfl) (by kernel_rfl) (by kernel_rfl) (by kernel_rfl) (fun _ _ _ h => h) ?_ (by assumption) ?_
          rotate_left
          · first | (refine Or.inr ⟨by rfl, ?_⟩; with_reducible rfl) | (refine Or.inl ⟨by rfl, ?_⟩; intro w hSw; (try dsimp only at hSw); go_simp; first | done | with_reducible rfl)
          try simp only [Act.put, List.setIfInBounds_toArray, List.set_cons_zero, List.set_cons_succ]
          refine wpAnyH_take (i := 8) (v := ?_) (arr_at rfl) (by kernel_rfl) (by kernel_rfl) (by kernel_rfl) (fun _ _ _ h => h) ?_ (by assumption) ?_
          rotate_left
          · first | (refine Or.inr ⟨by rfl, ?_⟩; with_reducible rfl) | (refine Or.inl ⟨by rfl, ?_⟩; intro w hSw; (try dsimp only at hSw); go_simp; first | done | with_reducible rfl)
          try simp only [Act.put, List.setIfInBounds_toArray, List.set_cons_zero, List.set_cons_succ]
          refine wpAnyH_take (i := 9) (v := ?_) (arr_at rfl) (by kernel_rfl) (by kernel_rfl) (by kernel_rfl) (fun _ _ _ h => h) ?_ (by assumption) ?_
          rotate_left
          · first | (refine Or.inr ⟨by rfl, ?_⟩; with_reducible rfl) | (refine Or.inl ⟨by rfl, ?_⟩; intro w hSw; (try dsimp only at hSw); go_simp; first | done | with_reducible rfl)
          try simp only [Act.put, List.setIfInBounds_toArray, List.set_cons_zero, List.set_cons_succ]
          refine wpAnyH_take (i := 10) (v := ?_) (arr_at rfl) (by kernel_rfl) (by kernel_rfl) (by kernel_rfl) (fun _ _ _ h => h) ?_ (by assumption) ?_
          rotate_left
          · first | (refine Or.inr ⟨by rfl, ?_⟩; with_reducible rfl) | (refine Or.inl ⟨by rfl, ?_⟩; intro w hSw; (try dsimp only at hSw); go_simp; first | done | with_reducible rfl)
          try simp only [Act.put, List.setIfInBounds_toArray, List.set_cons_zero, List.set_cons_succ]
          refine wpAnyH_take (i := 11) (v := ?_) (arr_at rfl) (by kernel_rfl) (by kernel_rfl) (by kernel_rfl) (fun _ _ _ h => h) ?_ (by assumption) ?_
          rotate_left
          · first | (refine Or.inr ⟨by rfl, ?_⟩; with_reducible rfl) | (refine Or.inl ⟨by rfl, ?_⟩; intro w hSw; (try dsimp only at hSw); go_simp; first | done | with_reducible rfl)
          try simp only [Act.put, List.setIfInBounds_toArray, List.set_cons_zero, List.set_cons_succ]
          refine wpAnyH_take (i := 12) (v := ?_) (arr_at rfl) (by kernel_rfl) (by kernel_rfl) (by kernel_rfl) (fun _ _ _ h => h) ?_ (by assumption) ?_
          rotate_left
          · first | (refine Or.inr ⟨by rfl, ?_⟩; with_reducible rfl) | (refine Or.inl ⟨by rfl, ?_⟩; intro w hSw; (try dsimp only at hSw); go_simp; first | done | with_reducible rfl)
          try simp only [Act.put, List.setIfInBounds_toArray, List.set_cons_zero, List.set_cons_succ]
          refine wpAnyH_take (i := 13) (v := ?_) (arr_at rfl) (by kernel_rfl) (by kernel_rfl) (by kernel_rfl) (fun _ _ _ h => h) ?_ (by assumption) ?_
          rotate_left
          · first | (refine Or.inr ⟨by rfl, ?_⟩; with_reducible rfl) | (refine Or.inl ⟨by rfl, ?_⟩; intro w hSw; (try dsimp only at hSw); go_simp; first | done | with_reducible rfl)
          try simp only [Act.put, List.setIfInBounds_toArray, List.set_cons_zero, List.set_cons_succ]
          refine wpAnyH_ready (rs := [6]) (by kernel_rfl) (by simp) ?_
          refine AllReadyH.cons (arr_at rfl) (fun K hK => ?_) AllReadyH.nil
          go_simp
          go_at_call 16; refine (c_dec _ _ (by omega) (by omega)).mono ?_; rintro e wA ⟨rfl, hq⟩; replace k0 := k0.to hq; replace B := Bl.then B hq; replace B0 := Bl.then B0 hq; clear hq
          refine hK.out _ _ ?_ (fun hHeld => ?_)
          · (try dsimp only); exact ⟨k0.cell 3, k0.cell 4⟩
          clear hK K
          try simp only [Act.put, List.setIfInBounds_toArray, List.set_cons_zero, List.set_cons_succ]
          refine wpAnyH_take (i := 7) (v := ?_) (arr_at rfl) (by kernel_rfl) (by kernel_rfl) (by kernel_rfl) (fun _ _ _ h => h) ?_ (by assumption) ?_
          rotate_left
          · first | (refine Or.inr ⟨by rfl, ?_⟩; with_reducible rfl) | (refine Or.inl ⟨by rfl, ?_⟩; intro w hSw; (try dsimp only at hSw); go_simp; first | done | with_reducible rfl)
          try simp only [Act.put, List.setIfInBounds_toArray, List.set_cons_zero, List.set_cons_succ]
          refine wpAnyH_ready (rs := [14]) (by kernel_rfl) (by simp) ?_
          refine AllReadyH.cons (arr_at rfl) (fun K hK => ?_) AllReadyH.nil
          go_simp
          go_at_call 16; refine (c_dec _ _ (by omega) (by omega)).mono ?_; rintro e wB ⟨rfl, hq⟩; replace k0 := k0.to hq; replace B := Bl.then B hq; replace B0 := Bl.then B0 hq; clear hq
          refine hK.out _ _ ?_ (fun hHeld => ?_)
          · (try dsimp only); exact ⟨k0.cell 3, k0.cell 4⟩
          clear hK K
          try simp only [Act.put, List.setIfInBounds_toArray, List.set_cons_zero, List.set_cons_succ]
          refine wpAnyH_take (i := 15) (v := ?_) (arr_at rfl) (by kernel_rfl) (by kernel_rfl) (by kernel_rfl) (fun _ _ _ h => h) ?_ (by assumption) ?_
          rotate_left
          · first | (refine Or.inr ⟨by rfl, ?_⟩; with_reducible rfl) | (refine Or.inl ⟨by rfl, ?_⟩; intro w hSw; (try dsimp only at hSw); go_simp; first | done | with_reducible rfl)
          try simp only [Act.put, List.setIfInBounds_toArray, List.set_cons_zero, List.set_cons_succ]
          refine wpAnyH_take (i := 16) (v := ?_) (arr_at rfl) (by kernel_rfl) (by kernel_rfl) (by kernel_rfl) (fun _ _ _ h => h) ?_ (by assumption) ?_
          rotate_left
          · first | (refine Or.inr ⟨by rfl, ?_⟩; with_reducible rfl) | (refine Or.inl ⟨by rfl, ?_⟩; intro w hSw; (try dsimp only at hSw); go_simp; first | done | with_reducible rfl)
          try simp only [Act.put, List.setIfInBounds_toArray, List.set_cons_zero, List.set_cons_succ]
          refine wpAnyH_done (by kernel_rfl) ?_ _
          go_wp2
          go_ret
          exact ⟨by rw [HZ.out]; exact ret_strB (by rw [HN.out, HM.out]; exact cnt_join _ _), by rw [HZ.out]; exact (HGA.out.to B).inl, grown_of_below B _⟩
        have ht5 : ¬ s.toList = [99, 111, 117, 110, 116] := fun e => of_decide_eq_false HB5.out (HT2.out.2.1 e)
        have ht4b : (s.toList == [116, 97, 98, 108, 101]) = false := beq_eq_false_iff_ne.2 ht4
        have ht5b : (s.toList == [99, 111, 117, 110, 116]) = false := beq_eq_false_iff_ne.2 ht5
        have HZ : Hid (lineL g s.data.toList = (whatL, g)) := Lib.hid (by rw [HLN.out]; rfl)
        go_wp2
        go_ret
        exact ⟨by rw [HZ.out]; rfl, by rw [HZ.out]; exact (HGA.out.to B).inl, grown_of_below B _⟩
end Go.Proofs.YtjflfhjnbccpmaaGreatDoor
namespace Go.Proofs.YtjflfhjnbccpmaaGreatDoor
open Go.RowKit
set_option maxRecDepth 20000 in
set_option maxHeartbeats 6400000 in
theorem c_iLine (g : Gt) (gb : Nat) (P : Nat → Prop) (w0 w : World) (s : ByteArray) (hv : vGate g = true) (hG : GA w gb 44 P g) (hE : EnvP w0) (hB : Below w0.heap.size w0 w) (hgb : w0.heap.size ≤ gb) (hs : s.size ≤ 4000000000) :
    Calls Tryz.prog 21 #[.pointer (some ⟨gb, 0, none⟩), .string s] w fun e w' => e = .returned (.string ⟨(lineL g s.data.toList).1.toArray⟩) ∧ GA w' gb 44 (fun k => P k ∨ w.heap.size ≤ k) (lineL g s.data.toList).2 ∧ w.grownBy w' (some gb) := by
  have HGA := Lib.hid hG
  obtain ⟨A, n, c, C, m, d, k0, hn, hc, h, hm, hd, h', ap1, ap2⟩ := hG
  have HN := Lib.hid hn
  have HM := Lib.hid hm
  have HA : Hid (∀ W, Below w.heap.size w W → TM W A g.tb) := fun W b => h.to b
  have HC : Hid (∀ W, Below w.heap.size w W → TK W C g.cs) := fun W b => h'.to b
  have HV := Lib.hid hv
  have hn8 : n ≤ 8 := hn ▸ tab_len (gate_tab hv)
  have hm10 : m ≤ 10 := hm ▸ con_len (gate_con hv)
  have HE : Hid (∀ W, Below w0.heap.size w0 W → EnvP W) := fun W b => hE.to b
  have HE0 := Lib.hid hE
  have hgl := k0.lt
  have B : Below w.heap.size w w := Below.refl _ _
  have B0 := hB
  clear hn hm h h' hv ap1 ap2 hB hE
  go_enter Tryz.func21, Tryz.ntmps21
  go_wp2_with fail
  refine (c_Split s _ hs (HE.out _ B0)).mono ?_
  rintro e w1 ⟨A0, q, xs, rfl, HCT⟩
  have hq := HCT.below
  replace k0 := k0.to hq
  replace B := Bl.then B hq
  replace B0 := Bl.then B0 hq
  obtain ⟨x0, hx0, hw0, hz0⟩ := HCT.word HCT.pos
  have hRW := HCT.rd
  have hFW := HCT.fr
  have hqp := HCT.pos
  have HNUM := Lib.hid HCT.num
  have HWD : Hid (∀ k, k < q → ∃ x, xs[k]? = some x ∧ wn (spl s.data.toList 32) k = x.data.toList ∧ x.size ≤ s.size) := fun k hk => HCT.word hk
  clear HCT hq
  obtain ⟨b, off, rfl, hbl, -⟩ := hRW 0 (.string x0) (by rw [List.getElem?_map, hx0]; rfl)
  have hbne : some b ≠ some gb := fun e => by injection e with e; have := hFW _ rfl; simp at this; omega
  have c0 : w1.cell? ⟨b, off, none⟩ = some (.string x0) := by have := wcell hRW hx0; simpa using this
  obtain ⟨b1, hb1⟩ : ∃ b, (decide (wn (spl s.data.toList 32) 0 = sendW) && decide (q = 3)) = b := ⟨_, rfl⟩
  obtain ⟨b2, hb2⟩ : ∃ b, (decide (wn (spl s.data.toList 32) 0 = waitW) && decide (q = 2)) = b := ⟨_, rfl⟩
  obtain ⟨b3, hb3⟩ : ∃ b, (decide (wn (spl s.data.toList 32) 0 = filterW) && decide (q = 2)) = b := ⟨_, rfl⟩
  obtain ⟨b4, hb4⟩ : ∃ b, decide (s.data.toList = tableW) = b := ⟨_, rfl⟩
  obtain ⟨b5, hb5⟩ : ∃ b, decide (s.data.toList = countW) = b := ⟨_, rfl⟩
  have HLN : Hid (lineL g s.data.toList = if b1 then sendL g (wn (spl s.data.toList 32) 1) (wn (spl s.data.toList 32) 2) else if b2 then waitL g (numV (wn (spl s.data.toList 32) 1)) else if b3 then filterL g (numV (wn (spl s.data.toList 32) 1)) else if b4 then ((tabT g.tb).data.toList, g) else if b5 then (dl g.tb.length ++ 32 :: dl g.cs.length, g) else (whatL, g)) := Lib.hid (by rw [lineL_if g s.data.toList rfl rfl rfl HNUM.out hb4 hb5, hb1, hb2, hb3])
  have hQ3 : ((q : Int) == 3) = decide (q = 3) := by rw [Bool.eq_iff_iff, beq_iff_eq, decide_eq_true_eq]; omega
  have hQ2 : ((q : Int) == 2) = decide (q = 2) := by rw [Bool.eq_iff_iff, beq_iff_eq, decide_eq_true_eq]; omega
  have e2 : (0 : Int) < (q : Int) := by omega
  have HT : Hid ((x0.toList = [115, 101, 110, 100] ↔ wn (spl s.data.toList 32) 0 = sendW) ∧ (x0.toList = [119, 97, 105, 116] ↔ wn (spl s.data.toList 32) 0 = waitW) ∧ (x0.toList = [102, 105, 108, 116, 101, 114] ↔ wn (spl s.data.toList 32) 0 = filterW)) := Lib.hid ⟨same_word hw0, same_word hw0, same_word hw0⟩
  have HT2 : Hid ((s.toList = [116, 97, 98, 108, 101] ↔ s.data.toList = tableW) ∧ (s.toList = [99, 111, 117, 110, 116] ↔ s.data.toList = countW)) := Lib.hid ⟨same_word rfl, same_word rfl⟩
  have HB := Lib.hid (And.intro hb1 (And.intro hb2 hb3))
  have HB4 := Lib.hid hb4
  have HB5 := Lib.hid hb5
  have HQ := Lib.hid (And.intro hQ3 hQ2)
  clear hb1 hb2 hb3 hb4 hb5 hQ3 hQ2 hw0 hx0
  have HC0 := Lib.hid c0
  go_upto_if 13 with fail
  go_cut [6] (fun s6 wx => ∃ z, s6 = .int .i64 z ∧ Hid ((q = 2 → z = numV (wn (spl s.data.toList 32) 1)) ∧ Blk wx gb 44 #[.int .i64 g.ba, .int .i64 g.bi, .int .i64 g.ou, .slice A n c, .slice C m d, .int .i64 g.fi, .int .i64 g.ho, .int .i64 g.no] ∧ Below w.heap.size w wx ∧ Below w0.heap.size w0 wx ∧ Rd wx (some ⟨b, off, none⟩) (xs.map Value.string) ∧ b < wx.heap.size ∧ wx.cell? ⟨b, off, none⟩ = some (.string x0)))
  case first =>
    by_cases hq2 : q = 2
    · skip
      have t2 : ((q : Int) == 2) = true := beq_iff_eq.2 (by omega)
      have e3 : (1 : Int) < (q : Int) := by omega
      obtain ⟨x1, hx1, hw1, hz1⟩ := HWD.out 1 (by omega)
      have c1 := wcell hRW hx1
      clear hq2 hx1
      go_wp2_with fail
      refine (c_number x1 _ (by omega) (HE.out _ B0)).mono ?_
      rintro e w2 ⟨nn, rfl, hnn, -, -, hq⟩
      have hnb := numV_bd x1.data.toList
      replace k0 := k0.to hq
      replace B := Bl.then B hq
      replace B0 := Bl.then B0 hq
      replace hRW := Rd.to hRW hq
      have hc0 : w2.cell? ⟨b, off, none⟩ = some (.string x0) := (hq.cell (p := ⟨b, off, none⟩) hbl).trans HC0.out
      have hbl2 : b < w2.heap.size := Nat.lt_of_lt_of_le hbl hq.size
      clear hq c0 c1 hbl
      cases hbo : decide (0 ≤ numV x1.data.toList)
      · have hneg : numV x1.data.toList = -1 := by have := of_decide_eq_false hbo; omega
        have HF := Lib.hid (show (-1 : Int) = numV (wn (spl s.data.toList 32) 1) by rw [hw1, hneg])
        clear hbo hneg hnn hnb hw1
        go_wp2_with fail
        go_meet
        exact ⟨-1, rfl, fun _ => HF.out, k0, B, B0, hRW, hbl2, hc0⟩
      · have hnn' := hnn (of_decide_eq_true hbo)
        have HF := Lib.hid (show nn = numV (wn (spl s.data.toList 32) 1) by rw [hw1, hnn'])
        clear hbo hnn hnn' hnb hw1
        go_wp2_with fail
        go_meet
        exact ⟨nn, rfl, fun _ => HF.out, k0, B, B0, hRW, hbl2, hc0⟩
    · have t2 : ((q : Int) == 2) = false := beq_eq_false_iff_ne.2 (by omega)
      go_wp2_with fail
      go_meet
      exact ⟨-1, rfl, fun h => absurd h hq2, k0, B, B0, hRW, hbl, c0⟩
  case rest =>
    clear k0 B B0 hRW c0 hbl
    obtain ⟨z, rfl, HH⟩ := hcut
    obtain ⟨hzv0, k0, B, B0, hRW, hbl, c0⟩ := HH.out
    have HZV := Lib.hid hzv0
    clear HH hzv0
    go_upto_region 7 with fail
    go_cut [23] (fun s wx => s = .bool b1 ∧ wx = wc)
    case first =>
      have tq := HQ.out.1
      have hb := HB.out.1
      cases hd : decide (wn (spl s.data.toList 32) 0 = sendW)
      · have ts : ¬ x0.toList = [115, 101, 110, 100] := fun e => of_decide_eq_false hd (HT.out.1.1 e)
        rw [hd] at hb
        subst hb
        clear hd tq
        go_wp2_with fail
        go_meet
        exact ⟨rfl, rfl⟩
      · have ts : x0.toList = [115, 101, 110, 100] := HT.out.1.2 (of_decide_eq_true hd)
        rw [hd] at hb
        clear hd
        cases hd2 : decide (q = 3)
        · rw [hd2] at tq hb
          subst hb
          clear hd2
          go_wp2_with fail
          go_meet
          exact ⟨rfl, rfl⟩
        · rw [hd2] at tq hb
          subst hb
          clear hd2
          go_wp2_with fail
          go_meet
          exact ⟨rfl, rfl⟩
    case rest =>
      obtain ⟨rfl, hwc⟩ := hcut
      subst hwc
      cases b1
      rotate_left
      · have hq3 : q = 3 := by have := HB.out.1; rw [Bool.and_eq_true, decide_eq_true_eq, decide_eq_true_eq] at this; exact this.2
        subst hq3
        obtain ⟨x1, hx1, hw1, hz1⟩ := HWD.out 1 (by omega)
        obtain ⟨x2, hx2, hw2, hz2⟩ := HWD.out 2 (by omega)
        have HZ : Hid (lineL g s.data.toList = sendL g x1.data.toList x2.data.toList) := Lib.hid (by rw [HLN.out, if_pos rfl, ← hw1, ← hw2])
        go_upto_region 8 with fail
        have hq : Below wc.heap.size wc wc.drew := Bl.of_drewN wc 1
        have c1 : wc.drew.cell? ⟨b, off + 1, none⟩ = some (.string x1) := wcell hRW hx1
        have c2 : wc.drew.cell? ⟨b, off + 2, none⟩ = some (.string x2) := wcell hRW hx2
        replace B : Below w.heap.size w wc.drew := Bl.then B hq
        replace B0 : Below w0.heap.size w0 wc.drew := Bl.then B0 hq
        replace hbl : b < wc.drew.heap.size := hbl
        clear hx1 hx2 hw1 hw2 hq c0 k0 hRW
        go_wp2_with fail
        refine wp_region_held_drew (S := (fun w' => w'.cell? ⟨b, off + 1, none⟩ = some (.string x1) ∧ w'.cell? ⟨b, off + 2, none⟩ = some (.string x2))) (by kernel_rfl) ?_ (fun hHeld => ?_)
        · (try dsimp only); exact ⟨c1, c2⟩
        refine wpAnyH_take (i := 0) (v := ?_) (arr_at rfl) (by kernel_rfl) (by kernel_rfl) (by kernel_rfl) (fun _ _ _ h => h) ?_ (by assumption) ?_
        rotate_left
        · first | (refine Or.inr ⟨by rfl, ?_⟩; with_reducible rfl) | (refine Or.inl ⟨by rfl, ?_⟩; intro w hSw; (try dsimp only at hSw); go_simp; first | done | with_reducible rfl)
        try simp only [Act.put, List.setIfInBounds_toArray, List.set_cons_zero, List.set_cons_succ]
        refine wpAnyH_take (i := 1) (v := ?_) (arr_at rfl) (by kernel_rfl) (by kernel_rfl) (by kernel_rfl) (fun _ _ _ h => h) ?_ (by assumption) ?_
        rotate_left
        · first | (refine Or.inr ⟨by rfl, ?_⟩; with_reducible rfl) | (refine Or.inl ⟨by rfl, ?_⟩; intro w hSw; (try dsimp only at hSw); go_simp; first | done | with_reducible rfl)
        try simp only [Act.put, List.setIfInBounds_toArray, List.set_cons_zero, List.set_cons_succ]
        refine wpAnyH_take (i := 2) (v := ?_) (arr_at rfl) (by kernel_rfl) (by kernel_rfl) (by kernel_rfl) (fun _ _ _ h => h) ?_ (by assumption) ?_
        rotate_left
        · first | (refine Or.inr ⟨by rfl, ?_⟩; with_reducible rfl) | (refine Or.inl ⟨by rfl, ?_⟩; intro w hSw; (try dsimp only at hSw); go_simp; first | done | with_reducible rfl)
        try simp only [Act.put, List.setIfInBounds_toArray, List.set_cons_zero, List.set_cons_succ]
        refine wpAnyH_take (i := 3) (v := ?_) (arr_at rfl) (by kernel_rfl) (by kernel_rfl) (by kernel_rfl) (fun _ _ _ h => h) ?_ (by assumption) ?_
        rotate_left
        · first | (refine Or.inr ⟨by rfl, ?_⟩; with_reducible rfl) | (refine Or.inl ⟨by rfl, ?_⟩; intro w hSw; (try dsimp only at hSw); go_simp; first | done | with_reducible rfl)
        try simp only [Act.put, List.setIfInBounds_toArray, List.set_cons_zero, List.set_cons_succ]
        refine wpAnyH_take (i := 4) (v := ?_) (arr_at rfl) (by kernel_rfl) (by kernel_rfl) (by kernel_rfl) (fun _ _ _ h => h) ?_ (by assumption) ?_
        rotate_left
        · first | (refine Or.inr ⟨by rfl, ?_⟩; with_reducible rfl) | (refine Or.inl ⟨by rfl, ?_⟩; intro w hSw; (try dsimp only at hSw); go_simp; first | done | with_reducible rfl)
        try simp only [Act.put, List.setIfInBounds_toArray, List.set_cons_zero, List.set_cons_succ]
        refine wpAnyH_take (i := 5) (v := ?_) (arr_at rfl) (by kernel_rfl) (by kernel_rfl) (by kernel_rfl) (fun _ _ _ h => h) ?_ (by assumption) ?_
        rotate_left
        · first | (refine Or.inr ⟨by rfl, ?_⟩; with_reducible rfl) | (refine Or.inl ⟨by rfl, ?_⟩; intro w hSw; (try dsimp only at hSw); go_simp; first | done | with_reducible rfl)
        try simp only [Act.put, List.setIfInBounds_toArray, List.set_cons_zero, List.set_cons_succ]
        refine wpAnyH_take (i := 6) (v := ?_) (arr_at rfl) (by kernel_rfl) (by kernel_rfl) (by kernel_rfl) (fun _ _ _ h => h) ?_ (by assumption) ?_
        rotate_left
        · first | (refine Or.inr ⟨by rfl, ?_⟩; with_reducible rfl) | (refine Or.inl ⟨by rfl, ?_⟩; intro w hSw; (try dsimp only at hSw); go_simp; first | done | with_reducible rfl)
        try simp only [Act.put, List.setIfInBounds_toArray, List.set_cons_zero, List.set_cons_succ]
        refine wpAnyH_ready (rs := [7]) (by kernel_rfl) (by simp) ?_
        refine AllReadyH.cons (arr_at rfl) (fun K hK => ?_) AllReadyH.nil
        go_simp
        have HGN : GA _ gb 44 P g := HGA.out.to B; go_at_call 27; refine (c_iSendWords g gb P w0 _ x1 x2 HV.out HGN HE0.out B0 hgb (by omega) (by omega)).mono ?_; rintro e wE ⟨rfl, hGA, hgr⟩; replace c1 := cell_grown c1 hgr hbl hbne; replace c2 := cell_grown c2 hgr hbl hbne
        refine hK.out _ _ ?_ (fun hHeld => ?_)
        · (try dsimp only); exact ⟨c1, c2⟩
        clear hK K
        try simp only [Act.put, List.setIfInBounds_toArray, List.set_cons_zero, List.set_cons_succ]
        refine wpAnyH_take (i := 8) (v := ?_) (arr_at rfl) (by kernel_rfl) (by kernel_rfl) (by kernel_rfl) (fun _ _ _ h => h) ?_ (by assumption) ?_
        rotate_left
        · first | (refine Or.inr ⟨by rfl, ?_⟩; with_reducible rfl) | (refine Or.inl ⟨by rfl, ?_⟩; intro w hSw; (try dsimp only at hSw); go_simp; first | done | with_reducible rfl)
        try simp only [Act.put, List.setIfInBounds_toArray, List.set_cons_zero, List.set_cons_succ]
        refine wpAnyH_done (by kernel_rfl) ?_ _
        go_wp2
        go_ret
        exact ⟨by rw [HZ.out]; rfl, by rw [HZ.out]; exact hGA.mono (fun k hk => hk.imp id (Nat.le_trans B.size)), grown_trans (grown_of_below B _) hgr⟩
      go_upto_region 9 with fail
      go_cut [41] (fun s wx => s = .bool b2 ∧ wx = wc)
      case first =>
        have tq := HQ.out.2
        have hb := HB.out.2.1
        cases hd : decide (wn (spl s.data.toList 32) 0 = waitW)
        · have ts : ¬ x0.toList = [119, 97, 105, 116] := fun e => of_decide_eq_false hd (HT.out.2.1.1 e)
          rw [hd] at hb
          subst hb
          clear hd tq
          go_wp2_with fail
          go_meet
          exact ⟨rfl, rfl⟩
        · have ts : x0.toList = [119, 97, 105, 116] := HT.out.2.1.2 (of_decide_eq_true hd)
          rw [hd] at hb
          clear hd
          cases hd2 : decide (q = 2)
          · rw [hd2] at tq hb
            subst hb
            clear hd2
            go_wp2_with fail
            go_meet
            exact ⟨rfl, rfl⟩
          · rw [hd2] at tq hb
            subst hb
            clear hd2
            go_wp2_with fail
            go_meet
            exact ⟨rfl, rfl⟩
      case rest =>
        obtain ⟨rfl, hwc⟩ := hcut
        subst hwc
        cases b2
        rotate_left
        · have hq2 : q = 2 := by have := HB.out.2.1; rw [Bool.and_eq_true, decide_eq_true_eq, decide_eq_true_eq] at this; exact this.2
          subst hq2
          obtain ⟨x1, hx1, hw1, hz1⟩ := HWD.out 1 (by omega)
          have HGN : GA wc gb 44 P g := HGA.out.to B
          have hzv := HZV.out rfl
          have HZ : Hid (lineL g s.data.toList = waitL g z) := Lib.hid (by rw [HLN.out, hzv]; simp)
          have hzb := numV_bd (wn (spl s.data.toList 32) 1)
          rw [← hzv] at hzb
          clear hzv
          clear hx1 hw1 hRW k0
          go_wp2_with fail
          refine (c_iWait g gb P _ z HV.out HGN (by omega) (by omega)).mono ?_
          rintro e wE ⟨rfl, hGA, hgr⟩
          go_wp2
          go_ret
          exact ⟨by rw [HZ.out]; rfl, by rw [HZ.out]; exact hGA.mono (fun k hk => hk.imp id (Nat.le_trans B.size)), grown_trans (grown_of_below B _) hgr⟩
        go_upto_region 11 with fail
        go_cut [54] (fun s wx => s = .bool b3 ∧ wx = wc)
        case first =>
          have tq := HQ.out.2
          have hb := HB.out.2.2
          cases hd : decide (wn (spl s.data.toList 32) 0 = filterW)
          · have ts : ¬ x0.toList = [102, 105, 108, 116, 101, 114] := fun e => of_decide_eq_false hd (HT.out.2.2.1 e)
            rw [hd] at hb
            subst hb
            clear hd tq
            go_wp2_with fail
            go_meet
            exact ⟨rfl, rfl⟩
          · have ts : x0.toList = [102, 105, 108, 116, 101, 114] := HT.out.2.2.2 (of_decide_eq_true hd)
            rw [hd] at hb
            clear hd
            cases hd2 : decide (q = 2)
            · rw [hd2] at tq hb
              subst hb
              clear hd2
              go_wp2_with fail
              go_meet
              exact ⟨rfl, rfl⟩
            · rw [hd2] at tq hb
              subst hb
              clear hd2
              go_wp2_with fail
              go_meet
              exact ⟨rfl, rfl⟩
        case rest =>
          obtain ⟨rfl, hwc⟩ := hcut
          subst hwc
          cases b3
          rotate_left
          · have hq2 : q = 2 := by have := HB.out.2.2; rw [Bool.and_eq_true, decide_eq_true_eq, decide_eq_true_eq] at this; exact this.2
            subst hq2
            obtain ⟨x1, hx1, hw1, hz1⟩ := HWD.out 1 (by omega)
            have HGN : GA wc gb 44 P g := HGA.out.to B
            have hzv := HZV.out rfl
            have HZ : Hid (lineL g s.data.toList = filterL g z) := Lib.hid (by rw [HLN.out, hzv]; simp)
            have hzb := numV_bd (wn (spl s.data.toList 32) 1)
            rw [← hzv] at hzb
            clear hzv
            clear hx1 hw1 hRW k0
            go_wp2_with fail
            refine (c_iFilter g gb P _ z HV.out HGN).mono ?_
            rintro e wE ⟨rfl, hGA, hgr⟩
            go_wp2
            go_ret
            exact ⟨by rw [HZ.out]; rfl, by rw [HZ.out]; exact hGA.mono (fun k hk => hk.imp id (Nat.le_trans B.size)), grown_trans (grown_of_below B _) hgr⟩
          cases b4
          rotate_left
          · have ht4 : s.toList = [116, 97, 98, 108, 101] := HT2.out.1.2 (of_decide_eq_true HB4.out)
            have HZ : Hid (lineL g s.data.toList = ((tabT g.tb).data.toList, g)) := Lib.hid (by rw [HLN.out]; rfl)
            have y3 := k0.cell 3
            have l1 := k0.lt
            simp only [List.getElem?_toArray, List.getElem?_cons_zero, List.getElem?_cons_succ] at y3
            go_wp2_with fail
            refine (c_iFormatTable A n c g.tb _ HN.out hc (HA.out _ B) (by omega) (HE.out _ B0).tab).mono ?_
            rintro e w9 ⟨rfl, hq⟩
            replace B := Bl.then B hq
            go_wp2
            go_ret
            exact ⟨by rw [HZ.out]; rfl, by rw [HZ.out]; exact (HGA.out.to B).inl, grown_of_below B _⟩
          have ht4 : ¬ s.toList = [116, 97, 98, 108, 101] := fun e => of_decide_eq_false HB4.out (HT2.out.1.1 e)
          cases b5
          rotate_left
          · have ht5 : s.toList = [99, 111, 117, 110, 116] := HT2.out.2.2 (of_decide_eq_true HB5.out)
            have HZ : Hid (lineL g s.data.toList = (dl g.tb.length ++ 32 :: dl g.cs.length, g)) := Lib.hid (by rw [HLN.out]; rfl)
            have hz1 := dec_size (n : Int)
            have hz2 := dec_size (m : Int)
            have hs1 : ¬ (9223372036854775807 < (dec (n : Int)).size + 1) := by omega
            have hs2 : ¬ (9223372036854775807 < (dec (n : Int)).size + 1 + (dec (m : Int)).size) := by omega
            go_upto_region 16 with fail
            have hq : Below wc.heap.size wc wc.drew := Bl.of_drewN wc 1
            replace k0 := k0.to hq
            replace B := Bl.then B hq
            replace B0 := Bl.then B0 hq
            clear c0 hbl hRW hq
            go_wp2_with fail
            refine wp_region_held_drew (S := (fun w' => w'.cell? ⟨gb, 3, none⟩ = some (.slice A n c) ∧ w'.cell? ⟨gb, 4, none⟩ = some (.slice C m d))) (by kernel_rfl) ?_ (fun hHeld => ?_)
            · (try dsimp only); exact ⟨k0.cell 3, k0.cell 4⟩
            refine wpAnyH_take (i := 0) (v := ?_) (arr_at rfl) (by kernel_rfl) (by kernel_rfl) (by kernel_rfl) (fun _ _ _ h => h) ?_ (by assumption) ?_
            rotate_left
            · first | (refine Or.inr ⟨by rfl, ?_⟩; with_reducible rfl) | (refine Or.inl ⟨by rfl, ?_⟩; intro w hSw; (try dsimp only at hSw); go_simp; first | done | with_reducible rfl)
            try simp only [Act.put, List.setIfInBounds_toArray, List.set_cons_zero, List.set_cons_succ]
            refine wpAnyH_take (i := 1) (v := ?_) (arr_at rfl) (by kernel_rfl) (by kernel_rfl) (by kernel_rfl) (fun _ _ _ h => h) ?_ (by assumption) ?_
            rotate_left
            · first | (refine Or.inr ⟨by rfl, ?_⟩; with_reducible rfl) | (refine Or.inl ⟨by rfl, ?_⟩; intro w hSw; (try dsimp only at hSw); go_simp; first | done | with_reducible rfl)
            try simp only [Act.put, List.setIfInBounds_toArray, List.set_cons_zero, List.set_cons_succ]
            refine wpAnyH_take (i := 2) (v := ?_) (arr_at rfl) (by kernel_rfl) (by kernel_rfl) (by kernel_rfl) (fun _ _ _ h => h) ?_ (by assumption) ?_
            rotate_left
            · first | (refine Or.inr ⟨by rfl, ?_⟩; with_reducible rfl) | (refine Or.inl ⟨by rfl, ?_⟩; intro w hSw; (try dsimp only at hSw); go_simp; first | done | with_reducible rfl)
            try simp only [Act.put, List.setIfInBounds_toArray, List.set_cons_zero, List.set_cons_succ]
            refine wpAnyH_take (i := 3) (v := ?_) (arr_at rfl) (by kernel_rfl) (by kernel_rfl) (by kernel_rfl) (fun _ _ _ h => h) ?_ (by assumption) ?_
            rotate_left
            · first | (refine Or.inr ⟨by rfl, ?_⟩; with_reducible rfl) | (refine Or.inl ⟨by rfl, ?_⟩; intro w hSw; (try dsimp only at hSw); go_simp; first | done | with_reducible rfl)
            try simp only [Act.put, List.setIfInBounds_toArray, List.set_cons_zero, List.set_cons_succ]
            refine wpAnyH_take (i := 4) (v := ?_) (arr_at rfl) (by kernel_rfl) (by kernel_rfl) (by kernel_rfl) (fun _ _ _ h => h) ?_ (by assumption) ?_
            rotate_left
            · first | (refine Or.inr ⟨by rfl, ?_⟩; with_reducible rfl) | (refine Or.inl ⟨by rfl, ?_⟩; intro w hSw; (try dsimp only at hSw); go_simp; first | done | with_reducible rfl)
            try simp only [Act.put, List.setIfInBounds_toArray, List.set_cons_zero, List.set_cons_succ]
            refine wpAnyH_take (i := 7) (v := ?_) (arr_at rfl) (by kernel_rfl) (by kernel_rfl) (by kernel_rfl) (fun _ _ _ h => h) ?_ (by assumption) ?_
            rotate_left
            · first | (refine Or.inr ⟨by rfl, ?_⟩; with_reducible rfl) | (refine Or.inl ⟨by rfl, ?_⟩; intro w hSw; (try dsimp only at hSw); go_simp; first | done | with_reducible rfl)
            try simp only [Act.put, List.setIfInBounds_toArray, List.set_cons_zero, List.set_cons_succ]
            refine wpAnyH_take (i := 8) (v := ?_) (arr_at rfl) (by kernel_rfl) (by kernel_rfl) (by kernel_rfl) (fun _ _ _ h => h) ?_ (by assumption) ?_
            rotate_left
            · first | (refine Or.inr ⟨by rfl, ?_⟩; with_reducible rfl) | (refine Or.inl ⟨by rfl, ?_⟩; intro w hSw; (try dsimp only at hSw); go_simp; first | done | with_reducible rfl)
            try simp only [Act.put, List.setIfInBounds_toArray, List.set_cons_zero, List.set_cons_succ]
            refine wpAnyH_take (i := 9) (v := ?_) (arr_at rfl) (by kernel_rfl) (by kernel_rfl) (by kernel_rfl) (fun _ _ _ h => h) ?_ (by assumption) ?_
            rotate_left
            · first | (refine Or.inr ⟨by rfl, ?_⟩; with_reducible rfl) | (refine Or.inl ⟨by rfl, ?_⟩; intro w hSw; (try dsimp only at hSw); go_simp; first | done | with_reducible rfl)
            try simp only [Act.put, List.setIfInBounds_toArray, List.set_cons_zero, List.set_cons_succ]
            refine wpAnyH_take (i := 10) (v := ?_) (arr_at rfl) (by kernel_rfl) (by kernel_rfl) (by kernel_rfl) (fun _ _ _ h => h) ?_ (by assumption) ?_
            rotate_left
            · first | (refine Or.inr ⟨by rfl, ?_⟩; with_reducible rfl) | (refine Or.inl ⟨by rfl, ?_⟩; intro w hSw; (try dsimp only at hSw); go_simp; first | done | with_reducible rfl)
            try simp only [Act.put, List.setIfInBounds_toArray, List.set_cons_zero, List.set_cons_succ]
            refine wpAnyH_take (i := 11) (v := ?_) (arr_at rfl) (by kernel_rfl) (by kernel_rfl) (by kernel_rfl) (fun _ _ _ h => h) ?_ (by assumption) ?_
            rotate_left
            · first | (refine Or.inr ⟨by rfl, ?_⟩; with_reducible rfl) | (refine Or.inl ⟨by rfl, ?_⟩; intro w hSw; (try dsimp only at hSw); go_simp; first | done | with_reducible rfl)
            try simp only [Act.put, List.setIfInBounds_toArray, List.set_cons_zero, List.set_cons_succ]
            refine wpAnyH_ready (rs := [5]) (by kernel_rfl) (by simp) ?_
            refine AllReadyH.cons (arr_at rfl) (fun K hK => ?_) AllReadyH.nil
            go_simp
            go_at_call 31; refine (c_Itoa _ _ (by omega) (by omega) (HE.out _ B0).tab).mono ?_; rintro e wA ⟨rfl, hq⟩; replace k0 := k0.to hq; replace B := Bl.then B hq; replace B0 := Bl.then B0 hq; clear hq
            refine hK.out _ _ ?_ (fun hHeld => ?_)
            · (try dsimp only); exact ⟨k0.cell 3, k0.cell 4⟩
            clear hK K
            try simp only [Act.put, List.setIfInBounds_toArray, List.set_cons_zero, List.set_cons_succ]
            refine wpAnyH_take (i := 6) (v := ?_) (arr_at rfl) (by kernel_rfl) (by kernel_rfl) (by kernel_rfl) (fun _ _ _ h => h) ?_ (by assumption) ?_
            rotate_left
            · first | (refine Or.inr ⟨by rfl, ?_⟩; with_reducible rfl) | (refine Or.inl ⟨by rfl, ?_⟩; intro w hSw; (try dsimp only at hSw); go_simp; first | done | with_reducible rfl)
            try simp only [Act.put, List.setIfInBounds_toArray, List.set_cons_zero, List.set_cons_succ]
            refine wpAnyH_ready (rs := [12]) (by kernel_rfl) (by simp) ?_
            refine AllReadyH.cons (arr_at rfl) (fun K hK => ?_) AllReadyH.nil
            go_simp
            go_at_call 31; refine (c_Itoa _ _ (by omega) (by omega) (HE.out _ B0).tab).mono ?_; rintro e wB ⟨rfl, hq⟩; replace k0 := k0.to hq; replace B := Bl.then B hq; replace B0 := Bl.then B0 hq; clear hq
            refine hK.out _ _ ?_ (fun hHeld => ?_)
            · (try dsimp only); exact ⟨k0.cell 3, k0.cell 4⟩
            clear hK K
            try simp only [Act.put, List.setIfInBounds_toArray, List.set_cons_zero, List.set_cons_succ]
            refine wpAnyH_take (i := 13) (v := ?_) (arr_at rfl) (by kernel_rfl) (by kernel_rfl) (by kernel_rfl) (fun _ _ _ h => h) ?_ (by assumption) ?_
            rotate_left
            · first | (refine Or.inr ⟨by rfl, ?_⟩; with_reducible rfl) | (refine Or.inl ⟨by rfl, ?_⟩; intro w hSw; (try dsimp only at hSw); go_simp; first | done | with_reducible rfl)
            try simp only [Act.put, List.setIfInBounds_toArray, List.set_cons_zero, List.set_cons_succ]
            refine wpAnyH_take (i := 14) (v := ?_) (arr_at rfl) (by kernel_rfl) (by kernel_rfl) (by kernel_rfl) (fun _ _ _ h => h) ?_ (by assumption) ?_
            rotate_left
            · first | (refine Or.inr ⟨by rfl, ?_⟩; with_reducible rfl) | (refine Or.inl ⟨by rfl, ?_⟩; intro w hSw; (try dsimp only at hSw); go_simp; first | done | with_reducible rfl)
            try simp only [Act.put, List.setIfInBounds_toArray, List.set_cons_zero, List.set_cons_succ]
            refine wpAnyH_done (by kernel_rfl) ?_ _
            go_wp2
            go_ret
            exact ⟨by rw [HZ.out]; exact ret_strB (by rw [HN.out, HM.out]; exact cnt_join _ _), by rw [HZ.out]; exact (HGA.out.to B).inl, grown_of_below B _⟩
          have ht5 : ¬ s.toList = [99, 111, 117, 110, 116] := fun e => of_decide_eq_false HB5.out (HT2.out.2.1 e)
          have ht4b : (s.toList == [116, 97, 98, 108, 101]) = false := beq_eq_false_iff_ne.2 ht4
          have ht5b : (s.toList == [99, 111, 117, 110, 116]) = false := beq_eq_false_iff_ne.2 ht5
          have HZ : Hid (lineL g s.data.toList = (whatL, g)) := Lib.hid (by rw [HLN.out]; rfl)
          go_wp2
          go_ret
          exact ⟨by rw [HZ.out]; rfl, by rw [HZ.out]; exact (HGA.out.to B).inl, grown_of_below B _⟩
end Go.Proofs.YtjflfhjnbccpmaaGreatDoor
namespace Go.Proofs.YtjflfhjnbccpmaaGreatDoor
section
open Go.ChangeShapes Go.WideShapes Go.ChangeAt Go.RowKit
variable {H : Type} {enc : TypeId × Value → H} {w : World} {base : Nat} {spare : Nat → Bool} {held : Bool}
/-- The cells behind A begin with the strings xs. -/
def RS (w : World) (A : Option Addr) (xs : List ByteArray) : Prop := Rd w A (xs.map Value.string)
theorem rd_strs {a : Addr} {ss : List ByteArray} {n : Nat} (hn : n ≤ ss.length) (h : ∀ i, i < ss.length → w.cell? (a.add i) = some (.string (ss.getD i ByteArray.empty))) : RS w (some a) (ss.take n) := fun i v hi => by
  have hil : i < n := by
    rcases Nat.lt_or_ge i n with h1 | h1
    · exact h1
    · rw [List.getElem?_eq_none (by simp; omega)] at hi; cases hi
  have hc := h i (by omega)
  have h00 := h 0 (by omega)
  have hv : v = .string (ss.getD i ByteArray.empty) := by
    rw [List.getElem?_map, List.getElem?_take, if_pos hil, List.getElem?_eq_getElem (by omega)] at hi
    simp at hi
    rw [← hi, List.getD_eq_getElem?_getD, List.getElem?_eq_getElem (by omega)]
    rfl
  rw [← hv] at hc
  exact (fun ⟨b, off, hx, hlt, hcc⟩ => ⟨b, off, by rw [hx], hlt, hcc⟩) (cell_of_add hc (spot_of_cell0 h00))
set_option maxRecDepth 20000 in
/-- A slice of strings that a law takes. -/
theorem open_strs {r : Reach} {b0 : Nat} {v : Value} {d : DataW H} {p : List MemPlace} (hv : Value.okWide Tryz.prog w r b0 23 v) (h : DataW.Trod enc Tryz.prog w base spare held 23 v d p) :
    ∃ A n c xs, v = .slice A n c ∧ xs.length = n ∧ n ≤ c ∧ c ≤ maxLen ∧ RS w A xs ∧ ∀ s ∈ xs, s.size ≤ maxLen := by
  obtain ⟨A, n, c, rfl⟩ := okWide_slice Tryz.underlying23 hv
  obtain ⟨fuel, hf⟩ := h
  rcases open_strings Tryz.underlying23 Tryz.underlying9 (by kernel_rfl) hf with ⟨hcs, _⟩ | ⟨a, len, cap, ss, hcs, _, hl, hm, hz, _, hcell, hsz⟩
  · simp [Value.cells] at hcs
    obtain ⟨rfl, rfl, rfl⟩ := hcs
    exact ⟨none, 0, 0, [], rfl, rfl, Nat.le_refl _, Nat.zero_le _, Rd.nil _ _, fun s hs => by cases hs⟩
  · simp [Value.cells] at hcs
    obtain ⟨rfl, rfl, rfl⟩ := hcs
    have hle : n ≤ ss.length := by rw [hz]; split <;> omega
    exact ⟨some a, n, c, ss.take n, rfl, by simp; omega, hl, hm, rd_strs hle hcell, fun s hs => hsz s (List.mem_of_mem_take hs)⟩
end
end Go.Proofs.YtjflfhjnbccpmaaGreatDoor
namespace Go.Proofs.YtjflfhjnbccpmaaGreatDoor
open Go.RowKit
theorem bytes_len (b : ByteArray) : b.data.toList.length = b.size := by simp
theorem tabT_size {l : List Mpg} (h : vTab l = true) : (tabT l).size ≤ 720000 := by
  rw [← accT_all l h]
  have := accT_size h l.length (Nat.le_refl _)
  have := tab_len h
  omega
theorem line_size {g : Gt} (hg : vGate g = true) (s : List UInt8) : (lineL g s).1.length ≤ 1000000 := by
  unfold lineL
  split
  · unfold sendL
    split
    · split
      · rename_i q g' _
        have h1 := fmtEnd_sz q.fa q.fp
        have h2 := fmtEnd_sz q.ta q.tp
        simp only [List.length_append, List.length_cons, bytes_len]
        omega
      · simp [noL]
    · simp [noL]
  split
  · unfold waitL
    split
    · simp [noL]
    · split
      · simp [okL]
      · simp [noL]
  split
  · unfold filterL
    split
    · simp [okL]
    · simp [noL]
  split
  · have := tabT_size (gate_tab hg)
    simp only [bytes_len]
    omega
  split
  · have h1 := dec_size (g.tb.length : Int)
    have h2 := dec_size (g.cs.length : Int)
    have h3 := tab_len (gate_tab hg)
    have h4 := con_len (gate_con hg)
    rw [← bytes_len, dec_list] at h1 h2
    simp only [List.length_append, List.length_cons]
    omega
  · simp [whatL]
/-- One line more. -/
theorem run_snoc (g : Gt) (l : List (List UInt8)) (s : List UInt8) : runL g (l ++ [s]) = ((runL g l).1 ++ ((lineL (runL g l).2 s).1 ++ [10]), (lineL (runL g l).2 s).2) := by
  rw [runL_app]
  simp [runL]
theorem take_snoc {α : Type} {l : List α} {k : Nat} {x : α} (h : l[k]? = some x) : l.take (k + 1) = l.take k ++ [x] := by
  rw [List.take_add_one, h]; rfl
theorem gate0_ga {w : World} {gb : Nat} {ty : TypeId} {P : Nat → Prop} {A C : Option Addr} (k : Blk w gb ty #[.int .i64 2560, .int .i64 8, .int .i64 51457, .slice A 0 0, .slice C 0 0, .int .i64 2, .int .i64 100, .int .i64 0]) : GA w gb ty P gate0 :=
  ⟨A, 0, 0, C, 0, 0, k, rfl, Nat.le_refl _, TM.nil _ _, rfl, Nat.le_refl _, TK.nil _ _, fun _ _ h => absurd rfl h, fun _ _ h => absurd rfl h⟩
theorem nl_join (o : ByteArray) (l : List UInt8) : o ++ (⟨l.toArray⟩ : ByteArray) ++ (⟨#[10]⟩ : ByteArray) = ⟨(o.data.toList ++ (l ++ [10])).toArray⟩ := by
  apply ByteArray.ext
  simp [ByteArray.data_append]
set_option maxRecDepth 20000 in
set_option maxHeartbeats 3200000 in
theorem c_sRun (A : Option Addr) (n c : Nat) (xs : List ByteArray) (w : World) (hn : xs.length = n) (h : RS w A xs) (hl : n ≤ 1099511627776) (hs : ∀ x ∈ xs, x.size ≤ 4000000000) :
    Calls Tryz.prog 10 #[.slice A n c] w fun e w' => e = .returned (.string ⟨(sesL (xs.map (·.data.toList))).toArray⟩) ∧ Below w.heap.size w w' := by
  have HN := Lib.hid hn
  have HA : Hid (∀ W, Below w.heap.size w W → Rd W A (xs.map Value.string)) := fun W b => Rd.to h b
  have HS := Lib.hid hs
  clear hn h hs
  have k0 : Blk (((w.alloc (.cells #[] 84)).alloc (.cells #[] 129)).alloc (.cells #[.int .i64 2560, .int .i64 8, .int .i64 51457, .slice (some ⟨w.heap.size, 0, none⟩) 0 0, .slice (some ⟨w.heap.size + 1, 0, none⟩) 0 0, .int .i64 2, .int .i64 100, .int .i64 0] 56)) (w.heap.size + 2) 56 #[.int .i64 2560, .int .i64 8, .int .i64 51457, .slice (some ⟨w.heap.size, 0, none⟩) 0 0, .slice (some ⟨w.heap.size + 1, 0, none⟩) 0 0, .int .i64 2, .int .i64 100, .int .i64 0] := (by
    have := Blk.new ((w.alloc (.cells #[] 84)).alloc (.cells #[] 129)) 56 #[.int .i64 2560, .int .i64 8, .int .i64 51457, .slice (some ⟨w.heap.size, 0, none⟩) 0 0, .slice (some ⟨w.heap.size + 1, 0, none⟩) 0 0, .int .i64 2, .int .i64 100, .int .i64 0]
    simp only [World.size_alloc] at this
    exact this)
  have hG : GA _ (w.heap.size + 2) 56 (fun _ => True) gate0 := gate0_ga k0
  have B : Below w.heap.size w (((w.alloc (.cells #[] 84)).alloc (.cells #[] 129)).alloc (.cells #[.int .i64 2560, .int .i64 8, .int .i64 51457, .slice (some ⟨w.heap.size, 0, none⟩) 0 0, .slice (some ⟨w.heap.size + 1, 0, none⟩) 0 0, .int .i64 2, .int .i64 100, .int .i64 0] 56)) := (((Below.refl _ _).alloc (Nat.le_refl _) _).alloc (by simp) _).alloc (by simp; omega) _
  clear k0
  go_enter Tryz.func10, Tryz.ntmps10
  go_wp2
  go_loopw [4, 5] (fun o i wr => ∃ (k : Nat) (ob : ByteArray) (g : Gt), k ≤ n ∧ k ≤ 20 ∧ i = .int .i64 k ∧ o = .string ob ∧ ob.size ≤ k * 1000001 ∧ Hid (runL gate0 ((xs.map (·.data.toList)).take k) = (ob.data.toList, g) ∧ vGate g = true ∧ GA wr (w.heap.size + 2) 56 (fun _ => True) g ∧ Below w.heap.size w wr)) (fun _ i _ => 21 - (intOf i).toNat)
  case atStart => exact ⟨0, ⟨#[]⟩, gate0, Nat.zero_le _, Nat.zero_le _, rfl, rfl, Nat.zero_le _, by simp [runL], gate0_valid, hG, B⟩
  case round =>
    clear hG B
    obtain ⟨k, ob, g, hk, hk2, rfl, rfl, hob, HH⟩ := hrel
    obtain ⟨hr, hv, hG, B⟩ := HH.out
    have HR := Lib.hid hr
    have HV := Lib.hid hv
    clear HH hr hv
    by_cases hlt : k < n
    · have e1 : (k : Int) < (n : Int) := by omega
      by_cases hlt2 : k < 20
      · have e2 : (k : Int) < 20 := by omega
        obtain ⟨x, hx, hsz⟩ : ∃ x, xs[k]? = some x ∧ x.size ≤ 4000000000 := by
          have hkx : k < xs.length := by rw [HN.out]; exact hlt
          exact ⟨xs[k], List.getElem?_eq_getElem hkx, HS.out _ (List.getElem_mem hkx)⟩
        obtain ⟨b, off, rfl, hbl, -⟩ := (HA.out _ B) k (.string x) (by rw [List.getElem?_map, hx]; rfl)
        have c0 := wcell (HA.out _ B) hx
        have e3 : (0 : Int) ≤ (k : Int) ∧ (k : Int) < n := by omega
        have HRN : Hid (runL gate0 ((xs.map (·.data.toList)).take (k + 1)) = (ob.data.toList ++ ((lineL g x.data.toList).1 ++ [10]), (lineL g x.data.toList).2)) := Lib.hid (by
          rw [take_snoc (x := x.data.toList) (by rw [List.getElem?_map, hx]; rfl), run_snoc, HR.out])
        have hls := line_size HV.out x.data.toList
        have HVN := Lib.hid (line_valid HV.out x.data.toList)
        clear hx HR
        go_wp2_with fail
        refine (c_sLine g (w.heap.size + 2) (fun _ => True) w _ x HV.out hG B (by omega) hsz).mono ?_
        rintro e w2 ⟨rfl, hGA, hgr⟩
        have B2 := grown_below hgr B (by omega)
        have hG2 : GA w2 (w.heap.size + 2) 56 (fun _ => True) (lineL g x.data.toList).2 := hGA.mono (fun _ _ => trivial)
        have HG2 := Lib.hid hG2
        clear hGA hgr hG hG2 c0
        obtain ⟨ll, hll⟩ : ∃ ll, (lineL g x.data.toList).1 = ll := ⟨_, rfl⟩
        rw [hll] at hls ⊢
        have HLL := Lib.hid hll
        clear hll
        have hzl : (⟨ll.toArray⟩ : ByteArray).size = ll.length := by simp [ByteArray.size]
        have hs1 : ¬ (9223372036854775807 < ob.size + (⟨ll.toArray⟩ : ByteArray).size) := by rw [hzl]; omega
        have hs2 : ¬ (9223372036854775807 < ob.size + (⟨ll.toArray⟩ : ByteArray).size + 1) := by rw [hzl]; omega
        have HSZ : Hid ((ob ++ (⟨ll.toArray⟩ : ByteArray) ++ (⟨#[10]⟩ : ByteArray)).size ≤ (k + 1) * 1000001) := Lib.hid (by
          rw [ByteArray.size_append, ByteArray.size_append, hzl]
          show _ + _ + 1 ≤ _
          omega)
        generalize hlb : (⟨ll.toArray⟩ : ByteArray) = lb at hs1 hs2 HSZ ⊢
        have HLB := Lib.hid hlb
        clear hlb hzl
        go_wp2
        go_roundw
        case rel =>
          refine ⟨k + 1, ob ++ lb ++ ⟨#[10]⟩, (lineL g x.data.toList).2, by omega, by omega, by go_num, rfl, HSZ.out, ?_, HVN.out, HG2.out, B2⟩
          rw [HRN.out, ← HLB.out, nl_join, HLL.out]
        case measure => simp [intOf]; omega
      · have e2 : ¬ ((k : Int) < 20) := by omega
        have hk20 : k = 20 := by omega
        subst hk20
        go_wp2
        go_ret
        exact ⟨ret_strB (by unfold sesL; rw [HR.out]), B⟩
    · have e1 : ¬ ((k : Int) < (n : Int)) := by omega
      have hkn : k = n := by omega
      have HE : Hid ((xs.map (·.data.toList)).take k = (xs.map (·.data.toList)).take 20) := Lib.hid (by
        rw [List.take_of_length_le (by rw [List.length_map, HN.out]; omega), List.take_of_length_le (by rw [List.length_map, HN.out]; omega)])
      go_wp2
      go_ret
      exact ⟨ret_strB (by unfold sesL; rw [← HE.out, HR.out]), B⟩
end Go.Proofs.YtjflfhjnbccpmaaGreatDoor
namespace Go.Proofs.YtjflfhjnbccpmaaGreatDoor
open Go.RowKit
/-- A text behind a row: the row grows where it lies, or lies anew. -/
theorem append_where {w : World} (base : Nat) (t u ty e : TypeId) (i : TypeInfo) (ht : Tryz.prog.underlying t = some (.slice e)) (hu : Tryz.prog.underlying u = some .string) (hi : Tryz.prog.info? e = some i) (hz : i.zero = some (.int .u8 0))
    (hsize : i.size = 1) (hby : i.bytes = 1) (v : Value) (n : Nat) (xs : List Value) (hown : w.ownsRowF base e 1 v n xs) (s : ByteArray)
    (h63 : n + s.size ≤ maxLen) (hbytes : n + s.size ≤ 140737488355328) (hbase : base ≤ w.heap.size) :
    ∃ v' w', (Builtin.append_ #[t, u] ty #[v, .string s]).run Tryz.prog w = .ok v' w' ∧ w'.ownsRowF base e 1 v' (n + s.size) (xs ++ Lib.strCells s) ∧ w.grownBy w' v.ownBlock ∧
      (v'.ownBlock = v.ownBlock ∨ ∀ k, v'.ownBlock = some k → w.heap.size ≤ k) := by
  obtain ⟨v', w', hr, h1, h2, -⟩ := Lib.run_append_own_stringF (P := Tryz.prog) w base t u ty e i ht hu hi hz hsize hby v n xs hown s h63 hbytes hbase
  refine ⟨v', w', hr, h1, h2, ?_⟩
  rcases hown.2 with ⟨rfl, rfl⟩ | ⟨g, cap, cur, fz, rfl, hbg, hg, hfz, hnc, hcm, hcs, htake⟩
  · obtain ⟨v2, w2, hr2, k1, -, -⟩ := Lib.run_append_own_stringF (P := Tryz.prog) w w.heap.size t u ty e i ht hu hi hz hsize hby (.slice none 0 0) 0 xs ⟨hown.1, .inl ⟨rfl, rfl⟩⟩ s h63 hbytes (Nat.le_refl _)
    rw [hr] at hr2
    injection hr2 with e1 e2
    subst e1 e2
    exact .inr fun k hk => (k1.lt k hk).1
  · have hxl : xs.length = n := by simpa using hown.1
    by_cases hroom : n + s.size ≤ cap
    · have hr2 := Lib.run_append_room_stringF (P := Tryz.prog) w t u ty e i ht hu hi hsize g n cap cur fz hg (by simpa using hfz) s hroom (by rw [show cur.size = cap by simpa using hcs]; exact hroom)
      rw [hr] at hr2
      injection hr2 with e1 e2
      rw [e1]
      exact .inl rfl
    · have holds : ∀ j u, xs[j]? = some u → w.cell? ((⟨g, 0, none⟩ : Addr).add j) = some u := hown.cells (g := g) rfl
      have hr2 := Lib.run_append_grow_string (P := Tryz.prog) w t u ty e i (.int .u8 0) ht hu hi hz ⟨g, 0, none⟩ n cap xs (by rw [hsize]; simpa using hxl) holds s (by omega) (by unfold maxLen at h63; omega) (by rw [hby]; exact growslice_fits (by omega) (by omega))
      rw [hr] at hr2
      injection hr2 with e1 e2
      rw [e1]
      exact .inr fun k hk => by
        have : w.heap.size = k := Option.some.inj hk
        omega
theorem wpList_append_where {ops : Array Oper} {rest : List Oper} {o : Oper} {a : Act} {Q : Exit → Act → World → Prop} {w : World} (hgd : o.guard = none) (sl x : Operand) (t u : TypeId)
    (ho : o.op = .call { callee := .builtin .append, args := #[sl, x], argTypes := #[t, u] })
    (base : Nat) (e : TypeId) (i : TypeInfo) (ht : Tryz.prog.underlying t = some (.slice e)) (hu : Tryz.prog.underlying u = some .string) (hi : Tryz.prog.info? e = some i) (hz : i.zero = some (.int .u8 0))
    (hsize : i.size = 1) (hby : i.bytes = 1)
    (v : Value) (n : Nat) (xs : List Value) (hs : a.eval sl = v) (hown : w.ownsRowF base e 1 v n xs) (s : ByteArray) (hx : a.eval x = .string s)
    (h63 : n + s.size ≤ maxLen) (hbytes : n + s.size ≤ 140737488355328) (hbase : base ≤ w.heap.size)
    (h : ∀ v' w', w'.ownsRowF base e 1 v' (n + s.size) (xs ++ Lib.strCells s) → w.grownBy w' v.ownBlock → (v'.ownBlock = v.ownBlock ∨ ∀ k, v'.ownBlock = some k → w.heap.size ≤ k) → wpList Tryz.prog ops Q rest (a.put o.dst v') w') : wpList Tryz.prog ops Q (o :: rest) a w := by
  refine wpList_plain hgd fun K hK => ?_
  obtain ⟨v', w', hr, h2, h3, h4⟩ := append_where base t u o.type e i ht hu hi hz hsize hby v n xs hown s h63 hbytes hbase
  unfold Oper.wp execOp
  simp only [ho, resolve, invoke, builtin, Sem.run_bind, Sem.run_pure, Result.andThen_ok, List.map_toArray, List.map_cons, List.map_nil, hs, hx, hr]
  exact hK _ _ (h v' w' h2 h3 h4)
/-- A builder in block b, its buffer the value v. -/
structure BV (w : World) (B b : Nat) (v : Value) (bs : List Value) : Prop where
  base : B ≤ b
  blk : Blk w b 47 #[.pointer none, v] ∨ Blk w b 47 #[.pointer (some ⟨b, 0, none⟩), v]
  own : w.ownsRowF B 5 1 v bs.length bs
  ne : v.ownBlock ≠ some b
theorem BV.is {w : World} {B b : Nat} {v : Value} {bs : List Value} (h : BV w B b v bs) : Lib.IsBuilderF 47 5 B b bs w :=
  h.blk.elim (fun k => .inl ⟨h.base, v, k, h.own, h.ne⟩) (fun k => .inr ⟨h.base, v, k, h.own, h.ne⟩)
theorem BV.lt {w : World} {B b : Nat} {v : Value} {bs : List Value} (h : BV w B b v bs) : b < w.heap.size := h.blk.elim Blk.lt Blk.lt
theorem BV.grown {w w' : World} {B b gb : Nat} {v : Value} {bs : List Value} (h : BV w B b v bs) (hg : w.grownBy w' (some gb)) (h1 : b ≠ gb) (h2 : v.ownBlock ≠ some gb) : BV w' B b v bs :=
  ⟨h.base, h.blk.imp (fun k => k.grown hg (fun e => h1 (Option.some.inj e))) (fun k => k.grown hg (fun e => h1 (Option.some.inj e))), h.own.kept hg (.inr h2), h.ne⟩
theorem BV.alloc {w : World} {B b : Nat} {v : Value} {bs : List Value} (h : BV w B b v bs) (o : Obj) : BV (w.alloc o) B b v bs :=
  ⟨h.base, h.blk.imp (fun k => k.alloc o) (fun k => k.alloc o), h.own.alloc o, h.ne⟩
set_option maxRecDepth 20000 in
set_option maxHeartbeats 2000000 in
theorem c_copyCheck2 (B b : Nat) (v : Value) (bs : List Value) (w : World) (h : BV w B b v bs) :
    Calls Tryz.prog 24 #[.pointer (some ⟨b, 0, none⟩)] w fun e w' => e = .returned (.tuple #[]) ∧ Blk w' b 47 #[.pointer (some ⟨b, 0, none⟩), v] ∧ w'.ownsRowF B 5 1 v bs.length bs ∧ w.grownBy w' (some b) := by
  have hsz : (Tryz.prog.info? 47).map (fun i => i.size) = some 2 := by kernel_rfl
  obtain ⟨j, hj, hjs⟩ := Option.map_eq_some_iff.1 hsz
  have t70 : Tryz.prog.underlying 45 = some (.pointer 47) := Tryz.underlying45
  have t164 : Tryz.prog.underlying 66 = some .unsafePointer := Tryz.underlying66
  have hlies : liesAt Tryz.prog Tryz.prog.depth 47 (2 / Tryz.prog.cellsOf 47) 0 47 1 = true := by kernel_rfl
  obtain ⟨hB, hblk, hown, hne⟩ := h
  rcases hblk with k | k
  · have h0 := k.cell 0
    have hfz := k.frozen 0
    have hsh : w.shape? b = some (47, 2) := Lib.BuilderAtF.shape (B := B) (p := .pointer none) (bs := bs) (e := 5) ⟨hB, v, k, hown, hne⟩
    simp only [List.getElem?_toArray, List.getElem?_cons_zero] at h0
    have hown2 := hown.kept (grown_put (w := w) b 0 (.pointer (some ⟨b, 0, none⟩))) (.inr hne)
    have hk2 : Blk (w.setCell ⟨b, 0, none⟩ (.pointer (some ⟨b, 0, none⟩))) b 47 #[.pointer (some ⟨b, 0, none⟩), v] := k.set_ 0 _
    have H := Lib.hid (And.intro hk2 hown2)
    clear hk2 hown2 hown k
    go_enter Tryz.func24, Tryz.ntmps24
    go_wp2
    rw [Lib.run_to_unsafe w ⟨b, 0, none⟩ t70 t164 hj (by rw [hjs]; decide) hsh (Nat.zero_lt_succ 1)]
    simp only [Result.andThen]
    rw [Oper.upon_value]
    go_wp2
    rw [run_callFunc_extern Tryz.func37 (by kernel_rfl) (by kernel_rfl) (by kernel_rfl) (e := Extern.AbiNoEscape.same) (by kernel_rfl)]
    rw [Lib.run_noEscape]
    simp only [Result.andThen]
    rw [Oper.upon_value]
    go_wp2
    rw [Lib.run_from_unsafe w ⟨b, 0, none⟩ t164 t70 hj hsh hlies]
    simp only [Result.andThen]
    rw [Oper.upon_value]
    go_wp2
    go_end0
    exact ⟨rfl, H.out.1, H.out.2, grown_put b 0 _⟩
  · have h0 := k.cell 0
    simp only [List.getElem?_toArray, List.getElem?_cons_zero] at h0
    have H := Lib.hid (And.intro k hown)
    clear k hown
    go_enter Tryz.func24, Tryz.ntmps24
    go_wp2
    rw [Lib.run_neq_ptr_same w _ t70 hj]
    go_wp2
    go_end0
    exact ⟨rfl, H.out.1, H.out.2, World.grownBy.refl w _⟩
set_option maxRecDepth 20000 in
set_option maxHeartbeats 2000000 in
theorem c_WriteString2 (B b : Nat) (v : Value) (bs : List Value) (s : ByteArray) (w : World) (h : BV w B b v bs) (hlen : bs.length + s.size ≤ 140737488355328) (hBw : B ≤ w.heap.size) :
    Calls Tryz.prog 20 #[.pointer (some ⟨b, 0, none⟩), .string s] w fun e w' => e = .returned (.tuple #[.int .i64 s.size, .nilIface]) ∧ ∃ v', BV w' B b v' (bs ++ Lib.strCells s) ∧ (v'.ownBlock = v.ownBlock ∨ ∀ k, v'.ownBlock = some k → w.heap.size ≤ k) ∧
      (∀ k, k < w.heap.size → k ≠ b → v.ownBlock ≠ some k → w'.heap[k]? = w.heap[k]?) ∧ w.heap.size ≤ w'.heap.size ∧ Below B w w' := by
  have hby : (Tryz.prog.info? 5).map (fun i => (i.zero, i.size, i.bytes)) = some (some (.int .u8 0), 1, 1) := by kernel_rfl
  obtain ⟨i0, hi, hz0, hz1, hz2⟩ := info_parts hby
  have t37 : Tryz.prog.underlying 22 = some (.slice 5) := Tryz.underlying22
  have t9 : Tryz.prog.underlying 9 = some .string := Tryz.underlying9
  have hB := h.base
  have hne := h.ne
  have hbw := h.lt
  have H0 := Lib.hid h
  clear h
  go_enter Tryz.func20, Tryz.ntmps20
  go_wp2_with fail
  refine (c_copyCheck2 B b v bs _ H0.out).mono ?_
  rintro e w1 ⟨rfl, k, hown, hg1⟩
  have c0 := k.cell 0
  have c1 := k.cell 1
  have hs1 := hg1.size
  simp only [List.getElem?_toArray, List.getElem?_cons_zero, List.getElem?_cons_succ] at c0 c1
  have HK := Lib.hid k
  clear k
  go_wp2_with (at_builtin; refine wpList_append_where rfl _ _ 22 9 rfl B 5 i0 t37 t9 hi hz0 hz1 hz2 _ _ _ rfl hown s rfl ?c3 ?c4 ?c5 ?_)
  case c3 => unfold maxLen; omega
  case c4 => omega
  case c5 => omega
  intro v' w2 hown' hgrow hwh
  have k2 := HK.out.grown hgrow (fun e => hne e.symm)
  have d0 := k2.cell 0
  have d1 := k2.cell 1
  have f1 := k2.frozen 1
  have hlt := k2.lt
  simp only [List.getElem?_toArray, List.getElem?_cons_zero, List.getElem?_cons_succ] at d0 d1
  have hne' : v'.ownBlock ≠ some b := fun e => by
    rcases hwh with h | h
    · exact hne (h ▸ e)
    · have := h _ e; have := HK.out.lt; omega
  have hk3 : Blk (w2.setCell ⟨b, 1, none⟩ v') b 47 #[.pointer (some ⟨b, 0, none⟩), v'] := k2.set_ 1 _
  have hown3 := hown'.kept (grown_put (w := w2) b 1 v') (.inr hne')
  have hB1 : Below B w w1 := ⟨hg1.os, hg1.tape, hg1.output, hg1.size, fun i hi => hg1.block i (by omega) (fun e => by have := Option.some.inj e; omega)⟩
  have hB3 := (hB1.grown hgrow (by omega) (fun j hj => (hown.lt j hj).1)).setCell (p := ⟨b, 1, none⟩) hB v'
  have HF : Hid (∀ j, j < w.heap.size → j ≠ b → v.ownBlock ≠ some j → (w2.setCell ⟨b, 1, none⟩ v').heap[j]? = w.heap[j]?) := fun j hj hjb hjv => by
    have g2 := hgrow.block j (by omega) (fun e => hjv e.symm)
    have g3 := (grown_put (w := w2) b 1 v').block j (by have := hgrow.size; omega) (fun e => hjb (Option.some.inj e))
    rw [g3, g2]
    exact hg1.block j hj (fun e => hjb (Option.some.inj e))
  have HBV : Hid (BV (w2.setCell ⟨b, 1, none⟩ v') B b v' (bs ++ Lib.strCells s)) := ⟨hB, .inr hk3, by rw [List.length_append, Lib.strCells_length]; exact hown3, hne'⟩
  have HW : Hid (v'.ownBlock = v.ownBlock ∨ ∀ k, v'.ownBlock = some k → w.heap.size ≤ k) := hwh.imp id (fun h k hk => Nat.le_trans hs1 (h k hk))
  have HSZ : Hid (w.heap.size ≤ (w2.setCell ⟨b, 1, none⟩ v').heap.size) := by have := hgrow.size; simp [Hid]; omega
  have hB3' := Lib.hid hB3
  clear hk3 hown3 hB3 hB1 hne' hwh k2
  obtain ⟨ao, n', cap, rfl⟩ : ∃ ao n' cap, v' = .slice ao n' cap := by
    rcases hown'.2 with ⟨hv, _⟩ | ⟨g, cap, cur, fz, hv, _⟩
    · exact ⟨_, _, _, hv⟩
    · exact ⟨_, _, _, hv⟩
  clear hown' hgrow
  go_wp2
  go_ret2
  exact ⟨rfl, _, HBV.out, HW.out, HF.out, HSZ.out, hB3'.out⟩
theorem Rd.frame {w w' : World} {A : Option Addr} {vs : List Value} (h : Rd w A vs) (hs : w.heap.size ≤ w'.heap.size) (hk : ∀ a, A = some a → vs ≠ [] → w'.heap[a.block]? = w.heap[a.block]?) : Rd w' A vs := fun k v hv => by
  obtain ⟨b, off, rfl, hb, hc⟩ := h k v hv
  have hx : vs ≠ [] := by rintro rfl; simp at hv
  exact ⟨b, off, rfl, Nat.lt_of_lt_of_le hb hs, (World.cell?_of_block (w := w) (a := ⟨b, off + k, none⟩) (hk ⟨b, off, none⟩ rfl hx)).trans hc⟩
theorem GA.frame {w w' : World} {gb : Nat} {ty : TypeId} {P Q : Nat → Prop} {g : Gt} (h : GA w gb ty P g) (hg : w'.heap[gb]? = w.heap[gb]?) (hs : w.heap.size ≤ w'.heap.size) (hk : ∀ k, k < w.heap.size → P k → w'.heap[k]? = w.heap[k]?) (hq : ∀ k, k < w.heap.size → P k → Q k) : GA w' gb ty Q g := by
  obtain ⟨A, n, c, C, m, d, h1, h2, h3, h4, h5, h6, h7, h8, h9⟩ := h
  refine ⟨A, n, c, C, m, d, hg.trans h1, h2, h3, Rd.frame h4 hs (fun a ha hx => hk _ (Rd.near h4 a ha hx) (h8 a ha hx).2), h5, h6, Rd.frame h7 hs (fun a ha hx => hk _ (Rd.near h7 a ha hx) (h9 a ha hx).2), fun a ha hx => ⟨(h8 a ha hx).1, hq _ (Rd.near h4 a ha hx) (h8 a ha hx).2⟩, fun a ha hx => ⟨(h9 a ha hx).1, hq _ (Rd.near h7 a ha hx) (h9 a ha hx).2⟩⟩
end Go.Proofs.YtjflfhjnbccpmaaGreatDoor
namespace Go.Proofs.YtjflfhjnbccpmaaGreatDoor
open Go.RowKit
set_option maxRecDepth 20000 in
set_option maxHeartbeats 3200000 in
theorem c_iRun (A : Option Addr) (n c : Nat) (xs : List ByteArray) (w : World) (hn : xs.length = n) (hc : n ≤ c) (h : RS w A xs) (hl : n ≤ 1099511627776) (hs : ∀ x ∈ xs, x.size ≤ 4000000000) (hE : EnvP w) :
    Calls Tryz.prog 9 #[.slice A n c] w fun e w' => e = .returned (.string ⟨(sesL (xs.map (·.data.toList))).toArray⟩) ∧ Below w.heap.size w w' := by
  have HN := Lib.hid hn
  have HA : Hid (∀ W, Below w.heap.size w W → Rd W A (xs.map Value.string)) := fun W b => Rd.to h b
  have HS := Lib.hid hs
  have HE := Lib.hid hE
  clear hn h hs hE
  have k0 : Blk ((w.alloc (.cells #[.int .i64 2560, .int .i64 8, .int .i64 51457, .slice none 0 0, .slice none 0 0, .int .i64 2, .int .i64 100, .int .i64 0] 44)).alloc (.cells #[.pointer none, .slice none 0 0] 47)) w.heap.size 44 #[.int .i64 2560, .int .i64 8, .int .i64 51457, .slice none 0 0, .slice none 0 0, .int .i64 2, .int .i64 100, .int .i64 0] := (Blk.new w 44 #[.int .i64 2560, .int .i64 8, .int .i64 51457, .slice none 0 0, .slice none 0 0, .int .i64 2, .int .i64 100, .int .i64 0]).alloc _
  have k1 : Blk ((w.alloc (.cells #[.int .i64 2560, .int .i64 8, .int .i64 51457, .slice none 0 0, .slice none 0 0, .int .i64 2, .int .i64 100, .int .i64 0] 44)).alloc (.cells #[.pointer none, .slice none 0 0] 47)) (w.heap.size + 1) 47 #[.pointer none, .slice none 0 0] := (by
    have := Blk.new (w.alloc (.cells #[.int .i64 2560, .int .i64 8, .int .i64 51457, .slice none 0 0, .slice none 0 0, .int .i64 2, .int .i64 100, .int .i64 0] 44)) 47 #[.pointer none, .slice none 0 0]
    simp only [World.size_alloc] at this
    exact this)
  have hG : GA _ w.heap.size 44 (fun k => (Value.slice none 0 0).ownBlock ≠ some k ∧ k ≠ w.heap.size + 1) gate0 := gate0_ga k0
  have hV : BV _ (w.heap.size + 1) (w.heap.size + 1) (.slice none 0 0) (Lib.byteCells []) := ⟨Nat.le_refl _, .inl k1, World.ownsRowF_nil _ _ _ _, by intro e; cases e⟩
  have B : Below w.heap.size w ((w.alloc (.cells #[.int .i64 2560, .int .i64 8, .int .i64 51457, .slice none 0 0, .slice none 0 0, .int .i64 2, .int .i64 100, .int .i64 0] 44)).alloc (.cells #[.pointer none, .slice none 0 0] 47)) := ((Below.refl _ _).alloc (Nat.le_refl _) _).alloc (by simp) _
  have HG := Lib.hid hG
  have HVV := Lib.hid hV
  have HB0 := Lib.hid B
  clear k0 k1 hG hV B
  obtain ⟨q, hq⟩ : ∃ q, min 20 n = q := ⟨_, rfl⟩
  have tm : min (20 : Int) (n : Int) = (q : Int) := by omega
  have hqn : q ≤ n := by omega
  have hq20 : q ≤ 20 := by omega
  have hqc : (q : Int) ≤ (c : Int) := by omega
  have HQ := Lib.hid hq
  have HTK : Hid (∀ k, k = q → (xs.map (·.data.toList)).take k = (xs.map (·.data.toList)).take 20) := Lib.hid (fun k hk => by
    subst hk
    have hn := HN.out
    rcases Nat.le_total n 20 with h | h
    · have e : k = n := by omega
      rw [List.take_of_length_le (by rw [List.length_map]; omega), List.take_of_length_le (by rw [List.length_map]; omega)]
    · have e : k = 20 := by omega
      rw [e])
  clear hq
  go_enter Tryz.func9, Tryz.ntmps9
  go_wp2
  go_loopw [16] (fun i wr => ∃ (k : Nat) (ob : List UInt8) (g : Gt) (v : Value), k ≤ q ∧ i = .int .i64 k ∧ ob.length ≤ k * 1000001 ∧ Hid (runL gate0 ((xs.map (·.data.toList)).take k) = (ob, g) ∧ vGate g = true ∧ GA wr w.heap.size 44 (fun j => v.ownBlock ≠ some j ∧ j ≠ w.heap.size + 1) g ∧ BV wr (w.heap.size + 1) (w.heap.size + 1) v (Lib.byteCells ob) ∧ Below w.heap.size w wr)) (fun i _ => 21 - (intOf i).toNat)
  case atStart => exact ⟨0, [], gate0, .slice none 0 0, Nat.zero_le _, rfl, Nat.zero_le _, by simp [runL], gate0_valid, HG.out, HVV.out, HB0.out⟩
  case round =>
    obtain ⟨k, ob, g, v, hk, rfl, hob, HH⟩ := hrel
    obtain ⟨hr, hv, hG, hV, B⟩ := HH.out
    have HR := Lib.hid hr
    have HV := Lib.hid hv
    have hbl := hV.lt
    have HBV := Lib.hid hV
    clear HH hr hv
    by_cases hlt : k < q
    · have e1 : (k : Int) < (q : Int) := by omega
      obtain ⟨x, hx, hsz⟩ : ∃ x, xs[k]? = some x ∧ x.size ≤ 4000000000 := by
        have hkx : k < xs.length := by rw [HN.out]; omega
        exact ⟨xs[k], List.getElem?_eq_getElem hkx, HS.out _ (List.getElem_mem hkx)⟩
      obtain ⟨b, off, rfl, hbx, -⟩ := (HA.out _ B) k (.string x) (by rw [List.getElem?_map, hx]; rfl)
      have c0 := wcell (HA.out _ B) hx
      have e3 : (0 : Int) ≤ (k : Int) ∧ (k : Int) < q := by omega
      have HRN : Hid (runL gate0 ((xs.map (·.data.toList)).take (k + 1)) = (ob ++ ((lineL g x.data.toList).1 ++ [10]), (lineL g x.data.toList).2)) := Lib.hid (by
        rw [take_snoc (x := x.data.toList) (by rw [List.getElem?_map, hx]; rfl), run_snoc, HR.out])
      have hls := line_size HV.out x.data.toList
      have HVN := Lib.hid (line_valid HV.out x.data.toList)
      have HG1 := Lib.hid hG
      clear hx HR hV hG
      go_wp2_with fail
      refine (c_iLine g w.heap.size _ w _ x HV.out HG1.out HE.out B (Nat.le_refl _) hsz).mono ?_
      rintro e w2 ⟨rfl, hGA, hgr⟩
      have B2 := grown_below hgr B (Nat.le_refl _)
      have hvg : v.ownBlock ≠ some w.heap.size := fun e => by have := (HBV.out.own.lt _ e).1; omega
      have hV2 := HBV.out.grown hgr (by omega) hvg
      have hG2 : GA w2 w.heap.size 44 (fun j => v.ownBlock ≠ some j ∧ j ≠ w.heap.size + 1) (lineL g x.data.toList).2 := hGA.mono (fun j hj => by
        rcases hj with h | h
        · exact h
        · exact ⟨fun e => by have := (HBV.out.own.lt _ e).2; omega, by omega⟩)
      have HG2 := Lib.hid hG2
      have HV2 := Lib.hid hV2
      clear hGA hgr hG2 hV2 c0 hvg hbl
      obtain ⟨ll, hll⟩ : ∃ ll, (lineL g x.data.toList).1 = ll := ⟨_, rfl⟩
      rw [hll] at hls HRN ⊢
      clear hll
      have hzl : (⟨ll.toArray⟩ : ByteArray).size = ll.length := by simp [ByteArray.size]
      have hs1 : ¬ (9223372036854775807 < (⟨ll.toArray⟩ : ByteArray).size + 1) := by rw [hzl]; omega
      obtain ⟨lb, hlb⟩ : ∃ lb, (⟨ll.toArray⟩ : ByteArray) = lb := ⟨_, rfl⟩
      rw [hlb] at hs1 ⊢
      have hcl : Lib.strCells (lb ++ (⟨#[10]⟩ : ByteArray)) = Lib.byteCells (ll ++ [10]) := by
        rw [Lib.strCells_eq, ← hlb]
        simp [ByteArray.data_append]
      have hzz : (lb ++ (⟨#[10]⟩ : ByteArray)).size = ll.length + 1 := by rw [ByteArray.size_append, ← hlb, hzl]; rfl
      have HCL := Lib.hid (And.intro hcl hzz)
      have hbc := Lib.byteCells_length ob
      clear hcl hlb hzl hzz
      have hle : (Lib.byteCells ob).length + (lb ++ (⟨#[10]⟩ : ByteArray)).size ≤ 140737488355328 := by rw [HCL.out.2, hbc]; omega
      have hle2 : w.heap.size + 1 ≤ w2.heap.size := by have := HV2.out.lt; omega
      have J := Lib.hid (c_WriteString2 (w.heap.size + 1) (w.heap.size + 1) v (Lib.byteCells ob) (lb ++ ⟨#[10]⟩) w2 HV2.out hle hle2)
      clear hle
      go_wp2_with fail
      refine J.out.mono ?_
      rintro e w3 ⟨rfl, v3, hV3, hwh, hkp, hs3, hb3⟩
      rw [HCL.out.1, ← Lib.byteCells_append] at hV3
      have hgl := HG2.out.lt
      have hvg : v.ownBlock ≠ some w.heap.size := fun e => by have := (HV2.out.own.lt _ e).1; omega
      have hG3 : GA w3 w.heap.size 44 (fun j => v3.ownBlock ≠ some j ∧ j ≠ w.heap.size + 1) (lineL g x.data.toList).2 :=
        HG2.out.frame (hkp _ hgl (by omega) hvg) hs3 (fun j hj hp => hkp j hj hp.2 hp.1) (fun j hj hp => ⟨fun e => by
          rcases hwh with h | h
          · exact hp.1 (h ▸ e)
          · have := h _ e; omega, hp.2⟩)
      have HG3 := Lib.hid hG3
      have HV3 := Lib.hid hV3
      have B3 := B2.trans (hb3.mono (Nat.le_succ _))
      clear hG3 hV3 hwh hkp hs3 hb3 hvg
      go_wp2
      go_roundw
      case rel => exact ⟨k + 1, ob ++ (ll ++ [10]), (lineL g x.data.toList).2, v3, by omega, by go_num, by simp only [List.length_append, List.length_cons, List.length_nil]; omega, HRN.out, HVN.out, HG3.out, HV3.out, B3⟩
      case measure => simp [intOf]; omega
    · have e1 : ¬ ((k : Int) < (q : Int)) := by omega
      have HE2 := Lib.hid (HTK.out k (by omega))
      have hsz := B.size
      clear hV hG
      go_wp2_with fail
      refine (Tryz.Builder_String_any_k (w.heap.size + 1) (w.heap.size + 1) ob _ HBV.out.is (by omega)).mono ?_
      rintro e w3 ⟨rfl, -, hb3, -⟩
      go_wp2
      go_ret
      exact ⟨by rw [show sesL (xs.map (·.data.toList)) = ob by unfold sesL; rw [← HE2.out, HR.out]]; rfl, B.trans (hb3.mono (Nat.le_succ _))⟩
end Go.Proofs.YtjflfhjnbccpmaaGreatDoor
namespace Go.Proofs.YtjflfhjnbccpmaaGreatDoor
open Go.RowKit
theorem grown_weak {a w w' : World} {g : Nat} {row : Option Nat} (h : a.grownBy w (some g)) (hg : w.grownBy w' row) (hr : ∀ k, row = some k → a.heap.size ≤ k) : a.grownBy w' (some g) :=
  ⟨hg.os.trans h.os, hg.tape.trans h.tape, hg.output.trans h.output, Nat.le_trans h.size hg.size, fun k hk hne => (hg.block k (Nat.lt_of_lt_of_le hk h.size) (fun e => by have := hr k e.symm; omega)).trans (h.block k hk hne)⟩
set_option maxRecDepth 20000 in
set_option maxHeartbeats 6400000 in
theorem c_DrawRun (A : Option Addr) (n c : Nat) (w : World) (h : RB w A n) (hc : n ≤ c) :
    Calls Tryz.prog 8 #[.slice A n c] w fun e w' => ∃ A' q c' xs, e = .returned (.slice A' q c') ∧ xs.length = q ∧ q ≤ c' ∧ q ≤ 16 ∧ RS w' A' xs ∧ (∀ x ∈ xs, x.size ≤ 100000) ∧ Fr A' w.heap.size ∧ Below w.heap.size w w' := by
  go_enter Tryz.func8, Tryz.ntmps8
  go_wp2_with fail
  refine (c_newReader _ _ _ _ h hc).mono ?_
  rintro e w0 ⟨g, rfl, hr, hgw, hb⟩
  have hgl := hr.lt
  have hoE : (w0.alloc (.cells #[] 9)).ownsRow w0.heap.size 9 1 (.slice (some ⟨w0.heap.size, 0, none⟩) 0 0) 0 (([] : List ByteArray).map Value.string) := World.ownsRow_made w0 #[] 0 (Nat.le_refl _) (by unfold maxLen; omega) (by simp)
  have hrE := hr.alloc (.cells #[] 9)
  go_wp2_with fail
  refine (c_one _ _ _ _ [8, 12, 6, 16, 3, 0] _ (hrE.alloc _) (by omega) (lit_ints _ (by simp) rfl) (by simp) (by simp) (lit_far hrE (by simp))).mono ?_
  rintro e w2 ⟨k0, rfl, hk0, hr, h⟩
  have hkb : 0 ≤ k0 ∧ k0 ≤ 16 := by simp only [List.mem_cons, List.not_mem_nil, or_false] at hk0; omega
  have ho := own_kept (World.ownsRow.alloc hoE _) h hgl
  have h2 := grown_trans (grown_alloc (grown_alloc (World.grownBy.refl w0 (some g)) _) _) h
  obtain ⟨base, hbase⟩ : ∃ b, w0.heap.size = b := ⟨_, rfl⟩
  rw [hbase] at ho hgl ⊢
  have hgb : g < base := hgl
  have HW := Lib.hid (And.intro hgw (And.intro hb hbase))
  have HK := Lib.hid hkb
  generalize hw1 : w0 = w1 at h2 HW
  clear hoE hrE hk0 h hgl
  go_wp2
  go_loopw [4, 5] (fun v i wr => ∃ (k : Int) (v' : Value) (xs : List ByteArray) (p : Nat), 0 ≤ k ∧ k ≤ 16 ∧ i = .int .i64 k ∧ v' = v ∧ (xs.length : Int) + k ≤ 16 ∧ (p : Int) + 10 * k ≤ 1000 ∧ Hid (Rdr wr g p) ∧ Hid (wr.ownsRow base 9 1 v' xs.length (xs.map Value.string)) ∧ Hid (w1.grownBy wr (some g)) ∧ Hid (∀ x ∈ xs, x.size ≤ 10000)) (fun _ i _ => (intOf i).toNat)
  case atStart => exact ⟨k0, _, [], 1, hkb.1, hkb.2, rfl, rfl, by simp; omega, by omega, hr, ho, h2, fun x hx => by cases hx⟩
  case round =>
    clear hr ho h2 hkb
    obtain ⟨k, v', xs, p, hk1, hk2, rfl, rfl, hxk, hpk, HR, HO, H2, hsm⟩ := hrel
    have hr := HR.out
    have ho := HO.out
    have h2 := H2.out
    have hbs : w1.heap.size = base := HW.out.2.2
    clear HR HO H2
    by_cases hpos : 0 < k
    · have e1 : decide ((0 : Int) < k) = true := by rw [decide_eq_true_eq]; exact hpos
      have ek : IntKind.i64.wrap (k - 1) = k - 1 := IntWalk.i64_in _ (by omega)
      go_wp2_with fail
      refine (c_pick _ _ 3 _ hr (by omega)).mono ?_
      rintro e wa ⟨t1, rfl, a1, b1, -, hr, h⟩
      have b1 := b1 (by omega)
      replace h2 := grown_trans h2 h; replace ho := own_kept ho h hgb; clear h
      have zz1 := dec_size (t1)
      go_wp2_with fail
      refine (c_dec (t1) _ (by omega) (by omega)).mono ?_
      obtain ⟨d1, hd1⟩ : ∃ x, dec ((t1)) = x := ⟨_, rfl⟩
      rw [hd1] at zz1 ⊢
      clear hd1
      rintro e wd1 ⟨rfl, hq⟩
      replace hr := hr.to hq; replace h2 := grown_trans h2 (grown_of_below hq (some g)); replace ho := own_to ho hq (Nat.le_refl _); clear hq
      have hsx0 : ¬ (9223372036854775807 < 3 + d1.size) := by omega
      have hsx1 : ¬ (9223372036854775807 < 3 + d1.size + 1) := by omega
      go_wp2_with fail
      refine (c_one _ _ _ _ [80, 1000, 1001] _ (hr.alloc _) (by omega) (lit_ints _ rfl rfl) (by simp) (by simp) (lit_far hr rfl)).mono ?_
      rintro e wb ⟨t2, rfl, hx2, hr, h⟩
      have hb2 : 0 ≤ t2 ∧ t2 ≤ 1001 := by simp only [List.mem_cons, List.not_mem_nil, or_false] at hx2; omega
      replace h2 := grown_trans (grown_alloc h2 _) h; replace ho := own_kept (World.ownsRow.alloc ho _) h hgb; clear h
      clear hx2
      have zz2 := dec_size (t2)
      go_wp2_with fail
      refine (c_dec (t2) _ (by omega) (by omega)).mono ?_
      obtain ⟨d2, hd2⟩ : ∃ x, dec ((t2)) = x := ⟨_, rfl⟩
      rw [hd2] at zz2 ⊢
      clear hd2
      rintro e wd2 ⟨rfl, hq⟩
      replace hr := hr.to hq; replace h2 := grown_trans h2 (grown_of_below hq (some g)); replace ho := own_to ho hq (Nat.le_refl _); clear hq
      have hsx2 : ¬ (9223372036854775807 < 3 + d1.size + 1 + d2.size) := by omega
      go_wp2_with fail
      refine (c_one _ _ _ _ [80, 443] _ (hr.alloc _) (by omega) (lit_ints _ rfl rfl) (by simp) (by simp) (lit_far hr rfl)).mono ?_
      rintro e wc ⟨t3, rfl, hx3, hr, h⟩
      have hb3 : 0 ≤ t3 ∧ t3 ≤ 443 := by simp only [List.mem_cons, List.not_mem_nil, or_false] at hx3; omega
      replace h2 := grown_trans (grown_alloc h2 _) h; replace ho := own_kept (World.ownsRow.alloc ho _) h hgb; clear h
      clear hx3
      have zz3 := dec_size (t3)
      go_wp2_with fail
      refine (c_dec (t3) _ (by omega) (by omega)).mono ?_
      obtain ⟨d3, hd3⟩ : ∃ x, dec ((t3)) = x := ⟨_, rfl⟩
      rw [hd3] at zz3 ⊢
      clear hd3
      rintro e wd3 ⟨rfl, hq⟩
      replace hr := hr.to hq; replace h2 := grown_trans h2 (grown_of_below hq (some g)); replace ho := own_to ho hq (Nat.le_refl _); clear hq
      have hsx3 : ¬ (9223372036854775807 < 7 + d3.size) := by omega
      go_wp2_with fail
      refine (c_pick _ _ 4 _ hr (by omega)).mono ?_
      rintro e we ⟨t4, rfl, a4, b4, -, hr, h⟩
      have b4 := b4 (by omega)
      have e4 : IntKind.i64.wrap (1000 + t4) = 1000 + t4 := IntWalk.i64_in _ (by omega)
      replace h2 := grown_trans h2 h; replace ho := own_kept ho h hgb; clear h
      have zz4 := dec_size (1000 + t4)
      go_wp2_with fail
      refine (c_dec (1000 + t4) _ (by omega) (by omega)).mono ?_
      obtain ⟨d4, hd4⟩ : ∃ x, dec ((1000 + t4)) = x := ⟨_, rfl⟩
      rw [hd4] at zz4 ⊢
      clear hd4
      rintro e wd4 ⟨rfl, hq⟩
      replace hr := hr.to hq; replace h2 := grown_trans h2 (grown_of_below hq (some g)); replace ho := own_to ho hq (Nat.le_refl _); clear hq
      have hsx4 : ¬ (9223372036854775807 < 6 + d4.size) := by omega
      go_wp2_with fail
      refine (c_pick _ _ 5 _ hr (by omega)).mono ?_
      rintro e wf ⟨t5, rfl, a5, b5, -, hr, h⟩
      have b5 := b5 (by omega)
      replace h2 := grown_trans h2 h; replace ho := own_kept ho h hgb; clear h
      obtain ⟨sin, hsin⟩ : ∃ x, (⟨#[49, 48, 46]⟩ : ByteArray) ++ d1 ++ ⟨#[58]⟩ ++ d2 = x := ⟨_, rfl⟩
      obtain ⟨sfar, hsfar⟩ : ∃ x, (⟨#[49, 57, 46, 49, 51, 54, 58]⟩ : ByteArray) ++ d3 = x := ⟨_, rfl⟩
      obtain ⟨sgate, hsgate⟩ : ∃ x, (⟨#[50, 48, 49, 46, 49, 58]⟩ : ByteArray) ++ d4 = x := ⟨_, rfl⟩
      have z6 : sin.size ≤ 2000 := by rw [← hsin]; simp only [ByteArray.size_append]; show 3 + _ + 1 + _ ≤ _; omega
      have z7 : sfar.size ≤ 2000 := by rw [← hsfar]; simp only [ByteArray.size_append]; show 7 + _ ≤ _; omega
      have z8 : sgate.size ≤ 2000 := by rw [← hsgate]; simp only [ByteArray.size_append]; show 6 + _ ≤ _; omega
      rw [hsin, hsfar, hsgate]
      clear hsin hsfar hsgate zz1 zz2 zz3 zz4 hsx0 hsx1 hsx2 hsx3 hsx4
      by_cases hc0 : t5 = 0
      · subst hc0
        have hsa : ¬ (9223372036854775807 < 5 + sin.size) := by omega
        have hsb : ¬ (9223372036854775807 < 5 + sin.size + 1) := by omega
        have hsc : ¬ (9223372036854775807 < 5 + sin.size + 1 + sfar.size) := by omega
        obtain ⟨X, hX⟩ : ∃ x, (⟨#[115, 101, 110, 100, 32]⟩ : ByteArray) ++ sin ++ ⟨#[32]⟩ ++ sfar = x := ⟨_, rfl⟩
        have zX : X.size ≤ 10000 := by rw [← hX]; simp only [ByteArray.size_append]; show 5 + _ + 1 + _ ≤ _; omega
        have hhd := rd_lit wf [X] 9
        have hoA := World.ownsRow.alloc ho (.cells #[.string X] 9)
        have hszA := h2.size
        have hrA := hr.alloc (.cells #[.string X] 9)
        go_wp2_with (at_builtin; go_must (obtain ⟨i0, hi, hz0, hz1, hz2⟩ := info_parts str_info; refine wpList_append_rd _ rfl _ _ 23 rfl base 9 i0 _ 1 16 Tryz.underlying23 hi hz0 hz1 hz2 rfl (by omega) _ xs.length (xs.map Value.string) rfl hoA (some ⟨wf.heap.size, 0, none⟩) 1 1 [.string X] rfl hhd rfl (fun u hu => by simp at hu; subst hu; rfl) (by unfold maxLen; omega) (by omega) (by simp; omega) ?_; intro v1 w9 ho9 hg9 hat9; clear hi hz0 hz1 hz2 hat9))
        have hr9 := hrA.row hg9 (fun j hj => by have := (World.ownsRow.lt hoA j hj).1; omega)
        have h9 : w1.grownBy w9 (some g) := grown_weak (grown_alloc h2 _) hg9 (fun j hj => by have := (World.ownsRow.lt hoA j hj).1; omega)
        go_roundw
        case rel => exact ⟨k - 1, v1, xs ++ [X], _, by omega, by omega, by go_num, rfl, by simp; omega, by omega, hr9, by rw [List.length_append, List.map_append]; exact ho9, h9, fun y hy => by rcases List.mem_append.1 hy with h | h; exact hsm.out y h; simp at h; subst h; omega⟩
        case measure => simp [intOf]; omega
      by_cases hc1 : t5 = 1
      · subst hc1
        have hsa : ¬ (9223372036854775807 < 5 + sin.size) := by omega
        have hsb : ¬ (9223372036854775807 < 5 + sin.size + 1) := by omega
        have hsc : ¬ (9223372036854775807 < 5 + sin.size + 1 + sfar.size) := by omega
        obtain ⟨X, hX⟩ : ∃ x, (⟨#[115, 101, 110, 100, 32]⟩ : ByteArray) ++ sin ++ ⟨#[32]⟩ ++ sfar = x := ⟨_, rfl⟩
        have zX : X.size ≤ 10000 := by rw [← hX]; simp only [ByteArray.size_append]; show 5 + _ + 1 + _ ≤ _; omega
        have hhd := rd_lit wf [X] 9
        have hoA := World.ownsRow.alloc ho (.cells #[.string X] 9)
        have hszA := h2.size
        have hrA := hr.alloc (.cells #[.string X] 9)
        go_wp2_with (at_builtin; go_must (obtain ⟨i0, hi, hz0, hz1, hz2⟩ := info_parts str_info; refine wpList_append_rd _ rfl _ _ 23 rfl base 9 i0 _ 1 16 Tryz.underlying23 hi hz0 hz1 hz2 rfl (by omega) _ xs.length (xs.map Value.string) rfl hoA (some ⟨wf.heap.size, 0, none⟩) 1 1 [.string X] rfl hhd rfl (fun u hu => by simp at hu; subst hu; rfl) (by unfold maxLen; omega) (by omega) (by simp; omega) ?_; intro v1 w9 ho9 hg9 hat9; clear hi hz0 hz1 hz2 hat9))
        have hr9 := hrA.row hg9 (fun j hj => by have := (World.ownsRow.lt hoA j hj).1; omega)
        have h9 : w1.grownBy w9 (some g) := grown_weak (grown_alloc h2 _) hg9 (fun j hj => by have := (World.ownsRow.lt hoA j hj).1; omega)
        go_roundw
        case rel => exact ⟨k - 1, v1, xs ++ [X], _, by omega, by omega, by go_num, rfl, by simp; omega, by omega, hr9, by rw [List.length_append, List.map_append]; exact ho9, h9, fun y hy => by rcases List.mem_append.1 hy with h | h; exact hsm.out y h; simp at h; subst h; omega⟩
        case measure => simp [intOf]; omega
      by_cases hc2 : t5 = 2
      · subst hc2
        have hsa : ¬ (9223372036854775807 < 5 + sfar.size) := by omega
        have hsb : ¬ (9223372036854775807 < 5 + sfar.size + 1) := by omega
        have hsc : ¬ (9223372036854775807 < 5 + sfar.size + 1 + sgate.size) := by omega
        obtain ⟨X, hX⟩ : ∃ x, (⟨#[115, 101, 110, 100, 32]⟩ : ByteArray) ++ sfar ++ ⟨#[32]⟩ ++ sgate = x := ⟨_, rfl⟩
        have zX : X.size ≤ 10000 := by rw [← hX]; simp only [ByteArray.size_append]; show 5 + _ + 1 + _ ≤ _; omega
        have hhd := rd_lit wf [X] 9
        have hoA := World.ownsRow.alloc ho (.cells #[.string X] 9)
        have hszA := h2.size
        have hrA := hr.alloc (.cells #[.string X] 9)
        go_wp2_with (at_builtin; go_must (obtain ⟨i0, hi, hz0, hz1, hz2⟩ := info_parts str_info; refine wpList_append_rd _ rfl _ _ 23 rfl base 9 i0 _ 1 16 Tryz.underlying23 hi hz0 hz1 hz2 rfl (by omega) _ xs.length (xs.map Value.string) rfl hoA (some ⟨wf.heap.size, 0, none⟩) 1 1 [.string X] rfl hhd rfl (fun u hu => by simp at hu; subst hu; rfl) (by unfold maxLen; omega) (by omega) (by simp; omega) ?_; intro v1 w9 ho9 hg9 hat9; clear hi hz0 hz1 hz2 hat9))
        have hr9 := hrA.row hg9 (fun j hj => by have := (World.ownsRow.lt hoA j hj).1; omega)
        have h9 : w1.grownBy w9 (some g) := grown_weak (grown_alloc h2 _) hg9 (fun j hj => by have := (World.ownsRow.lt hoA j hj).1; omega)
        go_roundw
        case rel => exact ⟨k - 1, v1, xs ++ [X], _, by omega, by omega, by go_num, rfl, by simp; omega, by omega, hr9, by rw [List.length_append, List.map_append]; exact ho9, h9, fun y hy => by rcases List.mem_append.1 hy with h | h; exact hsm.out y h; simp at h; subst h; omega⟩
        case measure => simp [intOf]; omega
      by_cases hc3 : t5 = 3
      · subst hc3
        have hsa : ¬ (9223372036854775807 < 5 + sin.size) := by omega
        have hsb : ¬ (9223372036854775807 < 5 + sin.size + 1) := by omega
        have hsc : ¬ (9223372036854775807 < 5 + sin.size + 1 + sgate.size) := by omega
        obtain ⟨Y, hY⟩ : ∃ x, (⟨#[115, 101, 110, 100, 32]⟩ : ByteArray) ++ sin ++ ⟨#[32]⟩ ++ sgate = x := ⟨_, rfl⟩
        have zY : Y.size ≤ 10000 := by rw [← hY]; simp only [ByteArray.size_append]; show 5 + _ + 1 + _ ≤ _; omega
        have hL10 := rd_lit wf [(⟨#[116, 97, 98, 108, 101]⟩ : ByteArray), ⟨#[99, 111, 117, 110, 116]⟩, ⟨#[119, 97, 105, 116, 32, 49, 48]⟩, ⟨#[119, 97, 105, 116, 32, 54, 48]⟩, ⟨#[102, 105, 108, 116, 101, 114, 32, 48]⟩, ⟨#[102, 105, 108, 116, 101, 114, 32, 51]⟩, ⟨#[]⟩, ⟨#[104, 101, 108, 112]⟩, ⟨#[119, 97, 105, 116, 32, 120]⟩, Y] 9
        go_wp2_with fail
        refine (c_of _ _ _ _ [(⟨#[116, 97, 98, 108, 101]⟩ : ByteArray), ⟨#[99, 111, 117, 110, 116]⟩, ⟨#[119, 97, 105, 116, 32, 49, 48]⟩, ⟨#[119, 97, 105, 116, 32, 54, 48]⟩, ⟨#[102, 105, 108, 116, 101, 114, 32, 48]⟩, ⟨#[102, 105, 108, 116, 101, 114, 32, 51]⟩, ⟨#[]⟩, ⟨#[104, 101, 108, 112]⟩, ⟨#[119, 97, 105, 116, 32, 120]⟩, Y] _ (hr.alloc _) (by omega) hL10 (by simp) (by simp) (lit_far hr rfl)).mono ?_
        rintro e wg ⟨X, rfl, hX, hr, h⟩
        have zX : X.size ≤ 10000 := by
          simp only [List.mem_cons, List.not_mem_nil, or_false] at hX
          rcases hX with rfl | rfl | rfl | rfl | rfl | rfl | rfl | rfl | rfl | rfl
          all_goals first | exact zY | decide
        replace h2 := grown_trans (grown_alloc h2 _) h; replace ho := own_kept (World.ownsRow.alloc ho _) h hgb; clear h
        clear hX hL10
        have hhd := rd_lit wg [X] 9
        have hoA := World.ownsRow.alloc ho (.cells #[.string X] 9)
        have hszA := h2.size
        have hrA := hr.alloc (.cells #[.string X] 9)
        go_wp2_with (at_builtin; go_must (obtain ⟨i0, hi, hz0, hz1, hz2⟩ := info_parts str_info; refine wpList_append_rd _ rfl _ _ 23 rfl base 9 i0 _ 1 16 Tryz.underlying23 hi hz0 hz1 hz2 rfl (by omega) _ xs.length (xs.map Value.string) rfl hoA (some ⟨wg.heap.size, 0, none⟩) 1 1 [.string X] rfl hhd rfl (fun u hu => by simp at hu; subst hu; rfl) (by unfold maxLen; omega) (by omega) (by simp; omega) ?_; intro v1 w9 ho9 hg9 hat9; clear hi hz0 hz1 hz2 hat9))
        have hr9 := hrA.row hg9 (fun j hj => by have := (World.ownsRow.lt hoA j hj).1; omega)
        have h9 : w1.grownBy w9 (some g) := grown_weak (grown_alloc h2 _) hg9 (fun j hj => by have := (World.ownsRow.lt hoA j hj).1; omega)
        go_roundw
        case rel => exact ⟨k - 1, v1, xs ++ [X], _, by omega, by omega, by go_num, rfl, by simp; omega, by omega, hr9, by rw [List.length_append, List.map_append]; exact ho9, h9, fun y hy => by rcases List.mem_append.1 hy with h | h; exact hsm.out y h; simp at h; subst h; omega⟩
        case measure => simp [intOf]; omega
      have hc4 : t5 = 4 := by omega
      subst hc4
      go_wp2_with fail
      refine (c_pick _ _ 3 _ hr (by omega)).mono ?_
      rintro e wg ⟨t6, rfl, a6, b6, -, hr, h⟩
      have b6 := b6 (by omega)
      replace h2 := grown_trans h2 h; replace ho := own_kept ho h hgb; clear h
      have zz6 := dec_size (t6)
      go_wp2_with fail
      refine (c_dec (t6) _ (by omega) (by omega)).mono ?_
      obtain ⟨d6, hd6⟩ : ∃ x, dec ((t6)) = x := ⟨_, rfl⟩
      rw [hd6] at zz6 ⊢
      clear hd6
      rintro e wd6 ⟨rfl, hq⟩
      replace hr := hr.to hq; replace h2 := grown_trans h2 (grown_of_below hq (some g)); replace ho := own_to ho hq (Nat.le_refl _); clear hq
      have hsx6 : ¬ (9223372036854775807 < 7 + d6.size) := by omega
      obtain ⟨X, hX⟩ : ∃ x, (⟨#[102, 105, 108, 116, 101, 114, 32]⟩ : ByteArray) ++ d6 = x := ⟨_, rfl⟩
      have zX : X.size ≤ 10000 := by rw [← hX]; simp only [ByteArray.size_append]; show 7 + _ ≤ _; omega
      have hhd := rd_lit wd6 [X] 9
      have hoA := World.ownsRow.alloc ho (.cells #[.string X] 9)
      have hszA := h2.size
      have hrA := hr.alloc (.cells #[.string X] 9)
      go_wp2_with (at_builtin; go_must (obtain ⟨i0, hi, hz0, hz1, hz2⟩ := info_parts str_info; refine wpList_append_rd _ rfl _ _ 23 rfl base 9 i0 _ 1 16 Tryz.underlying23 hi hz0 hz1 hz2 rfl (by omega) _ xs.length (xs.map Value.string) rfl hoA (some ⟨wd6.heap.size, 0, none⟩) 1 1 [.string X] rfl hhd rfl (fun u hu => by simp at hu; subst hu; rfl) (by unfold maxLen; omega) (by omega) (by simp; omega) ?_; intro v1 w9 ho9 hg9 hat9; clear hi hz0 hz1 hz2 hat9))
      have hr9 := hrA.row hg9 (fun j hj => by have := (World.ownsRow.lt hoA j hj).1; omega)
      have h9 : w1.grownBy w9 (some g) := grown_weak (grown_alloc h2 _) hg9 (fun j hj => by have := (World.ownsRow.lt hoA j hj).1; omega)
      go_roundw
      case rel => exact ⟨k - 1, v1, xs ++ [X], _, by omega, by omega, by go_num, rfl, by simp; omega, by omega, hr9, by rw [List.length_append, List.map_append]; exact ho9, h9, fun y hy => by rcases List.mem_append.1 hy with h | h; exact hsm.out y h; simp at h; subst h; omega⟩
      case measure => simp [intOf]; omega
    · have e1 : decide ((0 : Int) < k) = false := by rw [decide_eq_false_iff_not]; exact hpos
      obtain ⟨q, hq⟩ : ∃ q, xs.length = q := ⟨_, rfl⟩
      rw [hq] at ho hxk
      have HQ := Lib.hid hq
      obtain ⟨A', c', rfl, hqc, hcm, hfr⟩ := own_slice ho
      have hb2 : Below w.heap.size w wr := HW.out.2.1.trans (below_of_grown h2 HW.out.2.1.size HW.out.1)
      have hbz := HW.out.2.1.size
      have HFR : Hid (Fr A' w.heap.size) := Lib.hid (fun a ha => by have := (hfr a ha).1; omega)
      clear hq hfr
      by_cases hq0 : q = 0
      · have eq0 : decide ((0 : Int) < (q : Int)) = false := by rw [decide_eq_false_iff_not]; omega
        have hR := Lib.hid (Rd.of_own ho)
        have eq1 : decide (0 < q) = false := by rw [decide_eq_false_iff_not]; omega
        have eq2 : ¬ (0 < q) := by omega
        have HQ0 := Lib.hid hq0
        clear hq0
        go_wp2
        go_ret
        first
        | exact ⟨A', q, c', xs, rfl, HQ.out, hqc, by have := HQ0.out; omega, hR.out, fun x hx => by have := hsm.out x hx; omega, HFR.out, hb2⟩
        | exact ⟨A', q, c', rfl, xs, HQ.out, hqc, by have := HQ0.out; omega, hR.out, fun x hx => by have := hsm.out x hx; omega, HFR.out, hb2⟩
        | exact ⟨A', q, c', rfl, hqc, by have := HQ0.out; omega, xs, HQ.out, hR.out, fun x hx => by have := hsm.out x hx; omega, HFR.out, hb2⟩
      have eq0 : decide ((0 : Int) < (q : Int)) = true := by rw [decide_eq_true_eq]; omega
      go_wp2_with fail
      refine (c_pick _ _ 5 _ hr (by omega)).mono ?_
      rintro e wa ⟨t1, rfl, a1, b1, -, hr, h⟩
      replace h2 := grown_trans h2 h; replace ho := own_kept ho h hgb; clear h
      by_cases ht : t1 = 0
      · subst ht
        go_wp2_with fail
        refine (c_pick _ _ (q : Int) _ hr (by omega)).mono ?_
        rintro e wb ⟨t2, rfl, a2, b2, -, hr, h⟩
        have b2 := b2 (by omega)
        replace h2 := grown_trans h2 h; replace ho := own_kept ho h hgb; clear h
        obtain ⟨j, rfl⟩ := Int.eq_ofNat_of_zero_le a2
        have hjq : j < q := by omega
        obtain ⟨x, hx, hxz⟩ : ∃ x, xs[j]? = some x ∧ x.size ≤ 10000 := by
          have hj' : j < xs.length := by rw [HQ.out]; exact hjq
          exact ⟨xs[j], List.getElem?_eq_getElem hj', hsm.out _ (List.getElem_mem hj')⟩
        obtain ⟨gg, cap, e9, hgb9, hgl9⟩ := World.ownsRow.form ho (by omega)
        injection e9 with e9 _ e10
        subst e9 e10
        have c0 : wb.cell? ⟨gg, j, none⟩ = some (.string x) := by rw [World.ownsRow.cellAt ho _ (by omega), List.getElem?_map, hx]; rfl
        have e5 : (0 : Int) ≤ (j : Int) ∧ (j : Int) < q := by omega
        go_wp2_with fail
        refine (c_mutate _ _ x _ hr (by omega) (by omega)).mono ?_
        rintro e wc ⟨y, p5, rfl, hy, hr, hp5, h⟩
        replace h2 := grown_trans h2 h; replace ho := own_kept ho h hgb; clear h
        have c1 : wc.cell? ⟨gg, j, none⟩ = some (.string x) := by rw [World.ownsRow.cellAt ho _ (by omega), List.getElem?_map, hx]; rfl
        have f1 := World.ownsRow.frozenAt ho j
        obtain ⟨st, gr⟩ := World.ownsRow.stored ho j (.string y)
        have hset : (xs.map Value.string).set j (.string y) = (xs.set j y).map Value.string := (List.map_set).symm
        rw [hset] at st
        have hR := Lib.hid (Rd.of_own st)
        have hb3 : Below w.heap.size w wc := HW.out.2.1.trans (below_of_grown h2 HW.out.2.1.size HW.out.1)
        have hb4 : Below w.heap.size w (wc.setCell ⟨gg, j, none⟩ (.string y)) := hb3.setCell (p := ⟨gg, j, none⟩) (by show _ ≤ gg; omega) _
        have hsz : ∀ z ∈ xs.set j y, z.size ≤ 100000 := fun z hz => by
          rcases List.mem_or_eq_of_mem_set hz with h | h
          · have := hsm.out z h; omega
          · subst h; omega
        have HSZ := Lib.hid hsz
        clear hsz st gr hset c0 hx
        go_wp2
        go_ret
        exact ⟨some ⟨gg, 0, none⟩, q, c', xs.set j y, rfl, by rw [List.length_set]; exact HQ.out, hqc, by omega, hR.out, HSZ.out, HFR.out, hb4⟩
      · have ht' : (t1 == 0) = false := by rw [beq_eq_false_iff_ne]; exact ht
        have hR := Lib.hid (Rd.of_own ho)
        have hb3 : Below w.heap.size w wa := HW.out.2.1.trans (below_of_grown h2 HW.out.2.1.size HW.out.1)
        go_wp2
        go_ret
        exact ⟨A', q, c', xs, rfl, HQ.out, hqc, by omega, hR.out, fun x hx => by have := hsm.out x hx; omega, HFR.out, hb3⟩
end Go.Proofs.YtjflfhjnbccpmaaGreatDoor
