/- Contracts of PortsAt, the program's and the reference's: the ports that somebody has at a time. -/
import Derived.Test.YtaceadddggkkmaaRT1
import Derived.Test.YtaceadddggkkmaaR5
import Derived.Test.YtaceadddggkkmaaRP2
import Derived.Test.YtaceadddggkkmaaC6
import Derived.Test.YtaceadddggkkmaaGen2
namespace Go.Proofs.Ytaceadddggkkmaa
open Go.RowKit

theorem c_RClip (A : Option Addr) (n c : Nat) (w : World) (hn : n ≤ c) (_ : c ≤ maxLen) : Calls Try.prog 75 #[.slice A n c] w fun e w' => e = .returned (.slice A n n) ∧ w = w' := by
  go_enter Try.func75, Try.ntmps75
  go_wp2
  go_ret
  exact ⟨by simp, rfl⟩
theorem ow_of_own {w : World} {base n c : Nat} {A : Option Addr} {zs : List Int} (h : w.ownsRow base 3 1 (.slice A n c) n (zs.map (Value.int .i64))) : OW w base w.heap.size A n n zs := by
  have hl : zs.length = n := by simpa using h.1
  refine ⟨(RI.ofOwn h).1, hl, Nat.le_refl _, ?_⟩
  rcases h.2 with ⟨_, h0⟩ | ⟨g, cap, cur, hv, hg, hh, hn, hm, hs, ht⟩
  · exact .inl h0
  · injection hv with hA
    exact .inr ⟨g, cur, hA, hg, (Array.getElem?_eq_some_iff.1 hh).1, hh, by omega⟩
theorem OW.low {w : World} {lo hi lo' n c : Nat} {A : Option Addr} {zs : List Int} (h : OW w lo hi A n c zs) (hl : lo' ≤ lo) : OW w lo' hi A n c zs := by
  obtain ⟨h1, h2, h3, h4⟩ := h
  refine ⟨h1, h2, h3, h4.imp id ?_⟩
  rintro ⟨g, cur, e, a, b⟩
  exact ⟨g, cur, e, Nat.le_trans hl a, b⟩

set_option maxHeartbeats 1600000 in
theorem c_iPortsAt (A : Option Addr) (n c : Nat) (l : List Rec) (now : Int) (w : World) (hn : l.length = n) (h : RR w A l) (hl : n ≤ 1099511627776) :
    Calls Try.prog 40 #[.slice A n c, .int .i64 now] w (NewW (ports l now) w) := by
  have HN := Lib.hid hn
  clear hn
  go_enter Try.func40, Try.ntmps40
  go_wp2_with fail
  refine (c_iValidRecords _ _ _ l _ HN.out h hl).mono ?_
  rintro e w1 ⟨rfl, B⟩
  cases hv : vRec l
  · have hp := ports_no hv now
    go_wp2
    go_ret
    rw [hp]
    exact ⟨none, 0, 0, rfl, rfl, ⟨RI.nil _ _, rfl, Nat.le_refl _, .inl rfl⟩, B⟩
  · have hpo : ∀ j, j < n → 0 ≤ (rn l j).po ∧ (rn l j).po ≤ 65535 := fun j hj => by
      have := (stat_iff.1 ((vRec_iff.1 hv).1 j (by rw [HN.out]; exact hj))).2.1
      omega
    have HPO := Lib.hid hpo
    have HF : Hid (allUp (fit l) (upTo l now) = true) := allUp_true (fun j hj => (vRec_iff.1 hv).2.1 j (by have := (upTo_spec l now).1; omega))
    have HV := Lib.hid hv
    clear hpo hv
    go_wp2_with fail
    refine (c_owners _ _ _ l now _ HN.out (h.to B) hl HPO.out).mono ?_
    rintro e w2 hq
    rcases hq with ⟨-, g, rfl, hg, hM, hb⟩ | ⟨hf, rfl, hb⟩
    · replace B := Bl.then B hb
      have hgl := hM.lt
      have hs2 := hb.size
      have hs1 := B.size
      obtain ⟨i0, hi, hz0, hz1, hz2⟩ := info_parts int_info
      go_wp2_with (at_range; refine wpList_range_OM rfl _ rfl rfl hM ?_; intro w3 cn hrg hg0 hs0)
      go_frame
      go_loopw [7] (fun v wr => ∃ (ss : List Int) (cnt : Nat), Hid (RGE wr g w2.heap.size l.length (fun p => ownP l p (upTo l now)) ss cnt) ∧ Hid (wr.ownsRow (w2.heap.size + 1) 3 1 v ss.length (ss.map (Value.int .i64))) ∧ Hid (Below w.heap.size w wr) ∧ Hid (w2.heap.size + 1 ≤ wr.heap.size)) (fun _ wr => wr.rangeLeft g w2.heap.size)
      case atStart => exact ⟨[], cn, hrg, ⟨rfl, .inl ⟨rfl, rfl⟩⟩, B.grown hg0 hs1 (fun j hj => by cases hj), Nat.le_of_eq hs0.symm⟩
      case round =>
        clear hrg hg0 hs0 hM
        obtain ⟨ss, cnt, Hrg, Ho, HB, HS⟩ := hrel
        have hrg := Hrg.out
        go_wp2_with (at_next; refine wpList_next_OM rfl _ rfl rfl hrg ?_ ?_)
        · intro hall
          obtain ⟨E, d, rfl, hd, hdm, -⟩ := own_slice Ho.out
          have hlen := hrg.len
          rw [HN.out] at hlen
          have hnd : ss.Nodup := by obtain ⟨_, _, _, _, h, _⟩ := hrg; exact h
          have HP := Lib.hid (ports_sorted HV.out hnd hall)
          clear hall hnd
          go_wp2_with fail
          refine (c_Sort _ _ ss _ Ho.out (by omega)).mono ?_
          rintro e w4 ⟨rfl, ho4, hg4⟩
          rw [HP.out] at ho4
          go_wp2_with fail
          refine (c_RClip _ _ _ _ hd hdm).mono ?_
          rintro e w5 ⟨rfl, rfl⟩
          go_wp2
          go_ret
          have hB := HB.out
          exact ⟨E, ss.length, ss.length, rfl, by rw [← HP.out, List.length_mergeSort], (ow_of_own ho4).low (by omega), hB.grown hg4 hB.size (fun j hj => by have := (Ho.out.lt _ hj).1; omega)⟩
        · intro x cc dd w4 cnt4 hrg4 hlt4 hg4 hs4 hen
          have hs5 : w2.heap.size + 1 ≤ w4.heap.size := Nat.le_trans HS.out hg4.size
          have hlen := hrg.len
          rw [HN.out] at hlen
          have ho4 := World.ownsRow.kept Ho.out hg4 (.inr (fun e => by have := (Ho.out.lt _ e).1; omega))
          have HB4 := Lib.hid (HB.out.grown hg4 HB.out.size (fun j hj => by cases hj; exact hs1))
          clear hs4 hg4
          go_wp2_with (at_builtin; refine wpList_append_rd _ rfl _ _ 56 rfl (w2.heap.size + 1) 3 i0 _ 1 8 Try.underlying56 hi hz0 hz1 hz2 rfl (by omega) _ ss.length (ss.map (Value.int .i64)) rfl (ho4.alloc _) (some ⟨w4.heap.size, 0, none⟩) 1 1 [.int .i64 x] rfl (lit_ints [x] rfl rfl) (by simp) (one_ints [x]) (by unfold maxLen; omega) (by omega) (by simp; omega) ?_; intro v1 w5 ho5 hg5 hat5; go_frame)
          have hrg5 := (hrg4.alloc (.cells #[.int .i64 x] 3)).kept hg5 (fun e => by have := (ho4.lt _ e.symm).1; omega) (fun e => by have := (ho4.lt _ e.symm).1; omega)
          have hB4 := HB4.out
          have hs6 := hg5.size
          simp only [World.size_alloc] at hs6
          go_roundw
          case rel => exact ⟨ss ++ [x], cnt4, hrg5, by simpa [Hid] using ho5, (hB4.alloc hB4.size _).grown hg5 (by have := hB4.size; simp; omega) (fun j hj => by have := (ho4.lt _ hj).1; omega), by show _ ≤ _; omega⟩
          case measure => rw [hrg5.left_eq, hrg.left_eq]; exact hlt4
    · exact absurd (HF.out.symm.trans hf) (by decide)

def pUp (l : List Rec) (now : Int) (k : Nat) : List Int := ((List.range k).map (fun k => (1000 : Int) + (k : Nat))).filter (fun p => (ownP l p (upTo l now)).isSome)
theorem pUp_succ (l : List Rec) (now : Int) (k : Nat) : pUp l now (k + 1) = pUp l now k ++ if hold l (1000 + k) (upTo l now) < 0 then [] else [(1000 : Int) + k] := by
  unfold pUp
  rw [List.range_succ, List.map_append, List.filter_append]
  congr 1
  by_cases h : hold l (1000 + k) (upTo l now) < 0
  · rw [if_pos h]
    simp [own_none_iff.2 h]
  · rw [if_neg h]
    cases ho : ownP l (1000 + (k : Nat)) (upTo l now) with
    | none => exact absurd (own_none_iff.1 ho) h
    | some x => simp [ho]
theorem pUp_len (l : List Rec) (now : Int) (k : Nat) : (pUp l now k).length ≤ k := by
  unfold pUp
  exact Nat.le_trans (List.length_filter_le _ _) (by simp)
theorem pUp_all {l : List Rec} (h : vRec l = true) (now : Int) : pUp l now 8 = ports l now := by
  unfold ports
  rw [h, if_pos rfl]; rfl

set_option maxHeartbeats 1600000 in
theorem c_sPortsAt (A : Option Addr) (n c : Nat) (l : List Rec) (now : Int) (w : World) (hn : l.length = n) (h : RR w A l) (hl : n ≤ 1099511627776) :
    Calls Try.prog 42 #[.slice A n c, .int .i64 now] w (NewW (ports l now) w) := by
  have HN := Lib.hid hn
  have B0 : Below w.heap.size w (w.alloc (.cells #[] 3)) := (Below.refl _ _).alloc (Nat.le_refl _) _
  have ho : (w.alloc (.cells #[] 3)).ownsRow w.heap.size 3 1 (.slice (some ⟨w.heap.size, 0, none⟩) 0 0) 0 [] := own_empty (Nat.le_refl _) rfl
  clear hn
  go_enter Try.func42, Try.ntmps42
  go_wp2_with fail
  refine (c_sValidRecords' _ _ _ l _ HN.out (h.to B0) hl).mono ?_
  rintro e w1 ⟨rfl, b⟩
  have B := Bl.then B0 b
  replace ho := own_to ho b (Nat.le_refl _)
  clear b
  cases hv : vRec l
  · have hp := ports_no hv now
    go_wp2
    go_ret
    rw [hp]
    exact ⟨none, 0, 0, rfl, rfl, ⟨RI.nil _ _, rfl, Nat.le_refl _, .inl rfl⟩, B⟩
  · have HV := Lib.hid hv
    have hub := (upTo_spec l now).1
    rw [HN.out] at hub
    clear hv
    obtain ⟨i0, hi, hz0, hz1, hz2⟩ := info_parts int_info
    go_wp2
    go_loopw [5, 6] (fun v i wr => ∃ k : Nat, k ≤ 8 ∧ i = .int .i64 ((1000 : Int) + k) ∧ Hid (wr.ownsRow w.heap.size 3 1 v (pUp l now k).length ((pUp l now k).map (Value.int .i64))) ∧ Hid (Below w.heap.size w wr)) (fun _ i _ => 1008 - (intOf i).toNat)
    case atStart => exact ⟨0, by omega, rfl, ho, B⟩
    case round =>
      clear ho B
      obtain ⟨k, hk, rfl, Ho, HB⟩ := hrel
      by_cases hk8 : k < 8
      · have t0 : decide ((1000 : Int) + k ≤ 1007) = true := by rw [decide_eq_true_eq]; omega
        have e1 : IntKind.i64.wrap ((1000 : Int) + k + 1) = 1000 + k + 1 := IntWalk.i64_in _ (by omega)
        have hR := h.to HB.out
        have hs := pUp_succ l now k
        have hle := pUp_len l now k
        go_wp2_with fail
        refine (c_upTo _ _ _ l now _ HN.out hR hl).mono ?_
        rintro e w' ⟨rfl, rfl⟩
        go_wp2_with fail
        refine (c_holder _ _ _ (upTo l now) l ((1000 : Int) + k) _ HN.out hR hl hub).mono ?_
        rintro e w' ⟨rfl, rfl⟩
        generalize hold l (1000 + k) (upTo l now) = hx at hs
        by_cases hh : hx < 0
        · have t1 : decide (0 ≤ hx) = false := by rw [decide_eq_false_iff_not]; omega
          rw [if_pos hh, List.append_nil] at hs
          have HS := Lib.hid hs
          clear hs hh
          go_wp2
          go_roundw
          case rel => exact ⟨k + 1, by omega, by first | rfl | (congr 1; done) | (congr 1; omega), by rw [HS.out]; exact Ho, HB⟩
          case measure => simp [intOf]; omega
        · have t1 : decide (0 ≤ hx) = true := by rw [decide_eq_true_eq]; omega
          rw [if_neg hh] at hs
          have HS := Lib.hid hs
          have ho := Ho.out
          have hB := HB.out
          have hsz := hB.size
          clear hs hh
          generalize pUp l now k = zs at HS ho hle
          go_wp2_with (at_builtin; refine wpList_append_rd _ rfl _ _ 56 rfl w.heap.size 3 i0 _ 1 8 Try.underlying56 hi hz0 hz1 hz2 rfl (by omega) _ zs.length (zs.map (Value.int .i64)) rfl (ho.alloc _) (some ⟨wr.heap.size, 0, none⟩) 1 1 [.int .i64 ((1000 : Int) + k)] rfl (lit_ints [(1000 : Int) + k] rfl rfl) (by simp) (one_ints [(1000 : Int) + k]) (by unfold maxLen; omega) (by omega) (by simp; omega) ?_; intro v1 w5 ho5 hg5 hat5)
          have hB5 := (hB.alloc hB.size (.cells #[.int .i64 ((1000 : Int) + k)] 3)).grown hg5 (by simp; omega) (fun j hj => (ho.lt _ hj).1)
          go_roundw
          case rel => exact ⟨k + 1, by omega, by first | rfl | (congr 1; done) | (congr 1; omega), by rw [HS.out]; simpa [Hid] using ho5, hB5⟩
          case measure => simp [intOf]; omega
      · obtain rfl : k = 8 := by omega
        obtain ⟨E, d, rfl, hd, hdm, -⟩ := own_slice Ho.out
        go_wp2
        go_ret
        have hp := pUp_all HV.out now
        have ho := Ho.out
        rw [hp] at ho
        refine ⟨E, _, d, rfl, by rw [hp], ?_, HB.out⟩
        rw [hp]
        exact (OV.blk ho (Nat.le_refl _)).ow
end Go.Proofs.Ytaceadddggkkmaa
