/- The walk of the law FnWhoHadEnd. -/
import Derived.Test.YtaceadddggkkmaaRL3
import Derived.BigQuiet
namespace Go.Proofs.Ytaceadddggkkmaa
open Go.RowKit

set_option maxHeartbeats 1600000 in
theorem l_FnWhoHadEnd (A : Option Addr) (n c : Nat) (w : World) (h : RB w A n) (hc : n ≤ c) :
    Calls Try.prog 7 #[.slice A n c] w fun e w' => e = .returned (.bool true) ∧ Below w.heap.size w w' := by
  by_cases hbig : 1048576 < n
  · go_enter Try.func7, Try.ntmps7
    go_wp2
    go_ret
    exact ⟨rfl, Below.refl _ _⟩
  have hneq := neq_end
  have heql := eql_end
  have hgd := guard_end
  go_enter Try.func7, Try.ntmps7
  go_wp2_with fail
  refine (c_DrawWhoHad _ _ _ _ h hc).mono ?_
  rintro e w1 ⟨D, m, d, l, po, now, rfl, hl, hd, hR, hm, hp, ht, B⟩
  have HL := Lib.hid hl
  clear hl h
  obtain ⟨x, y, t, HX⟩ := whoV_ex (who l po now)
  go_wp2_with fail
  refine (c_iWhoHad _ _ _ l po now _ HL.out hR (by omega) (by omega) (by omega)).mono ?_
  rw [HX.out]
  rintro e w2 ⟨rfl, b⟩
  have k1 := Blk.new w2 27 #[.int .i64 x, .int .i64 y]
  replace hR := (hR.to b).alloc (.cells #[.int .i64 x, .int .i64 y] 27)
  replace B : Below w.heap.size w (w2.alloc (.cells #[.int .i64 x, .int .i64 y] 27)) := (Bl.then B b).alloc (Bl.then B b).size _
  clear b
  go_wp2_with fail
  refine (c_sWhoHad _ _ _ l po now _ HL.out hR (by omega)).mono ?_
  rw [HX.out]
  rintro e w3 ⟨rfl, b⟩
  have k2 := Blk.new w3 27 #[.int .i64 x, .int .i64 y]
  replace k1 := (k1.to b).alloc (.cells #[.int .i64 x, .int .i64 y] 27)
  replace hR := (hR.to b).alloc (.cells #[.int .i64 x, .int .i64 y] 27)
  replace B : Below w.heap.size w (w3.alloc (.cells #[.int .i64 x, .int .i64 y] 27)) := (Bl.then B b).alloc (Bl.then B b).size _
  clear b
  have he : eqE x y x y = true := eqE_true ⟨rfl, rfl⟩
  have tt : (t != t) = false := by simp
  have y0 := k1.cell 0
  have y1 := k1.cell 1
  have z0 := k2.cell 0
  have z1 := k2.cell 1
  simp only [List.getElem?_toArray, List.getElem?_cons_zero, List.getElem?_cons_succ] at y0 y1 z0 z1
  go_wp2_with fail
  refine (c_iValidRecords _ _ _ l _ HL.out hR (by omega)).mono ?_
  rintro e w4 ⟨rfl, b⟩
  replace k1 := k1.to b
  replace k2 := k2.to b
  replace hR := hR.to b
  replace B := Bl.then B b
  clear b y0 y1 z0 z1
  have y0 := k1.cell 0
  have y1 := k1.cell 1
  have z0 := k2.cell 0
  have z1 := k2.cell 1
  simp only [List.getElem?_toArray, List.getElem?_cons_zero, List.getElem?_cons_succ] at y0 y1 z0 z1
  cases hv : vRec l
  · clear hv
    go_wp2
    go_ret
    exact ⟨ret_bool (by simp), B⟩
  have HV := Lib.hid hv
  clear hv
  clear tt y0 y1 z0 z1 k2 k1 he HX
  go_wp2
  go_loopw [10] (fun i wr => ∃ k : Nat, k ≤ m ∧ i = .int .i64 k ∧ Hid (RR wr D l) ∧ Hid (Below w.heap.size w wr)) (fun i _ => m - (intOf i).toNat)
  case atStart => exact ⟨0, Nat.zero_le _, rfl, hR, B⟩
  case round =>
    clear hR B
    obtain ⟨k, hk, rfl, hR, hB⟩ := hrel
    by_cases hlt : k < m
    · have hkl : Hid (k < l.length) := Lib.hid (by rw [HL.out]; exact hlt)
      obtain ⟨b0, off, rfl, hb0, -⟩ := hR.out.get hkl.out
      have hend := who_end HV.out hkl.out
      have hst := (stat_iff.1 ((vRec_iff.1 HV.out).1 k hkl.out)).2.1
      obtain ⟨r, hrr⟩ : ∃ r, Hid (rn l k = r) := ⟨_, rfl⟩
      rw [hrr.out] at hend hst
      obtain ⟨x1, y1', t1, HY, HF⟩ : ∃ x y t, Hid (whoV (who (l.take (k + 1)) r.po 10000) = .tuple #[.agg #[.int .i64 x, .int .i64 y], .bool t]) ∧ Hid (t = !r.ov ∧ (t = true → x = r.ad ∧ y = r.ep)) := by
        refine ⟨_, _, _, whoV_form _, ?_⟩
        rw [hend]
        cases r.ov
        · exact ⟨rfl, fun _ => ⟨rfl, rfl⟩⟩
        · exact ⟨rfl, fun h => by cases h⟩
      clear hend
      have e1 : IntKind.i64.wrap ((k : Int) + 1) = k + 1 := IntWalk.i64_in _ (by omega)
      have e2 : 0 ≤ (k : Int) + 1 ∧ (k : Int) + 1 ≤ d := by omega
      have k1 : RR wr.drew (some ⟨b0, off, none⟩) l := hR.out
      replace hB : Below w.heap.size w wr.drew := Bl.drewN hB.out 1
      replace hb0 : b0 < wr.drew.heap.size := hb0
      clear hR
      go_wp2_with fail
      refine wp_region_held_drew (S := (fun w' => w'.cell? ⟨b0, off + k * 5 + 1, none⟩ = some (.int .i64 r.po))) (by kernel_rfl) ?_ (fun hHeld => ?_)
      · (try dsimp only); have a := RR.c5 k1 hkl.out; rw [hrr.out] at a; exact a.2.1
      generalize World.drew wr = w5 at *; have b3 : Below w5.heap.size w5 w5 := Below.refl _ _
      refine wpAnyH_take (i := 0) (v := ?_) (arr_at rfl) (by kernel_rfl) (by kernel_rfl) (by kernel_rfl) (fun _ _ _ h => h) ?_ (by assumption) ?_
      rotate_left
      · first
        | (refine Or.inr ⟨by rfl, ?_⟩; with_reducible rfl)
        | (refine Or.inl ⟨by rfl, ?_⟩; intro w hSw; (try dsimp only at hSw); go_simp; done)
        | (refine Or.inl ⟨by rfl, ?_⟩; intro w hSw; (try dsimp only at hSw); go_simp; with_reducible rfl)
      try simp only [Act.put, List.setIfInBounds_toArray, List.set_cons_zero, List.set_cons_succ]
      refine wpAnyH_take (i := 1) (v := ?_) (arr_at rfl) (by kernel_rfl) (by kernel_rfl) (by kernel_rfl) (fun _ _ _ h => h) ?_ (by assumption) ?_
      rotate_left
      · first
        | (refine Or.inr ⟨by rfl, ?_⟩; with_reducible rfl)
        | (refine Or.inl ⟨by rfl, ?_⟩; intro w hSw; (try dsimp only at hSw); go_simp; done)
        | (refine Or.inl ⟨by rfl, ?_⟩; intro w hSw; (try dsimp only at hSw); go_simp; with_reducible rfl)
      try simp only [Act.put, List.setIfInBounds_toArray, List.set_cons_zero, List.set_cons_succ]
      refine wpAnyH_take (i := 2) (v := ?_) (arr_at rfl) (by kernel_rfl) (by kernel_rfl) (by kernel_rfl) (fun _ _ _ h => h) ?_ (by assumption) ?_
      rotate_left
      · first
        | (refine Or.inr ⟨by rfl, ?_⟩; with_reducible rfl)
        | (refine Or.inl ⟨by rfl, ?_⟩; intro w hSw; (try dsimp only at hSw); go_simp; done)
        | (refine Or.inl ⟨by rfl, ?_⟩; intro w hSw; (try dsimp only at hSw); go_simp; with_reducible rfl)
      try simp only [Act.put, List.setIfInBounds_toArray, List.set_cons_zero, List.set_cons_succ]
      refine wpAnyH_take (i := 3) (v := ?_) (arr_at rfl) (by kernel_rfl) (by kernel_rfl) (by kernel_rfl) (fun _ _ _ h => h) ?_ (by assumption) ?_
      rotate_left
      · first
        | (refine Or.inr ⟨by rfl, ?_⟩; with_reducible rfl)
        | (refine Or.inl ⟨by rfl, ?_⟩; intro w hSw; (try dsimp only at hSw); go_simp; done)
        | (refine Or.inl ⟨by rfl, ?_⟩; intro w hSw; (try dsimp only at hSw); go_simp; with_reducible rfl)
      try simp only [Act.put, List.setIfInBounds_toArray, List.set_cons_zero, List.set_cons_succ]
      refine wpAnyH_take (i := 4) (v := ?_) (arr_at rfl) (by kernel_rfl) (by kernel_rfl) (by kernel_rfl) (fun _ _ _ h => h) ?_ (by assumption) ?_
      rotate_left
      · first
        | (refine Or.inr ⟨by rfl, ?_⟩; with_reducible rfl)
        | (refine Or.inl ⟨by rfl, ?_⟩; intro w hSw; (try dsimp only at hSw); go_simp; done)
        | (refine Or.inl ⟨by rfl, ?_⟩; intro w hSw; (try dsimp only at hSw); go_simp; with_reducible rfl)
      try simp only [Act.put, List.setIfInBounds_toArray, List.set_cons_zero, List.set_cons_succ]
      refine wpAnyH_take (i := 5) (v := ?_) (arr_at rfl) (by kernel_rfl) (by kernel_rfl) (by kernel_rfl) (fun _ _ _ h => h) ?_ (by assumption) ?_
      rotate_left
      · first
        | (refine Or.inr ⟨by rfl, ?_⟩; with_reducible rfl)
        | (refine Or.inl ⟨by rfl, ?_⟩; intro w hSw; (try dsimp only at hSw); go_simp; done)
        | (refine Or.inl ⟨by rfl, ?_⟩; intro w hSw; (try dsimp only at hSw); go_simp; with_reducible rfl)
      try simp only [Act.put, List.setIfInBounds_toArray, List.set_cons_zero, List.set_cons_succ]
      refine wpAnyH_take (i := 6) (v := ?_) (arr_at rfl) (by kernel_rfl) (by kernel_rfl) (by kernel_rfl) (fun _ _ _ h => h) ?_ (by assumption) ?_
      rotate_left
      · first
        | (refine Or.inr ⟨by rfl, ?_⟩; with_reducible rfl)
        | (refine Or.inl ⟨by rfl, ?_⟩; intro w hSw; (try dsimp only at hSw); go_simp; done)
        | (refine Or.inl ⟨by rfl, ?_⟩; intro w hSw; (try dsimp only at hSw); go_simp; with_reducible rfl)
      try simp only [Act.put, List.setIfInBounds_toArray, List.set_cons_zero, List.set_cons_succ]
      refine wpAnyH_take (i := 7) (v := ?_) (arr_at rfl) (by kernel_rfl) (by kernel_rfl) (by kernel_rfl) (fun _ _ _ h => h) ?_ (by assumption) ?_
      rotate_left
      · first
        | (refine Or.inr ⟨by rfl, ?_⟩; with_reducible rfl)
        | (refine Or.inl ⟨by rfl, ?_⟩; intro w hSw; (try dsimp only at hSw); go_simp; done)
        | (refine Or.inl ⟨by rfl, ?_⟩; intro w hSw; (try dsimp only at hSw); go_simp; with_reducible rfl)
      try simp only [Act.put, List.setIfInBounds_toArray, List.set_cons_zero, List.set_cons_succ]
      refine wpAnyH_take (i := 8) (v := ?_) (arr_at rfl) (by kernel_rfl) (by kernel_rfl) (by kernel_rfl) (fun _ _ _ h => h) ?_ (by assumption) ?_
      rotate_left
      · first
        | (refine Or.inr ⟨by rfl, ?_⟩; with_reducible rfl)
        | (refine Or.inl ⟨by rfl, ?_⟩; intro w hSw; (try dsimp only at hSw); go_simp; done)
        | (refine Or.inl ⟨by rfl, ?_⟩; intro w hSw; (try dsimp only at hSw); go_simp; with_reducible rfl)
      try simp only [Act.put, List.setIfInBounds_toArray, List.set_cons_zero, List.set_cons_succ]
      refine wpAnyH_ready (rs := [9, 13]) (by kernel_rfl) (by simp) ?_
      refine AllReadyH.cons (arr_at rfl) (fun K hK => ?_) (AllReadyH.cons (arr_at rfl) (fun K hK => ?_) AllReadyH.nil)
      · go_simp
        go_at_call 25; refine (c_iWhoHad _ _ _ (l.take (k + 1)) r.po 10000 _ (by rw [List.length_take, HL.out]; omega) (RR.take k1 _) (by omega) (by omega) (by omega)).mono ?_; rw [HY.out]; rintro e w6 ⟨rfl, hq⟩; replace k1 := RR.to k1 hq; replace b3 := b3.trans (hq.mono b3.size)
        refine hK.out _ _ ?_ (fun hHeld => ?_)
        · (try dsimp only); have a := RR.c5 k1 hkl.out; rw [hrr.out] at a; exact a.2.1
        clear hK K
        try simp only [Act.put, List.setIfInBounds_toArray, List.set_cons_zero, List.set_cons_succ]
        refine wpAnyH_take (i := 10) (v := ?_) (arr_at rfl) (by kernel_rfl) (by kernel_rfl) (by kernel_rfl) (fun _ _ _ h => h) ?_ (by assumption) ?_
        rotate_left
        · first
          | (refine Or.inr ⟨by rfl, ?_⟩; with_reducible rfl)
          | (refine Or.inl ⟨by rfl, ?_⟩; intro w hSw; (try dsimp only at hSw); go_simp; done)
          | (refine Or.inl ⟨by rfl, ?_⟩; intro w hSw; (try dsimp only at hSw); go_simp; with_reducible rfl)
        try simp only [Act.put, List.setIfInBounds_toArray, List.set_cons_zero, List.set_cons_succ]
        refine wpAnyH_take (i := 11) (v := ?_) (arr_at rfl) (by kernel_rfl) (by kernel_rfl) (by kernel_rfl) (fun _ _ _ h => h) ?_ (by assumption) ?_
        rotate_left
        · first
          | (refine Or.inr ⟨by rfl, ?_⟩; with_reducible rfl)
          | (refine Or.inl ⟨by rfl, ?_⟩; intro w hSw; (try dsimp only at hSw); go_simp; done)
          | (refine Or.inl ⟨by rfl, ?_⟩; intro w hSw; (try dsimp only at hSw); go_simp; with_reducible rfl)
        try simp only [Act.put, List.setIfInBounds_toArray, List.set_cons_zero, List.set_cons_succ]
        refine wpAnyH_take (i := 12) (v := ?_) (arr_at rfl) (by kernel_rfl) (by kernel_rfl) (by kernel_rfl) (fun _ _ _ h => h) ?_ (by assumption) ?_
        rotate_left
        · first
          | (refine Or.inr ⟨by rfl, ?_⟩; with_reducible rfl)
          | (refine Or.inl ⟨by rfl, ?_⟩; intro w hSw; (try dsimp only at hSw); go_simp; done)
          | (refine Or.inl ⟨by rfl, ?_⟩; intro w hSw; (try dsimp only at hSw); go_simp; with_reducible rfl)
        try simp only [Act.put, List.setIfInBounds_toArray, List.set_cons_zero, List.set_cons_succ]
        refine wpAnyH_ready (rs := [13]) (by kernel_rfl) (by simp) ?_
        refine AllReadyH.cons (arr_at rfl) (fun K hK => ?_) AllReadyH.nil
        go_simp
        have bq := b3; have kq := k1; replace b3 : Below w5.heap.size w5 (w6.alloc (.cells #[.int .i64 0, .int .i64 0] 27)) := b3.alloc b3.size _; replace k1 := RR.alloc k1 (.cells #[.int .i64 0, .int .i64 0] 27); have kx := Blk.new w6 27 #[.int .i64 0, .int .i64 0]; clear hq; have y0 := kx.cell 0; have y1 := kx.cell 1; simp only [List.getElem?_toArray, List.getElem?_cons_zero, List.getElem?_cons_succ] at y0 y1; have f0 := kx.frozen 0; have f1 := kx.frozen 1
        refine hK.out _ _ ?_ (fun hHeld => ?_)
        · (try dsimp only); have a := RR.c5 k1 hkl.out; rw [hrr.out] at a; exact a.2.1
        clear hK K
        try simp only [Act.put, List.setIfInBounds_toArray, List.set_cons_zero, List.set_cons_succ]
        refine wpAnyH_ready (rs := [14]) (by kernel_rfl) (by simp) ?_
        refine AllReadyH.cons (arr_at rfl) (fun K hK => ?_) AllReadyH.nil
        go_simp
        replace b3 : Below w5.heap.size w5 (w6.alloc (.cells #[.int .i64 x1, .int .i64 y1'] 27)) := bq.alloc bq.size _; replace k1 : RR (w6.alloc (.cells #[.int .i64 x1, .int .i64 y1'] 27)) (some ⟨b0, off, none⟩) l := RR.alloc kq (.cells #[.int .i64 x1, .int .i64 y1'] 27); replace kx : Blk (w6.alloc (.cells #[.int .i64 x1, .int .i64 y1'] 27)) w6.heap.size 27 #[.int .i64 x1, .int .i64 y1'] := Blk.new w6 27 _; clear bq kq y0 y1 f0 f1; generalize w6.alloc (.cells #[.int .i64 x1, .int .i64 y1'] 27) = w7 at *; generalize w6.heap.size = q at kx ⊢
        refine hK.out _ _ ?_ (fun hHeld => ?_)
        · (try dsimp only); have a := RR.c5 k1 hkl.out; rw [hrr.out] at a; exact a.2.1
        clear hK K
        try simp only [Act.put, List.setIfInBounds_toArray, List.set_cons_zero, List.set_cons_succ]
        refine wpAnyH_take (i := 15) (v := ?_) (arr_at rfl) (by kernel_rfl) (by kernel_rfl) (by kernel_rfl) (fun _ _ _ h => h) ?_ (by assumption) ?_
        rotate_left
        · first
          | (refine Or.inr ⟨by rfl, ?_⟩; with_reducible rfl)
          | (refine Or.inl ⟨by rfl, ?_⟩; intro w hSw; (try dsimp only at hSw); go_simp; done)
          | (refine Or.inl ⟨by rfl, ?_⟩; intro w hSw; (try dsimp only at hSw); go_simp; with_reducible rfl)
        try simp only [Act.put, List.setIfInBounds_toArray, List.set_cons_zero, List.set_cons_succ]
        refine wpAnyH_done (by kernel_rfl) ?_ _
        replace B := Bl.then hB b3
        have C5 := RR.c5 k1 hkl.out
        rw [hrr.out] at C5
        obtain ⟨c0, c1, c2, c3, c4⟩ := C5
        have y0 := kx.cell 0
        have y1 := kx.cell 1
        simp only [List.getElem?_toArray, List.getElem?_cons_zero, List.getElem?_cons_succ] at y0 y1
        obtain ⟨hF1, hF2⟩ := HF.out
        have hB2 := Lib.hid B
        have k2 := Lib.hid k1
        clear hB b3 kx k1 B c0
        cases t1
        · have ho : r.ov = true := by revert hF1; cases r.ov <;> decide
          rw [ho] at c4
          clear hF1 hF2
          go_wp2
          go_quiet (fail)
          go_wp2
          go_roundw
          case rel => exact ⟨k + 1, by omega, by go_num, Rd.drewN k2.out _, Bl.drewN hB2.out _⟩
          case measure => simp [intOf]; omega
        · have ho : r.ov = false := by revert hF1; cases r.ov <;> decide
          rw [ho] at c4
          obtain ⟨rfl, rfl⟩ := hF2 rfl
          clear hF1 hF2
          have he : eqE r.ad r.ep r.ad r.ep = true := eqE_true ⟨rfl, rfl⟩
          go_wp2
          go_quiet (fail)
          go_wp2
          go_roundw
          case rel => exact ⟨k + 1, by omega, by go_num, Rd.drewN k2.out _, Bl.drewN hB2.out _⟩
          case measure => simp [intOf]; omega
      · go_simp
        replace b3 : Below w5.heap.size w5 (w5.alloc (.cells #[.int .i64 0, .int .i64 0] 27)) := b3.alloc b3.size _; replace k1 := RR.alloc k1 (.cells #[.int .i64 0, .int .i64 0] 27); have kx := Blk.new w5 27 #[.int .i64 0, .int .i64 0]
        refine hK.out _ _ ?_ (fun hHeld => ?_)
        · (try dsimp only); have a := RR.c5 k1 hkl.out; rw [hrr.out] at a; exact a.2.1
        clear hK K
        try simp only [Act.put, List.setIfInBounds_toArray, List.set_cons_zero, List.set_cons_succ]
        refine wpAnyH_ready (rs := [9]) (by kernel_rfl) (by simp) ?_
        refine AllReadyH.cons (arr_at rfl) (fun K hK => ?_) AllReadyH.nil
        go_simp
        go_at_call 25; refine (c_iWhoHad _ _ _ (l.take (k + 1)) r.po 10000 _ (by rw [List.length_take, HL.out]; omega) (RR.take k1 _) (by omega) (by omega) (by omega)).mono ?_; rw [HY.out]; rintro e w6 ⟨rfl, hq⟩; replace k1 := RR.to k1 hq; replace b3 := b3.trans (hq.mono b3.size); replace kx := kx.to hq; clear hq; have y0 := kx.cell 0; have y1 := kx.cell 1; simp only [List.getElem?_toArray, List.getElem?_cons_zero, List.getElem?_cons_succ] at y0 y1; have f0 := kx.frozen 0; have f1 := kx.frozen 1
        refine hK.out _ _ ?_ (fun hHeld => ?_)
        · (try dsimp only); have a := RR.c5 k1 hkl.out; rw [hrr.out] at a; exact a.2.1
        clear hK K
        try simp only [Act.put, List.setIfInBounds_toArray, List.set_cons_zero, List.set_cons_succ]
        refine wpAnyH_take (i := 10) (v := ?_) (arr_at rfl) (by kernel_rfl) (by kernel_rfl) (by kernel_rfl) (fun _ _ _ h => h) ?_ (by assumption) ?_
        rotate_left
        · first
          | (refine Or.inr ⟨by rfl, ?_⟩; with_reducible rfl)
          | (refine Or.inl ⟨by rfl, ?_⟩; intro w hSw; (try dsimp only at hSw); go_simp; done)
          | (refine Or.inl ⟨by rfl, ?_⟩; intro w hSw; (try dsimp only at hSw); go_simp; with_reducible rfl)
        try simp only [Act.put, List.setIfInBounds_toArray, List.set_cons_zero, List.set_cons_succ]
        refine wpAnyH_take (i := 11) (v := ?_) (arr_at rfl) (by kernel_rfl) (by kernel_rfl) (by kernel_rfl) (fun _ _ _ h => h) ?_ (by assumption) ?_
        rotate_left
        · first
          | (refine Or.inr ⟨by rfl, ?_⟩; with_reducible rfl)
          | (refine Or.inl ⟨by rfl, ?_⟩; intro w hSw; (try dsimp only at hSw); go_simp; done)
          | (refine Or.inl ⟨by rfl, ?_⟩; intro w hSw; (try dsimp only at hSw); go_simp; with_reducible rfl)
        try simp only [Act.put, List.setIfInBounds_toArray, List.set_cons_zero, List.set_cons_succ]
        refine wpAnyH_take (i := 12) (v := ?_) (arr_at rfl) (by kernel_rfl) (by kernel_rfl) (by kernel_rfl) (fun _ _ _ h => h) ?_ (by assumption) ?_
        rotate_left
        · first
          | (refine Or.inr ⟨by rfl, ?_⟩; with_reducible rfl)
          | (refine Or.inl ⟨by rfl, ?_⟩; intro w hSw; (try dsimp only at hSw); go_simp; done)
          | (refine Or.inl ⟨by rfl, ?_⟩; intro w hSw; (try dsimp only at hSw); go_simp; with_reducible rfl)
        try simp only [Act.put, List.setIfInBounds_toArray, List.set_cons_zero, List.set_cons_succ]
        refine wpAnyH_ready (rs := [14]) (by kernel_rfl) (by simp) ?_
        refine AllReadyH.cons (arr_at rfl) (fun K hK => ?_) AllReadyH.nil
        go_simp
        generalize hw7 : World.setCell (World.setCell w6 ⟨w5.heap.size, 0, none⟩ (.int .i64 x1)) ⟨w5.heap.size, 1, none⟩ (.int .i64 y1') = w7; replace kx : Blk w7 w5.heap.size 27 #[.int .i64 x1, .int .i64 y1'] := (by rw [← hw7]; exact (kx.set_ 0 _).set_ 1 _); replace k1 : RR w7 (some ⟨b0, off, none⟩) l := (by rw [← hw7]; exact RR.grown (RR.grown k1 (grown_put _ _ _) (fun a ha => by cases ha; show b0 ≠ _; omega)) (grown_put _ _ _) (fun a ha => by cases ha; show b0 ≠ _; omega)); replace b3 : Below w5.heap.size w5 w7 := (by rw [← hw7]; exact (b3.setCell (Nat.le_refl _) _).setCell (Nat.le_refl _) _); clear hw7 y0 y1 f0 f1; generalize w5.heap.size = q at kx ⊢
        refine hK.out _ _ ?_ (fun hHeld => ?_)
        · (try dsimp only); have a := RR.c5 k1 hkl.out; rw [hrr.out] at a; exact a.2.1
        clear hK K
        try simp only [Act.put, List.setIfInBounds_toArray, List.set_cons_zero, List.set_cons_succ]
        refine wpAnyH_take (i := 15) (v := ?_) (arr_at rfl) (by kernel_rfl) (by kernel_rfl) (by kernel_rfl) (fun _ _ _ h => h) ?_ (by assumption) ?_
        rotate_left
        · first
          | (refine Or.inr ⟨by rfl, ?_⟩; with_reducible rfl)
          | (refine Or.inl ⟨by rfl, ?_⟩; intro w hSw; (try dsimp only at hSw); go_simp; done)
          | (refine Or.inl ⟨by rfl, ?_⟩; intro w hSw; (try dsimp only at hSw); go_simp; with_reducible rfl)
        try simp only [Act.put, List.setIfInBounds_toArray, List.set_cons_zero, List.set_cons_succ]
        refine wpAnyH_done (by kernel_rfl) ?_ _
        replace B := Bl.then hB b3
        have C5 := RR.c5 k1 hkl.out
        rw [hrr.out] at C5
        obtain ⟨c0, c1, c2, c3, c4⟩ := C5
        have y0 := kx.cell 0
        have y1 := kx.cell 1
        simp only [List.getElem?_toArray, List.getElem?_cons_zero, List.getElem?_cons_succ] at y0 y1
        obtain ⟨hF1, hF2⟩ := HF.out
        have hB2 := Lib.hid B
        have k2 := Lib.hid k1
        clear hB b3 kx k1 B c0
        cases t1
        · have ho : r.ov = true := by revert hF1; cases r.ov <;> decide
          rw [ho] at c4
          clear hF1 hF2
          go_wp2
          go_quiet (fail)
          go_wp2
          go_roundw
          case rel => exact ⟨k + 1, by omega, by go_num, Rd.drewN k2.out _, Bl.drewN hB2.out _⟩
          case measure => simp [intOf]; omega
        · have ho : r.ov = false := by revert hF1; cases r.ov <;> decide
          rw [ho] at c4
          obtain ⟨rfl, rfl⟩ := hF2 rfl
          clear hF1 hF2
          have he : eqE r.ad r.ep r.ad r.ep = true := eqE_true ⟨rfl, rfl⟩
          go_wp2
          go_quiet (fail)
          go_wp2
          go_roundw
          case rel => exact ⟨k + 1, by omega, by go_num, Rd.drewN k2.out _, Bl.drewN hB2.out _⟩
          case measure => simp [intOf]; omega
    · obtain rfl : k = m := by omega
      go_wp2
      go_ret
      exact ⟨rfl, hB.out⟩
end Go.Proofs.Ytaceadddggkkmaa
