/- Contract of RecordsBetween, the reference's. -/
import Derived.Test.YtaceadddggkkmaaT5
namespace Go.Proofs.Ytaceadddggkkmaa
open Go.RowKit

set_option maxRecDepth 100000 in
set_option maxHeartbeats 6400000 in
theorem c_sBetween (A B : Option Addr) (n m c d : Nat) (a b : List Mpg) (now : Int) (w : World) (hn : a.length = n) (hm : b.length = m) (hA : TM w A a) (hB : TM w B b) (hl : n ≤ 1099511627776) (hl2 : m ≤ 1099511627776) :
    Calls Try.prog 31 #[.slice A n c, .slice B m d, .int .i64 now] w (NewR (between a b now) w) := by
  have HNa := Lib.hid hn
  have HNb := Lib.hid hm
  have HA : Hid (∀ W, Below w.heap.size w W → TM W A a) := fun W b => hA.to b
  have HB : Hid (∀ W, Below w.heap.size w W → TM W B b) := fun W b => hB.to b
  have ho : RO (w.alloc (.cells #[] 29)) w.heap.size (.slice (some ⟨w.heap.size, 0, none⟩) 0 0) [] := RO.empty (Nat.le_refl _) rfl
  have B0 : Below w.heap.size w (w.alloc (.cells #[] 29)) := (Below.refl _ _).alloc (Nat.le_refl _) _
  have hneq := neq_end
  have hgd := guard_end
  clear hn hm hA hB
  go_enter Try.func31, Try.ntmps31
  go_wp2_with fail
  refine (c_sValidTable _ _ _ a _ HNa.out (HA.out _ B0) hl).mono ?_
  rintro e w1 ⟨rfl, hq⟩
  replace B0 := Bl.then B0 hq
  replace ho := ho.to hq
  clear hq
  cases h1 : vTab a
  · have H1 := Lib.hid h1
    clear h1
    go_wp2
    go_ret
    exact NewR.nil (between_bad1 H1.out) B0
  have H2a := Lib.hid h1
  clear h1
  go_wp2_with fail
  refine (c_sValidTable _ _ _ b _ HNb.out (HB.out _ B0) hl2).mono ?_
  rintro e w2 ⟨rfl, hq⟩
  replace B0 := Bl.then B0 hq
  replace ho := ho.to hq
  clear hq
  cases h2 : vTab b
  · have H2 := Lib.hid h2
    clear h2
    go_wp2
    go_ret
    exact NewR.nil (between_bad2 H2.out) B0
  have H2b := Lib.hid h2
  clear h2
  go_wp2_with fail
  refine (c_inRange _ _ _ _).mono ?_
  rintro e w' ⟨rfl, rfl⟩
  cases h3 : inB now 0 10000
  · have H3 := Lib.hid h3
    clear h3
    go_wp2
    go_ret
    exact NewR.nil (between_bad3 H3.out) B0
  have H3 := Lib.hid h3
  clear h3
  have n8 : n ≤ 8 := by rw [← HNa.out]; exact (vTab_iff.1 H2a.out).2
  have m8 : m ≤ 8 := by rw [← HNb.out]; exact (vTab_iff.1 H2b.out).2
  go_wp2
  go_loopw [7, 8] (fun v i wr => ∃ (k : Nat) (v' : Value), k ≤ n ∧ i = .int .i64 k ∧ v' = v ∧ Hid (RO wr w.heap.size v' (mis a b now true k)) ∧ Hid (Below w.heap.size w wr)) (fun _ i _ => n - (intOf i).toNat)
  case atStart => exact ⟨0, _, Nat.zero_le _, rfl, rfl, ho, B0⟩
  case round =>
    clear ho B0
    obtain ⟨k, v', hk, rfl, rfl, HO, HW⟩ := hrel
    by_cases hlt : k < n
    · have hkl : Hid (k < a.length) := Lib.hid (by rw [HNa.out]; exact hlt)
      obtain ⟨b0, off, rfl, hb0, c0, c1, c2, -⟩ := (HA.out _ HW.out).get hkl.out
      have hs := mis_succ (a := a) (b := b) (now := now) (ov := true) hkl.out
      have hml := mis_len a b now true k
      have hlen : (mis a b now true k).length ≤ 16 := by omega
      have hha : hasM b (mn a k) = if byP b (mn a k).po m < 0 then false else isE (mn b (byP b (mn a k).po m).toNat) (mn a k).ad (mn a k).ep := by rw [hasM_at H2b.out]; unfold hasAt; rw [HNb.out]
      have hbd := idx_bd (fun j => isP (mn b j) (mn a k).po) m
      change -1 ≤ byP b (mn a k).po m ∧ byP b (mn a k).po m < m at hbd
      go_wp2_with fail
      refine (c_sByPort _ _ _ b (mn a k).po _ HNb.out (HB.out _ HW.out) (by omega)).mono ?_
      rintro e w' ⟨rfl, rfl⟩
      generalize byP b (mn a k).po m = at' at hha hbd
      have ho := HO.out
      have hb := HW.out
      generalize hll : mis a b now true k = ll at ho hlen
      have HLL := Lib.hid hll
      clear hll
      have e2 : 0 ≤ (k : Int) ∧ (k : Int) < n := by omega
      by_cases hneg : at' < 0
      · have t0 : decide (at' < 0) = true := by rw [decide_eq_true_eq]; exact hneg
        rw [if_pos hneg] at hha
        rw [hha, if_neg (by decide)] at hs
        have HSS := Lib.hid hs
        clear hs hha hneg
        go_wp2
        go_quiet (fail)
        replace ho : RO (wr.drewN nq) w.heap.size v' ll := ho
        replace hb : Below w.heap.size w (wr.drewN nq) := Bl.drewN hb nq
        generalize World.drewN wr nq = wq at *
        replace ho : RO wq.drew w.heap.size v' ll := ho
        replace hb : Below w.heap.size w wq.drew := Bl.drewN hb 1
        have t1 : TM wq.drew (some ⟨b0, off, none⟩) a := HA.out _ hb
        go_wp2_with fail
        refine wp_region_held_drew (S := (fun w' => w'.cell? ⟨b0, off + k * 4, none⟩ = some (.int .i64 (mn a k).ad) ∧ w'.cell? ⟨b0, off + k * 4 + 1, none⟩ = some (.int .i64 (mn a k).ep) ∧ w'.cell? ⟨b0, off + k * 4 + 2, none⟩ = some (.int .i64 (mn a k).po))) (by kernel_rfl) ?_ (fun hHeld => ?_)
        · (try dsimp only); have x := TM.c4 (l := a) t1 hkl.out; exact ⟨x.1, x.2.1, x.2.2.1⟩
        generalize World.drew wq = w5 at *
        refine wpAnyH_take (i := 0) (v := ?_) (arr_at rfl) (by kernel_rfl) (by kernel_rfl) (by kernel_rfl) (fun _ _ _ h => h) ?_ (by assumption) ?_
        rotate_left
        · first
          | (refine Or.inr ⟨by rfl, ?_⟩; with_reducible rfl)
          | (refine Or.inl ⟨by rfl, ?_⟩; intro w hSw; (try dsimp only at hSw); go_simp; done)
          | (refine Or.inl ⟨by rfl, ?_⟩; intro w hSw; (try dsimp only at hSw); go_simp; with_reducible rfl)
        try simp only [Act.put, List.setIfInBounds_toArray, List.set_cons_zero, List.set_cons_succ]
        refine wpAnyH_take (i := 1) (v := ?_) (arr_at rfl) (by kernel_rfl) (by kernel_rfl) (by kernel_rfl) (fun _ _ _ h => h) ?_ (by assumption) ?_
        rotate_left
        · first
          | (refine Or.inr ⟨by rfl, ?_⟩; with_reducible rfl)
          | (refine Or.inl ⟨by rfl, ?_⟩; intro w hSw; (try dsimp only at hSw); go_simp; done)
          | (refine Or.inl ⟨by rfl, ?_⟩; intro w hSw; (try dsimp only at hSw); go_simp; with_reducible rfl)
        try simp only [Act.put, List.setIfInBounds_toArray, List.set_cons_zero, List.set_cons_succ]
        refine wpAnyH_take (i := 2) (v := ?_) (arr_at rfl) (by kernel_rfl) (by kernel_rfl) (by kernel_rfl) (fun _ _ _ h => h) ?_ (by assumption) ?_
        rotate_left
        · first
          | (refine Or.inr ⟨by rfl, ?_⟩; with_reducible rfl)
          | (refine Or.inl ⟨by rfl, ?_⟩; intro w hSw; (try dsimp only at hSw); go_simp; done)
          | (refine Or.inl ⟨by rfl, ?_⟩; intro w hSw; (try dsimp only at hSw); go_simp; with_reducible rfl)
        try simp only [Act.put, List.setIfInBounds_toArray, List.set_cons_zero, List.set_cons_succ]
        refine wpAnyH_take (i := 3) (v := ?_) (arr_at rfl) (by kernel_rfl) (by kernel_rfl) (by kernel_rfl) (fun _ _ _ h => h) ?_ (by assumption) ?_
        rotate_left
        · first
          | (refine Or.inr ⟨by rfl, ?_⟩; with_reducible rfl)
          | (refine Or.inl ⟨by rfl, ?_⟩; intro w hSw; (try dsimp only at hSw); go_simp; done)
          | (refine Or.inl ⟨by rfl, ?_⟩; intro w hSw; (try dsimp only at hSw); go_simp; with_reducible rfl)
        try simp only [Act.put, List.setIfInBounds_toArray, List.set_cons_zero, List.set_cons_succ]
        refine wpAnyH_take (i := 4) (v := ?_) (arr_at rfl) (by kernel_rfl) (by kernel_rfl) (by kernel_rfl) (fun _ _ _ h => h) ?_ (by assumption) ?_
        rotate_left
        · first
          | (refine Or.inr ⟨by rfl, ?_⟩; with_reducible rfl)
          | (refine Or.inl ⟨by rfl, ?_⟩; intro w hSw; (try dsimp only at hSw); go_simp; done)
          | (refine Or.inl ⟨by rfl, ?_⟩; intro w hSw; (try dsimp only at hSw); go_simp; with_reducible rfl)
        try simp only [Act.put, List.setIfInBounds_toArray, List.set_cons_zero, List.set_cons_succ]
        refine wpAnyH_take (i := 5) (v := ?_) (arr_at rfl) (by kernel_rfl) (by kernel_rfl) (by kernel_rfl) (fun _ _ _ h => h) ?_ (by assumption) ?_
        rotate_left
        · first
          | (refine Or.inr ⟨by rfl, ?_⟩; with_reducible rfl)
          | (refine Or.inl ⟨by rfl, ?_⟩; intro w hSw; (try dsimp only at hSw); go_simp; done)
          | (refine Or.inl ⟨by rfl, ?_⟩; intro w hSw; (try dsimp only at hSw); go_simp; with_reducible rfl)
        try simp only [Act.put, List.setIfInBounds_toArray, List.set_cons_zero, List.set_cons_succ]
        refine wpAnyH_take (i := 6) (v := ?_) (arr_at rfl) (by kernel_rfl) (by kernel_rfl) (by kernel_rfl) (fun _ _ _ h => h) ?_ (by assumption) ?_
        rotate_left
        · first
          | (refine Or.inr ⟨by rfl, ?_⟩; with_reducible rfl)
          | (refine Or.inl ⟨by rfl, ?_⟩; intro w hSw; (try dsimp only at hSw); go_simp; done)
          | (refine Or.inl ⟨by rfl, ?_⟩; intro w hSw; (try dsimp only at hSw); go_simp; with_reducible rfl)
        try simp only [Act.put, List.setIfInBounds_toArray, List.set_cons_zero, List.set_cons_succ]
        refine wpAnyH_take (i := 7) (v := ?_) (arr_at rfl) (by kernel_rfl) (by kernel_rfl) (by kernel_rfl) (fun _ _ _ h => h) ?_ (by assumption) ?_
        rotate_left
        · first
          | (refine Or.inr ⟨by rfl, ?_⟩; with_reducible rfl)
          | (refine Or.inl ⟨by rfl, ?_⟩; intro w hSw; (try dsimp only at hSw); go_simp; done)
          | (refine Or.inl ⟨by rfl, ?_⟩; intro w hSw; (try dsimp only at hSw); go_simp; with_reducible rfl)
        try simp only [Act.put, List.setIfInBounds_toArray, List.set_cons_zero, List.set_cons_succ]
        refine wpAnyH_take (i := 8) (v := ?_) (arr_at rfl) (by kernel_rfl) (by kernel_rfl) (by kernel_rfl) (fun _ _ _ h => h) ?_ (by assumption) ?_
        rotate_left
        · first
          | (refine Or.inr ⟨by rfl, ?_⟩; with_reducible rfl)
          | (refine Or.inl ⟨by rfl, ?_⟩; intro w hSw; (try dsimp only at hSw); go_simp; done)
          | (refine Or.inl ⟨by rfl, ?_⟩; intro w hSw; (try dsimp only at hSw); go_simp; with_reducible rfl)
        try simp only [Act.put, List.setIfInBounds_toArray, List.set_cons_zero, List.set_cons_succ]
        refine wpAnyH_take (i := 9) (v := ?_) (arr_at rfl) (by kernel_rfl) (by kernel_rfl) (by kernel_rfl) (fun _ _ _ h => h) ?_ (by assumption) ?_
        rotate_left
        · first
          | (refine Or.inr ⟨by rfl, ?_⟩; with_reducible rfl)
          | (refine Or.inl ⟨by rfl, ?_⟩; intro w hSw; (try dsimp only at hSw); go_simp; done)
          | (refine Or.inl ⟨by rfl, ?_⟩; intro w hSw; (try dsimp only at hSw); go_simp; with_reducible rfl)
        try simp only [Act.put, List.setIfInBounds_toArray, List.set_cons_zero, List.set_cons_succ]
        refine wpAnyH_take (i := 10) (v := ?_) (arr_at rfl) (by kernel_rfl) (by kernel_rfl) (by kernel_rfl) (fun _ _ _ h => h) ?_ (by assumption) ?_
        rotate_left
        · first
          | (refine Or.inr ⟨by rfl, ?_⟩; with_reducible rfl)
          | (refine Or.inl ⟨by rfl, ?_⟩; intro w hSw; (try dsimp only at hSw); go_simp; done)
          | (refine Or.inl ⟨by rfl, ?_⟩; intro w hSw; (try dsimp only at hSw); go_simp; with_reducible rfl)
        try simp only [Act.put, List.setIfInBounds_toArray, List.set_cons_zero, List.set_cons_succ]
        refine wpAnyH_take (i := 11) (v := ?_) (arr_at rfl) (by kernel_rfl) (by kernel_rfl) (by kernel_rfl) (fun _ _ _ h => h) ?_ (by assumption) ?_
        rotate_left
        · first
          | (refine Or.inr ⟨by rfl, ?_⟩; with_reducible rfl)
          | (refine Or.inl ⟨by rfl, ?_⟩; intro w hSw; (try dsimp only at hSw); go_simp; done)
          | (refine Or.inl ⟨by rfl, ?_⟩; intro w hSw; (try dsimp only at hSw); go_simp; with_reducible rfl)
        try simp only [Act.put, List.setIfInBounds_toArray, List.set_cons_zero, List.set_cons_succ]
        refine wpAnyH_take (i := 12) (v := ?_) (arr_at rfl) (by kernel_rfl) (by kernel_rfl) (by kernel_rfl) (fun _ _ _ h => h) ?_ (by assumption) ?_
        rotate_left
        · first
          | (refine Or.inr ⟨by rfl, ?_⟩; with_reducible rfl)
          | (refine Or.inl ⟨by rfl, ?_⟩; intro w hSw; (try dsimp only at hSw); go_simp; done)
          | (refine Or.inl ⟨by rfl, ?_⟩; intro w hSw; (try dsimp only at hSw); go_simp; with_reducible rfl)
        try simp only [Act.put, List.setIfInBounds_toArray, List.set_cons_zero, List.set_cons_succ]
        refine wpAnyH_ready (rs := [13]) (by kernel_rfl) (by simp) ?_
        refine AllReadyH.cons (arr_at rfl) (fun K hK => ?_) AllReadyH.nil
        go_simp
        replace t1 : TM (w5.alloc (.cells #[.int .i64 now, .int .i64 (mn a k).po, .int .i64 (mn a k).ad, .int .i64 (mn a k).ep, .bool true] 29)) (some ⟨b0, off, none⟩) a := TM.alloc t1 _; have hL : RR (w5.alloc (.cells #[.int .i64 now, .int .i64 (mn a k).po, .int .i64 (mn a k).ad, .int .i64 (mn a k).ep, .bool true] 29)) (some ⟨w5.heap.size, 0, none⟩) [recOf now true (mn a k)] := lit_rec (w := w5) (recOf now true (mn a k)) rfl rfl; have hoR : (w5.alloc (.cells #[.int .i64 now, .int .i64 (mn a k).po, .int .i64 (mn a k).ad, .int .i64 (mn a k).ep, .bool true] 29)).ownsRow w.heap.size 29 5 v' ll.length (recCs ll) := World.ownsRow.alloc ho _; replace hb := hb.alloc hb.size (.cells #[.int .i64 now, .int .i64 (mn a k).po, .int .i64 (mn a k).ad, .int .i64 (mn a k).ep, .bool true] 29); have hsb := hb.size
        refine hK.out _ _ ?_ (fun hHeld => ?_)
        · (try dsimp only); have x := TM.c4 (l := a) t1 hkl.out; exact ⟨x.1, x.2.1, x.2.2.1⟩
        clear hK K
        try simp only [Act.put, List.setIfInBounds_toArray, List.set_cons_zero, List.set_cons_succ]
        refine wpAnyH_ready (rs := [14]) (by kernel_rfl) (by simp) ?_
        refine AllReadyH.cons (arr_at rfl) (fun K hK => ?_) AllReadyH.nil
        obtain ⟨i0, hi, hz0, hz1, hz2⟩ := info_parts rec_info; refine wp_append_rd _ _ _ 23 rfl w.heap.size 29 i0 _ 5 40 Try.underlying23 hi hz0 hz1 hz2 rfl (by omega) _ ll.length (recCs ll) rfl hoR _ 1 1 (recCs [recOf now true (mn a k)]) rfl hL (recCs_len _) (recCs_one _) (by unfold maxLen; omega) (by omega) hsb ?_; intro v1 w6 ho6 hg6 hat6; replace t1 : TM w6 (some ⟨b0, off, none⟩) a := HA.out _ (hb.grown hg6 hb.size (fun j hj => (World.ownsRow.lt ho _ hj).1)); replace hb := hb.grown hg6 hb.size (fun j hj => (World.ownsRow.lt ho _ hj).1); clear hi hz0 hz1 hz2 hat6 hg6 hL hoR ho
        refine hK.out _ _ ?_ (fun hHeld => ?_)
        · (try dsimp only); have x := TM.c4 (l := a) t1 hkl.out; exact ⟨x.1, x.2.1, x.2.2.1⟩
        clear hK K
        try simp only [Act.put, List.setIfInBounds_toArray, List.set_cons_zero, List.set_cons_succ]
        refine wpAnyH_take (i := 15) (v := ?_) (arr_at rfl) (by kernel_rfl) (by kernel_rfl) (by kernel_rfl) (fun _ _ _ h => h) ?_ (by assumption) ?_
        rotate_left
        · first
          | (refine Or.inr ⟨by rfl, ?_⟩; with_reducible rfl)
          | (refine Or.inl ⟨by rfl, ?_⟩; intro w hSw; (try dsimp only at hSw); go_simp; done)
          | (refine Or.inl ⟨by rfl, ?_⟩; intro w hSw; (try dsimp only at hSw); go_simp; with_reducible rfl)
        try simp only [Act.put, List.setIfInBounds_toArray, List.set_cons_zero, List.set_cons_succ]
        refine wpAnyH_done (by kernel_rfl) ?_ _
        go_wp2
        go_roundw
        case rel =>
          refine ⟨k + 1, v1, by omega, by go_num, rfl, ?_, hb⟩
          rw [HSS.out, HLL.out]
          show RO _ _ _ _
          unfold RO
          rw [recCs_app, List.length_append]
          exact ho6
        case measure => simp [intOf]; omega
      · have t0 : decide (at' < 0) = false := by rw [decide_eq_false_iff_not]; exact hneg
        obtain ⟨j, rfl⟩ := Int.eq_ofNat_of_zero_le (show 0 ≤ at' by omega)
        rw [if_neg hneg, Int.toNat_natCast] at hha
        obtain ⟨b9, off9, rfl, hb9, d0, d1, -, -⟩ := (HB.out _ HW.out).get (k := j) (by rw [HNb.out]; omega)
        have e3 : 0 ≤ (j : Int) ∧ (j : Int) < m := by omega
        clear hneg
        cases hh : isE (mn b j) (mn a k).ad (mn a k).ep
        · have t2 : eqE (mn b j).ad (mn b j).ep (mn a k).ad (mn a k).ep = false := eqE_false (fun e => by rw [isE_iff.2 e] at hh; cases hh)
          rw [hha, hh, if_neg (by decide)] at hs
          have HSS := Lib.hid hs
          clear hs hha hh
          go_wp2
          go_quiet (fail)
          replace ho : RO (wr.drewN nq) w.heap.size v' ll := ho
          replace hb : Below w.heap.size w (wr.drewN nq) := Bl.drewN hb nq
          generalize World.drewN wr nq = wq at *
          replace ho : RO wq.drew w.heap.size v' ll := ho
          replace hb : Below w.heap.size w wq.drew := Bl.drewN hb 1
          have t1 : TM wq.drew (some ⟨b0, off, none⟩) a := HA.out _ hb
          go_wp2_with fail
          refine wp_region_held_drew (S := (fun w' => w'.cell? ⟨b0, off + k * 4, none⟩ = some (.int .i64 (mn a k).ad) ∧ w'.cell? ⟨b0, off + k * 4 + 1, none⟩ = some (.int .i64 (mn a k).ep) ∧ w'.cell? ⟨b0, off + k * 4 + 2, none⟩ = some (.int .i64 (mn a k).po))) (by kernel_rfl) ?_ (fun hHeld => ?_)
          · (try dsimp only); have x := TM.c4 (l := a) t1 hkl.out; exact ⟨x.1, x.2.1, x.2.2.1⟩
          generalize World.drew wq = w5 at *
          refine wpAnyH_take (i := 0) (v := ?_) (arr_at rfl) (by kernel_rfl) (by kernel_rfl) (by kernel_rfl) (fun _ _ _ h => h) ?_ (by assumption) ?_
          rotate_left
          · first
            | (refine Or.inr ⟨by rfl, ?_⟩; with_reducible rfl)
            | (refine Or.inl ⟨by rfl, ?_⟩; intro w hSw; (try dsimp only at hSw); go_simp; done)
            | (refine Or.inl ⟨by rfl, ?_⟩; intro w hSw; (try dsimp only at hSw); go_simp; with_reducible rfl)
          try simp only [Act.put, List.setIfInBounds_toArray, List.set_cons_zero, List.set_cons_succ]
          refine wpAnyH_take (i := 1) (v := ?_) (arr_at rfl) (by kernel_rfl) (by kernel_rfl) (by kernel_rfl) (fun _ _ _ h => h) ?_ (by assumption) ?_
          rotate_left
          · first
            | (refine Or.inr ⟨by rfl, ?_⟩; with_reducible rfl)
            | (refine Or.inl ⟨by rfl, ?_⟩; intro w hSw; (try dsimp only at hSw); go_simp; done)
            | (refine Or.inl ⟨by rfl, ?_⟩; intro w hSw; (try dsimp only at hSw); go_simp; with_reducible rfl)
          try simp only [Act.put, List.setIfInBounds_toArray, List.set_cons_zero, List.set_cons_succ]
          refine wpAnyH_take (i := 2) (v := ?_) (arr_at rfl) (by kernel_rfl) (by kernel_rfl) (by kernel_rfl) (fun _ _ _ h => h) ?_ (by assumption) ?_
          rotate_left
          · first
            | (refine Or.inr ⟨by rfl, ?_⟩; with_reducible rfl)
            | (refine Or.inl ⟨by rfl, ?_⟩; intro w hSw; (try dsimp only at hSw); go_simp; done)
            | (refine Or.inl ⟨by rfl, ?_⟩; intro w hSw; (try dsimp only at hSw); go_simp; with_reducible rfl)
          try simp only [Act.put, List.setIfInBounds_toArray, List.set_cons_zero, List.set_cons_succ]
          refine wpAnyH_take (i := 3) (v := ?_) (arr_at rfl) (by kernel_rfl) (by kernel_rfl) (by kernel_rfl) (fun _ _ _ h => h) ?_ (by assumption) ?_
          rotate_left
          · first
            | (refine Or.inr ⟨by rfl, ?_⟩; with_reducible rfl)
            | (refine Or.inl ⟨by rfl, ?_⟩; intro w hSw; (try dsimp only at hSw); go_simp; done)
            | (refine Or.inl ⟨by rfl, ?_⟩; intro w hSw; (try dsimp only at hSw); go_simp; with_reducible rfl)
          try simp only [Act.put, List.setIfInBounds_toArray, List.set_cons_zero, List.set_cons_succ]
          refine wpAnyH_take (i := 4) (v := ?_) (arr_at rfl) (by kernel_rfl) (by kernel_rfl) (by kernel_rfl) (fun _ _ _ h => h) ?_ (by assumption) ?_
          rotate_left
          · first
            | (refine Or.inr ⟨by rfl, ?_⟩; with_reducible rfl)
            | (refine Or.inl ⟨by rfl, ?_⟩; intro w hSw; (try dsimp only at hSw); go_simp; done)
            | (refine Or.inl ⟨by rfl, ?_⟩; intro w hSw; (try dsimp only at hSw); go_simp; with_reducible rfl)
          try simp only [Act.put, List.setIfInBounds_toArray, List.set_cons_zero, List.set_cons_succ]
          refine wpAnyH_take (i := 5) (v := ?_) (arr_at rfl) (by kernel_rfl) (by kernel_rfl) (by kernel_rfl) (fun _ _ _ h => h) ?_ (by assumption) ?_
          rotate_left
          · first
            | (refine Or.inr ⟨by rfl, ?_⟩; with_reducible rfl)
            | (refine Or.inl ⟨by rfl, ?_⟩; intro w hSw; (try dsimp only at hSw); go_simp; done)
            | (refine Or.inl ⟨by rfl, ?_⟩; intro w hSw; (try dsimp only at hSw); go_simp; with_reducible rfl)
          try simp only [Act.put, List.setIfInBounds_toArray, List.set_cons_zero, List.set_cons_succ]
          refine wpAnyH_take (i := 6) (v := ?_) (arr_at rfl) (by kernel_rfl) (by kernel_rfl) (by kernel_rfl) (fun _ _ _ h => h) ?_ (by assumption) ?_
          rotate_left
          · first
            | (refine Or.inr ⟨by rfl, ?_⟩; with_reducible rfl)
            | (refine Or.inl ⟨by rfl, ?_⟩; intro w hSw; (try dsimp only at hSw); go_simp; done)
            | (refine Or.inl ⟨by rfl, ?_⟩; intro w hSw; (try dsimp only at hSw); go_simp; with_reducible rfl)
          try simp only [Act.put, List.setIfInBounds_toArray, List.set_cons_zero, List.set_cons_succ]
          refine wpAnyH_take (i := 7) (v := ?_) (arr_at rfl) (by kernel_rfl) (by kernel_rfl) (by kernel_rfl) (fun _ _ _ h => h) ?_ (by assumption) ?_
          rotate_left
          · first
            | (refine Or.inr ⟨by rfl, ?_⟩; with_reducible rfl)
            | (refine Or.inl ⟨by rfl, ?_⟩; intro w hSw; (try dsimp only at hSw); go_simp; done)
            | (refine Or.inl ⟨by rfl, ?_⟩; intro w hSw; (try dsimp only at hSw); go_simp; with_reducible rfl)
          try simp only [Act.put, List.setIfInBounds_toArray, List.set_cons_zero, List.set_cons_succ]
          refine wpAnyH_take (i := 8) (v := ?_) (arr_at rfl) (by kernel_rfl) (by kernel_rfl) (by kernel_rfl) (fun _ _ _ h => h) ?_ (by assumption) ?_
          rotate_left
          · first
            | (refine Or.inr ⟨by rfl, ?_⟩; with_reducible rfl)
            | (refine Or.inl ⟨by rfl, ?_⟩; intro w hSw; (try dsimp only at hSw); go_simp; done)
            | (refine Or.inl ⟨by rfl, ?_⟩; intro w hSw; (try dsimp only at hSw); go_simp; with_reducible rfl)
          try simp only [Act.put, List.setIfInBounds_toArray, List.set_cons_zero, List.set_cons_succ]
          refine wpAnyH_take (i := 9) (v := ?_) (arr_at rfl) (by kernel_rfl) (by kernel_rfl) (by kernel_rfl) (fun _ _ _ h => h) ?_ (by assumption) ?_
          rotate_left
          · first
            | (refine Or.inr ⟨by rfl, ?_⟩; with_reducible rfl)
            | (refine Or.inl ⟨by rfl, ?_⟩; intro w hSw; (try dsimp only at hSw); go_simp; done)
            | (refine Or.inl ⟨by rfl, ?_⟩; intro w hSw; (try dsimp only at hSw); go_simp; with_reducible rfl)
          try simp only [Act.put, List.setIfInBounds_toArray, List.set_cons_zero, List.set_cons_succ]
          refine wpAnyH_take (i := 10) (v := ?_) (arr_at rfl) (by kernel_rfl) (by kernel_rfl) (by kernel_rfl) (fun _ _ _ h => h) ?_ (by assumption) ?_
          rotate_left
          · first
            | (refine Or.inr ⟨by rfl, ?_⟩; with_reducible rfl)
            | (refine Or.inl ⟨by rfl, ?_⟩; intro w hSw; (try dsimp only at hSw); go_simp; done)
            | (refine Or.inl ⟨by rfl, ?_⟩; intro w hSw; (try dsimp only at hSw); go_simp; with_reducible rfl)
          try simp only [Act.put, List.setIfInBounds_toArray, List.set_cons_zero, List.set_cons_succ]
          refine wpAnyH_take (i := 11) (v := ?_) (arr_at rfl) (by kernel_rfl) (by kernel_rfl) (by kernel_rfl) (fun _ _ _ h => h) ?_ (by assumption) ?_
          rotate_left
          · first
            | (refine Or.inr ⟨by rfl, ?_⟩; with_reducible rfl)
            | (refine Or.inl ⟨by rfl, ?_⟩; intro w hSw; (try dsimp only at hSw); go_simp; done)
            | (refine Or.inl ⟨by rfl, ?_⟩; intro w hSw; (try dsimp only at hSw); go_simp; with_reducible rfl)
          try simp only [Act.put, List.setIfInBounds_toArray, List.set_cons_zero, List.set_cons_succ]
          refine wpAnyH_take (i := 12) (v := ?_) (arr_at rfl) (by kernel_rfl) (by kernel_rfl) (by kernel_rfl) (fun _ _ _ h => h) ?_ (by assumption) ?_
          rotate_left
          · first
            | (refine Or.inr ⟨by rfl, ?_⟩; with_reducible rfl)
            | (refine Or.inl ⟨by rfl, ?_⟩; intro w hSw; (try dsimp only at hSw); go_simp; done)
            | (refine Or.inl ⟨by rfl, ?_⟩; intro w hSw; (try dsimp only at hSw); go_simp; with_reducible rfl)
          try simp only [Act.put, List.setIfInBounds_toArray, List.set_cons_zero, List.set_cons_succ]
          refine wpAnyH_ready (rs := [13]) (by kernel_rfl) (by simp) ?_
          refine AllReadyH.cons (arr_at rfl) (fun K hK => ?_) AllReadyH.nil
          go_simp
          replace t1 : TM (w5.alloc (.cells #[.int .i64 now, .int .i64 (mn a k).po, .int .i64 (mn a k).ad, .int .i64 (mn a k).ep, .bool true] 29)) (some ⟨b0, off, none⟩) a := TM.alloc t1 _; have hL : RR (w5.alloc (.cells #[.int .i64 now, .int .i64 (mn a k).po, .int .i64 (mn a k).ad, .int .i64 (mn a k).ep, .bool true] 29)) (some ⟨w5.heap.size, 0, none⟩) [recOf now true (mn a k)] := lit_rec (w := w5) (recOf now true (mn a k)) rfl rfl; have hoR : (w5.alloc (.cells #[.int .i64 now, .int .i64 (mn a k).po, .int .i64 (mn a k).ad, .int .i64 (mn a k).ep, .bool true] 29)).ownsRow w.heap.size 29 5 v' ll.length (recCs ll) := World.ownsRow.alloc ho _; replace hb := hb.alloc hb.size (.cells #[.int .i64 now, .int .i64 (mn a k).po, .int .i64 (mn a k).ad, .int .i64 (mn a k).ep, .bool true] 29); have hsb := hb.size
          refine hK.out _ _ ?_ (fun hHeld => ?_)
          · (try dsimp only); have x := TM.c4 (l := a) t1 hkl.out; exact ⟨x.1, x.2.1, x.2.2.1⟩
          clear hK K
          try simp only [Act.put, List.setIfInBounds_toArray, List.set_cons_zero, List.set_cons_succ]
          refine wpAnyH_ready (rs := [14]) (by kernel_rfl) (by simp) ?_
          refine AllReadyH.cons (arr_at rfl) (fun K hK => ?_) AllReadyH.nil
          obtain ⟨i0, hi, hz0, hz1, hz2⟩ := info_parts rec_info; refine wp_append_rd _ _ _ 23 rfl w.heap.size 29 i0 _ 5 40 Try.underlying23 hi hz0 hz1 hz2 rfl (by omega) _ ll.length (recCs ll) rfl hoR _ 1 1 (recCs [recOf now true (mn a k)]) rfl hL (recCs_len _) (recCs_one _) (by unfold maxLen; omega) (by omega) hsb ?_; intro v1 w6 ho6 hg6 hat6; replace t1 : TM w6 (some ⟨b0, off, none⟩) a := HA.out _ (hb.grown hg6 hb.size (fun j hj => (World.ownsRow.lt ho _ hj).1)); replace hb := hb.grown hg6 hb.size (fun j hj => (World.ownsRow.lt ho _ hj).1); clear hi hz0 hz1 hz2 hat6 hg6 hL hoR ho
          refine hK.out _ _ ?_ (fun hHeld => ?_)
          · (try dsimp only); have x := TM.c4 (l := a) t1 hkl.out; exact ⟨x.1, x.2.1, x.2.2.1⟩
          clear hK K
          try simp only [Act.put, List.setIfInBounds_toArray, List.set_cons_zero, List.set_cons_succ]
          refine wpAnyH_take (i := 15) (v := ?_) (arr_at rfl) (by kernel_rfl) (by kernel_rfl) (by kernel_rfl) (fun _ _ _ h => h) ?_ (by assumption) ?_
          rotate_left
          · first
            | (refine Or.inr ⟨by rfl, ?_⟩; with_reducible rfl)
            | (refine Or.inl ⟨by rfl, ?_⟩; intro w hSw; (try dsimp only at hSw); go_simp; done)
            | (refine Or.inl ⟨by rfl, ?_⟩; intro w hSw; (try dsimp only at hSw); go_simp; with_reducible rfl)
          try simp only [Act.put, List.setIfInBounds_toArray, List.set_cons_zero, List.set_cons_succ]
          refine wpAnyH_done (by kernel_rfl) ?_ _
          go_wp2
          go_roundw
          case rel =>
            refine ⟨k + 1, v1, by omega, by go_num, rfl, ?_, hb⟩
            rw [HSS.out, HLL.out]
            show RO _ _ _ _
            unfold RO
            rw [recCs_app, List.length_append]
            exact ho6
          case measure => simp [intOf]; omega
        · have t2 : eqE (mn b j).ad (mn b j).ep (mn a k).ad (mn a k).ep = true := eqE_true (isE_iff.1 hh)
          rw [hha, hh, if_pos rfl, List.append_nil] at hs
          have HSS := Lib.hid hs
          clear hs hha hh
          go_wp2
          go_quiet (fail)
          replace ho : RO (wr.drewN nq) w.heap.size v' ll := ho
          replace hb : Below w.heap.size w (wr.drewN nq) := Bl.drewN hb nq
          go_wp2
          go_roundw
          case rel => exact ⟨k + 1, v', by omega, by go_num, rfl, by rw [HSS.out, HLL.out]; exact ho, hb⟩
          case measure => simp [intOf]; omega
    · obtain rfl : n = k := by omega
      have ho := HO.out
      have B0 := HW.out
      clear HO HW
      have ml1 := mis_len a b now true n
      go_wp2
      go_loopw [7, 10] (fun v i wr => ∃ (k : Nat) (v' : Value), k ≤ m ∧ i = .int .i64 k ∧ v' = v ∧ Hid (RO wr w.heap.size v' (mis a b now true n ++ mis b a now false k)) ∧ Hid (Below w.heap.size w wr)) (fun _ i _ => m - (intOf i).toNat)
      case atStart => exact ⟨0, _, Nat.zero_le _, rfl, rfl, by show RO _ _ _ _; rw [show mis b a now false 0 = [] from rfl, List.append_nil]; exact ho, B0⟩
      case round =>
        clear ho B0
        obtain ⟨k, v', hk, rfl, rfl, HO, HW⟩ := hrel
        by_cases hlt : k < m
        · have hkl : Hid (k < b.length) := Lib.hid (by rw [HNb.out]; exact hlt)
          obtain ⟨b0, off, rfl, hb0, c0, c1, c2, -⟩ := (HB.out _ HW.out).get hkl.out
          have hs := mis_succ (a := b) (b := a) (now := now) (ov := false) hkl.out
          have hml := mis_len b a now false k
          have hlen : (mis a b now true n ++ mis b a now false k).length ≤ 16 := by rw [List.length_append]; omega
          have hha : hasM a (mn b k) = if byP a (mn b k).po n < 0 then false else isE (mn a (byP a (mn b k).po n).toNat) (mn b k).ad (mn b k).ep := by rw [hasM_at H2a.out]; unfold hasAt; rw [HNa.out]
          have hbd := idx_bd (fun j => isP (mn a j) (mn b k).po) n
          change -1 ≤ byP a (mn b k).po n ∧ byP a (mn b k).po n < n at hbd
          go_wp2_with fail
          refine (c_sByPort _ _ _ a (mn b k).po _ HNa.out (HA.out _ HW.out) (by omega)).mono ?_
          rintro e w' ⟨rfl, rfl⟩
          generalize byP a (mn b k).po n = at' at hha hbd
          have ho := HO.out
          have hb := HW.out
          generalize hll : mis a b now true n ++ mis b a now false k = ll at ho hlen
          have HLL := Lib.hid hll
          clear hll
          have e2 : 0 ≤ (k : Int) ∧ (k : Int) < m := by omega
          by_cases hneg : at' < 0
          · have t0 : decide (at' < 0) = true := by rw [decide_eq_true_eq]; exact hneg
            rw [if_pos hneg] at hha
            rw [hha, if_neg (by decide)] at hs
            have HSS := Lib.hid hs
            clear hs hha hneg
            go_wp2
            go_quiet (fail)
            replace ho : RO (wr.drewN nq) w.heap.size v' ll := ho
            replace hb : Below w.heap.size w (wr.drewN nq) := Bl.drewN hb nq
            generalize World.drewN wr nq = wq at *
            replace ho : RO wq.drew w.heap.size v' ll := ho
            replace hb : Below w.heap.size w wq.drew := Bl.drewN hb 1
            have t1 : TM wq.drew (some ⟨b0, off, none⟩) b := HB.out _ hb
            go_wp2_with fail
            refine wp_region_held_drew (S := (fun w' => w'.cell? ⟨b0, off + k * 4, none⟩ = some (.int .i64 (mn b k).ad) ∧ w'.cell? ⟨b0, off + k * 4 + 1, none⟩ = some (.int .i64 (mn b k).ep) ∧ w'.cell? ⟨b0, off + k * 4 + 2, none⟩ = some (.int .i64 (mn b k).po))) (by kernel_rfl) ?_ (fun hHeld => ?_)
            · (try dsimp only); have x := TM.c4 (l := b) t1 hkl.out; exact ⟨x.1, x.2.1, x.2.2.1⟩
            generalize World.drew wq = w5 at *
            refine wpAnyH_take (i := 0) (v := ?_) (arr_at rfl) (by kernel_rfl) (by kernel_rfl) (by kernel_rfl) (fun _ _ _ h => h) ?_ (by assumption) ?_
            rotate_left
            · first
              | (refine Or.inr ⟨by rfl, ?_⟩; with_reducible rfl)
              | (refine Or.inl ⟨by rfl, ?_⟩; intro w hSw; (try dsimp only at hSw); go_simp; done)
              | (refine Or.inl ⟨by rfl, ?_⟩; intro w hSw; (try dsimp only at hSw); go_simp; with_reducible rfl)
            try simp only [Act.put, List.setIfInBounds_toArray, List.set_cons_zero, List.set_cons_succ]
            refine wpAnyH_take (i := 1) (v := ?_) (arr_at rfl) (by kernel_rfl) (by kernel_rfl) (by kernel_rfl) (fun _ _ _ h => h) ?_ (by assumption) ?_
            rotate_left
            · first
              | (refine Or.inr ⟨by rfl, ?_⟩; with_reducible rfl)
              | (refine Or.inl ⟨by rfl, ?_⟩; intro w hSw; (try dsimp only at hSw); go_simp; done)
              | (refine Or.inl ⟨by rfl, ?_⟩; intro w hSw; (try dsimp only at hSw); go_simp; with_reducible rfl)
            try simp only [Act.put, List.setIfInBounds_toArray, List.set_cons_zero, List.set_cons_succ]
            refine wpAnyH_take (i := 2) (v := ?_) (arr_at rfl) (by kernel_rfl) (by kernel_rfl) (by kernel_rfl) (fun _ _ _ h => h) ?_ (by assumption) ?_
            rotate_left
            · first
              | (refine Or.inr ⟨by rfl, ?_⟩; with_reducible rfl)
              | (refine Or.inl ⟨by rfl, ?_⟩; intro w hSw; (try dsimp only at hSw); go_simp; done)
              | (refine Or.inl ⟨by rfl, ?_⟩; intro w hSw; (try dsimp only at hSw); go_simp; with_reducible rfl)
            try simp only [Act.put, List.setIfInBounds_toArray, List.set_cons_zero, List.set_cons_succ]
            refine wpAnyH_take (i := 3) (v := ?_) (arr_at rfl) (by kernel_rfl) (by kernel_rfl) (by kernel_rfl) (fun _ _ _ h => h) ?_ (by assumption) ?_
            rotate_left
            · first
              | (refine Or.inr ⟨by rfl, ?_⟩; with_reducible rfl)
              | (refine Or.inl ⟨by rfl, ?_⟩; intro w hSw; (try dsimp only at hSw); go_simp; done)
              | (refine Or.inl ⟨by rfl, ?_⟩; intro w hSw; (try dsimp only at hSw); go_simp; with_reducible rfl)
            try simp only [Act.put, List.setIfInBounds_toArray, List.set_cons_zero, List.set_cons_succ]
            refine wpAnyH_take (i := 4) (v := ?_) (arr_at rfl) (by kernel_rfl) (by kernel_rfl) (by kernel_rfl) (fun _ _ _ h => h) ?_ (by assumption) ?_
            rotate_left
            · first
              | (refine Or.inr ⟨by rfl, ?_⟩; with_reducible rfl)
              | (refine Or.inl ⟨by rfl, ?_⟩; intro w hSw; (try dsimp only at hSw); go_simp; done)
              | (refine Or.inl ⟨by rfl, ?_⟩; intro w hSw; (try dsimp only at hSw); go_simp; with_reducible rfl)
            try simp only [Act.put, List.setIfInBounds_toArray, List.set_cons_zero, List.set_cons_succ]
            refine wpAnyH_take (i := 5) (v := ?_) (arr_at rfl) (by kernel_rfl) (by kernel_rfl) (by kernel_rfl) (fun _ _ _ h => h) ?_ (by assumption) ?_
            rotate_left
            · first
              | (refine Or.inr ⟨by rfl, ?_⟩; with_reducible rfl)
              | (refine Or.inl ⟨by rfl, ?_⟩; intro w hSw; (try dsimp only at hSw); go_simp; done)
              | (refine Or.inl ⟨by rfl, ?_⟩; intro w hSw; (try dsimp only at hSw); go_simp; with_reducible rfl)
            try simp only [Act.put, List.setIfInBounds_toArray, List.set_cons_zero, List.set_cons_succ]
            refine wpAnyH_take (i := 6) (v := ?_) (arr_at rfl) (by kernel_rfl) (by kernel_rfl) (by kernel_rfl) (fun _ _ _ h => h) ?_ (by assumption) ?_
            rotate_left
            · first
              | (refine Or.inr ⟨by rfl, ?_⟩; with_reducible rfl)
              | (refine Or.inl ⟨by rfl, ?_⟩; intro w hSw; (try dsimp only at hSw); go_simp; done)
              | (refine Or.inl ⟨by rfl, ?_⟩; intro w hSw; (try dsimp only at hSw); go_simp; with_reducible rfl)
            try simp only [Act.put, List.setIfInBounds_toArray, List.set_cons_zero, List.set_cons_succ]
            refine wpAnyH_take (i := 7) (v := ?_) (arr_at rfl) (by kernel_rfl) (by kernel_rfl) (by kernel_rfl) (fun _ _ _ h => h) ?_ (by assumption) ?_
            rotate_left
            · first
              | (refine Or.inr ⟨by rfl, ?_⟩; with_reducible rfl)
              | (refine Or.inl ⟨by rfl, ?_⟩; intro w hSw; (try dsimp only at hSw); go_simp; done)
              | (refine Or.inl ⟨by rfl, ?_⟩; intro w hSw; (try dsimp only at hSw); go_simp; with_reducible rfl)
            try simp only [Act.put, List.setIfInBounds_toArray, List.set_cons_zero, List.set_cons_succ]
            refine wpAnyH_take (i := 8) (v := ?_) (arr_at rfl) (by kernel_rfl) (by kernel_rfl) (by kernel_rfl) (fun _ _ _ h => h) ?_ (by assumption) ?_
            rotate_left
            · first
              | (refine Or.inr ⟨by rfl, ?_⟩; with_reducible rfl)
              | (refine Or.inl ⟨by rfl, ?_⟩; intro w hSw; (try dsimp only at hSw); go_simp; done)
              | (refine Or.inl ⟨by rfl, ?_⟩; intro w hSw; (try dsimp only at hSw); go_simp; with_reducible rfl)
            try simp only [Act.put, List.setIfInBounds_toArray, List.set_cons_zero, List.set_cons_succ]
            refine wpAnyH_take (i := 9) (v := ?_) (arr_at rfl) (by kernel_rfl) (by kernel_rfl) (by kernel_rfl) (fun _ _ _ h => h) ?_ (by assumption) ?_
            rotate_left
            · first
              | (refine Or.inr ⟨by rfl, ?_⟩; with_reducible rfl)
              | (refine Or.inl ⟨by rfl, ?_⟩; intro w hSw; (try dsimp only at hSw); go_simp; done)
              | (refine Or.inl ⟨by rfl, ?_⟩; intro w hSw; (try dsimp only at hSw); go_simp; with_reducible rfl)
            try simp only [Act.put, List.setIfInBounds_toArray, List.set_cons_zero, List.set_cons_succ]
            refine wpAnyH_take (i := 10) (v := ?_) (arr_at rfl) (by kernel_rfl) (by kernel_rfl) (by kernel_rfl) (fun _ _ _ h => h) ?_ (by assumption) ?_
            rotate_left
            · first
              | (refine Or.inr ⟨by rfl, ?_⟩; with_reducible rfl)
              | (refine Or.inl ⟨by rfl, ?_⟩; intro w hSw; (try dsimp only at hSw); go_simp; done)
              | (refine Or.inl ⟨by rfl, ?_⟩; intro w hSw; (try dsimp only at hSw); go_simp; with_reducible rfl)
            try simp only [Act.put, List.setIfInBounds_toArray, List.set_cons_zero, List.set_cons_succ]
            refine wpAnyH_take (i := 11) (v := ?_) (arr_at rfl) (by kernel_rfl) (by kernel_rfl) (by kernel_rfl) (fun _ _ _ h => h) ?_ (by assumption) ?_
            rotate_left
            · first
              | (refine Or.inr ⟨by rfl, ?_⟩; with_reducible rfl)
              | (refine Or.inl ⟨by rfl, ?_⟩; intro w hSw; (try dsimp only at hSw); go_simp; done)
              | (refine Or.inl ⟨by rfl, ?_⟩; intro w hSw; (try dsimp only at hSw); go_simp; with_reducible rfl)
            try simp only [Act.put, List.setIfInBounds_toArray, List.set_cons_zero, List.set_cons_succ]
            refine wpAnyH_take (i := 12) (v := ?_) (arr_at rfl) (by kernel_rfl) (by kernel_rfl) (by kernel_rfl) (fun _ _ _ h => h) ?_ (by assumption) ?_
            rotate_left
            · first
              | (refine Or.inr ⟨by rfl, ?_⟩; with_reducible rfl)
              | (refine Or.inl ⟨by rfl, ?_⟩; intro w hSw; (try dsimp only at hSw); go_simp; done)
              | (refine Or.inl ⟨by rfl, ?_⟩; intro w hSw; (try dsimp only at hSw); go_simp; with_reducible rfl)
            try simp only [Act.put, List.setIfInBounds_toArray, List.set_cons_zero, List.set_cons_succ]
            refine wpAnyH_ready (rs := [13]) (by kernel_rfl) (by simp) ?_
            refine AllReadyH.cons (arr_at rfl) (fun K hK => ?_) AllReadyH.nil
            go_simp
            replace t1 : TM (w5.alloc (.cells #[.int .i64 now, .int .i64 (mn b k).po, .int .i64 (mn b k).ad, .int .i64 (mn b k).ep, .bool false] 29)) (some ⟨b0, off, none⟩) b := TM.alloc t1 _; have hL : RR (w5.alloc (.cells #[.int .i64 now, .int .i64 (mn b k).po, .int .i64 (mn b k).ad, .int .i64 (mn b k).ep, .bool false] 29)) (some ⟨w5.heap.size, 0, none⟩) [recOf now false (mn b k)] := lit_rec (w := w5) (recOf now false (mn b k)) rfl rfl; have hoR : (w5.alloc (.cells #[.int .i64 now, .int .i64 (mn b k).po, .int .i64 (mn b k).ad, .int .i64 (mn b k).ep, .bool false] 29)).ownsRow w.heap.size 29 5 v' ll.length (recCs ll) := World.ownsRow.alloc ho _; replace hb := hb.alloc hb.size (.cells #[.int .i64 now, .int .i64 (mn b k).po, .int .i64 (mn b k).ad, .int .i64 (mn b k).ep, .bool false] 29); have hsb := hb.size
            refine hK.out _ _ ?_ (fun hHeld => ?_)
            · (try dsimp only); have x := TM.c4 (l := b) t1 hkl.out; exact ⟨x.1, x.2.1, x.2.2.1⟩
            clear hK K
            try simp only [Act.put, List.setIfInBounds_toArray, List.set_cons_zero, List.set_cons_succ]
            refine wpAnyH_ready (rs := [14]) (by kernel_rfl) (by simp) ?_
            refine AllReadyH.cons (arr_at rfl) (fun K hK => ?_) AllReadyH.nil
            obtain ⟨i0, hi, hz0, hz1, hz2⟩ := info_parts rec_info; refine wp_append_rd _ _ _ 23 rfl w.heap.size 29 i0 _ 5 40 Try.underlying23 hi hz0 hz1 hz2 rfl (by omega) _ ll.length (recCs ll) rfl hoR _ 1 1 (recCs [recOf now false (mn b k)]) rfl hL (recCs_len _) (recCs_one _) (by unfold maxLen; omega) (by omega) hsb ?_; intro v1 w6 ho6 hg6 hat6; replace t1 : TM w6 (some ⟨b0, off, none⟩) b := HB.out _ (hb.grown hg6 hb.size (fun j hj => (World.ownsRow.lt ho _ hj).1)); replace hb := hb.grown hg6 hb.size (fun j hj => (World.ownsRow.lt ho _ hj).1); clear hi hz0 hz1 hz2 hat6 hg6 hL hoR ho
            refine hK.out _ _ ?_ (fun hHeld => ?_)
            · (try dsimp only); have x := TM.c4 (l := b) t1 hkl.out; exact ⟨x.1, x.2.1, x.2.2.1⟩
            clear hK K
            try simp only [Act.put, List.setIfInBounds_toArray, List.set_cons_zero, List.set_cons_succ]
            refine wpAnyH_take (i := 15) (v := ?_) (arr_at rfl) (by kernel_rfl) (by kernel_rfl) (by kernel_rfl) (fun _ _ _ h => h) ?_ (by assumption) ?_
            rotate_left
            · first
              | (refine Or.inr ⟨by rfl, ?_⟩; with_reducible rfl)
              | (refine Or.inl ⟨by rfl, ?_⟩; intro w hSw; (try dsimp only at hSw); go_simp; done)
              | (refine Or.inl ⟨by rfl, ?_⟩; intro w hSw; (try dsimp only at hSw); go_simp; with_reducible rfl)
            try simp only [Act.put, List.setIfInBounds_toArray, List.set_cons_zero, List.set_cons_succ]
            refine wpAnyH_done (by kernel_rfl) ?_ _
            go_wp2
            go_roundw
            case rel =>
              refine ⟨k + 1, v1, by omega, by go_num, rfl, ?_, hb⟩
              rw [HSS.out, ← List.append_assoc, HLL.out]
              show RO _ _ _ _
              unfold RO
              rw [recCs_app, List.length_append]
              exact ho6
            case measure => simp [intOf]; omega
          · have t0 : decide (at' < 0) = false := by rw [decide_eq_false_iff_not]; exact hneg
            obtain ⟨j, rfl⟩ := Int.eq_ofNat_of_zero_le (show 0 ≤ at' by omega)
            rw [if_neg hneg, Int.toNat_natCast] at hha
            obtain ⟨b9, off9, rfl, hb9, d0, d1, -, -⟩ := (HA.out _ HW.out).get (k := j) (by rw [HNa.out]; omega)
            have e3 : 0 ≤ (j : Int) ∧ (j : Int) < n := by omega
            clear hneg
            cases hh : isE (mn a j) (mn b k).ad (mn b k).ep
            · have t2 : eqE (mn a j).ad (mn a j).ep (mn b k).ad (mn b k).ep = false := eqE_false (fun e => by rw [isE_iff.2 e] at hh; cases hh)
              rw [hha, hh, if_neg (by decide)] at hs
              have HSS := Lib.hid hs
              clear hs hha hh
              go_wp2
              go_quiet (fail)
              replace ho : RO (wr.drewN nq) w.heap.size v' ll := ho
              replace hb : Below w.heap.size w (wr.drewN nq) := Bl.drewN hb nq
              generalize World.drewN wr nq = wq at *
              replace ho : RO wq.drew w.heap.size v' ll := ho
              replace hb : Below w.heap.size w wq.drew := Bl.drewN hb 1
              have t1 : TM wq.drew (some ⟨b0, off, none⟩) b := HB.out _ hb
              go_wp2_with fail
              refine wp_region_held_drew (S := (fun w' => w'.cell? ⟨b0, off + k * 4, none⟩ = some (.int .i64 (mn b k).ad) ∧ w'.cell? ⟨b0, off + k * 4 + 1, none⟩ = some (.int .i64 (mn b k).ep) ∧ w'.cell? ⟨b0, off + k * 4 + 2, none⟩ = some (.int .i64 (mn b k).po))) (by kernel_rfl) ?_ (fun hHeld => ?_)
              · (try dsimp only); have x := TM.c4 (l := b) t1 hkl.out; exact ⟨x.1, x.2.1, x.2.2.1⟩
              generalize World.drew wq = w5 at *
              refine wpAnyH_take (i := 0) (v := ?_) (arr_at rfl) (by kernel_rfl) (by kernel_rfl) (by kernel_rfl) (fun _ _ _ h => h) ?_ (by assumption) ?_
              rotate_left
              · first
                | (refine Or.inr ⟨by rfl, ?_⟩; with_reducible rfl)
                | (refine Or.inl ⟨by rfl, ?_⟩; intro w hSw; (try dsimp only at hSw); go_simp; done)
                | (refine Or.inl ⟨by rfl, ?_⟩; intro w hSw; (try dsimp only at hSw); go_simp; with_reducible rfl)
              try simp only [Act.put, List.setIfInBounds_toArray, List.set_cons_zero, List.set_cons_succ]
              refine wpAnyH_take (i := 1) (v := ?_) (arr_at rfl) (by kernel_rfl) (by kernel_rfl) (by kernel_rfl) (fun _ _ _ h => h) ?_ (by assumption) ?_
              rotate_left
              · first
                | (refine Or.inr ⟨by rfl, ?_⟩; with_reducible rfl)
                | (refine Or.inl ⟨by rfl, ?_⟩; intro w hSw; (try dsimp only at hSw); go_simp; done)
                | (refine Or.inl ⟨by rfl, ?_⟩; intro w hSw; (try dsimp only at hSw); go_simp; with_reducible rfl)
              try simp only [Act.put, List.setIfInBounds_toArray, List.set_cons_zero, List.set_cons_succ]
              refine wpAnyH_take (i := 2) (v := ?_) (arr_at rfl) (by kernel_rfl) (by kernel_rfl) (by kernel_rfl) (fun _ _ _ h => h) ?_ (by assumption) ?_
              rotate_left
              · first
                | (refine Or.inr ⟨by rfl, ?_⟩; with_reducible rfl)
                | (refine Or.inl ⟨by rfl, ?_⟩; intro w hSw; (try dsimp only at hSw); go_simp; done)
                | (refine Or.inl ⟨by rfl, ?_⟩; intro w hSw; (try dsimp only at hSw); go_simp; with_reducible rfl)
              try simp only [Act.put, List.setIfInBounds_toArray, List.set_cons_zero, List.set_cons_succ]
              refine wpAnyH_take (i := 3) (v := ?_) (arr_at rfl) (by kernel_rfl) (by kernel_rfl) (by kernel_rfl) (fun _ _ _ h => h) ?_ (by assumption) ?_
              rotate_left
              · first
                | (refine Or.inr ⟨by rfl, ?_⟩; with_reducible rfl)
                | (refine Or.inl ⟨by rfl, ?_⟩; intro w hSw; (try dsimp only at hSw); go_simp; done)
                | (refine Or.inl ⟨by rfl, ?_⟩; intro w hSw; (try dsimp only at hSw); go_simp; with_reducible rfl)
              try simp only [Act.put, List.setIfInBounds_toArray, List.set_cons_zero, List.set_cons_succ]
              refine wpAnyH_take (i := 4) (v := ?_) (arr_at rfl) (by kernel_rfl) (by kernel_rfl) (by kernel_rfl) (fun _ _ _ h => h) ?_ (by assumption) ?_
              rotate_left
              · first
                | (refine Or.inr ⟨by rfl, ?_⟩; with_reducible rfl)
                | (refine Or.inl ⟨by rfl, ?_⟩; intro w hSw; (try dsimp only at hSw); go_simp; done)
                | (refine Or.inl ⟨by rfl, ?_⟩; intro w hSw; (try dsimp only at hSw); go_simp; with_reducible rfl)
              try simp only [Act.put, List.setIfInBounds_toArray, List.set_cons_zero, List.set_cons_succ]
              refine wpAnyH_take (i := 5) (v := ?_) (arr_at rfl) (by kernel_rfl) (by kernel_rfl) (by kernel_rfl) (fun _ _ _ h => h) ?_ (by assumption) ?_
              rotate_left
              · first
                | (refine Or.inr ⟨by rfl, ?_⟩; with_reducible rfl)
                | (refine Or.inl ⟨by rfl, ?_⟩; intro w hSw; (try dsimp only at hSw); go_simp; done)
                | (refine Or.inl ⟨by rfl, ?_⟩; intro w hSw; (try dsimp only at hSw); go_simp; with_reducible rfl)
              try simp only [Act.put, List.setIfInBounds_toArray, List.set_cons_zero, List.set_cons_succ]
              refine wpAnyH_take (i := 6) (v := ?_) (arr_at rfl) (by kernel_rfl) (by kernel_rfl) (by kernel_rfl) (fun _ _ _ h => h) ?_ (by assumption) ?_
              rotate_left
              · first
                | (refine Or.inr ⟨by rfl, ?_⟩; with_reducible rfl)
                | (refine Or.inl ⟨by rfl, ?_⟩; intro w hSw; (try dsimp only at hSw); go_simp; done)
                | (refine Or.inl ⟨by rfl, ?_⟩; intro w hSw; (try dsimp only at hSw); go_simp; with_reducible rfl)
              try simp only [Act.put, List.setIfInBounds_toArray, List.set_cons_zero, List.set_cons_succ]
              refine wpAnyH_take (i := 7) (v := ?_) (arr_at rfl) (by kernel_rfl) (by kernel_rfl) (by kernel_rfl) (fun _ _ _ h => h) ?_ (by assumption) ?_
              rotate_left
              · first
                | (refine Or.inr ⟨by rfl, ?_⟩; with_reducible rfl)
                | (refine Or.inl ⟨by rfl, ?_⟩; intro w hSw; (try dsimp only at hSw); go_simp; done)
                | (refine Or.inl ⟨by rfl, ?_⟩; intro w hSw; (try dsimp only at hSw); go_simp; with_reducible rfl)
              try simp only [Act.put, List.setIfInBounds_toArray, List.set_cons_zero, List.set_cons_succ]
              refine wpAnyH_take (i := 8) (v := ?_) (arr_at rfl) (by kernel_rfl) (by kernel_rfl) (by kernel_rfl) (fun _ _ _ h => h) ?_ (by assumption) ?_
              rotate_left
              · first
                | (refine Or.inr ⟨by rfl, ?_⟩; with_reducible rfl)
                | (refine Or.inl ⟨by rfl, ?_⟩; intro w hSw; (try dsimp only at hSw); go_simp; done)
                | (refine Or.inl ⟨by rfl, ?_⟩; intro w hSw; (try dsimp only at hSw); go_simp; with_reducible rfl)
              try simp only [Act.put, List.setIfInBounds_toArray, List.set_cons_zero, List.set_cons_succ]
              refine wpAnyH_take (i := 9) (v := ?_) (arr_at rfl) (by kernel_rfl) (by kernel_rfl) (by kernel_rfl) (fun _ _ _ h => h) ?_ (by assumption) ?_
              rotate_left
              · first
                | (refine Or.inr ⟨by rfl, ?_⟩; with_reducible rfl)
                | (refine Or.inl ⟨by rfl, ?_⟩; intro w hSw; (try dsimp only at hSw); go_simp; done)
                | (refine Or.inl ⟨by rfl, ?_⟩; intro w hSw; (try dsimp only at hSw); go_simp; with_reducible rfl)
              try simp only [Act.put, List.setIfInBounds_toArray, List.set_cons_zero, List.set_cons_succ]
              refine wpAnyH_take (i := 10) (v := ?_) (arr_at rfl) (by kernel_rfl) (by kernel_rfl) (by kernel_rfl) (fun _ _ _ h => h) ?_ (by assumption) ?_
              rotate_left
              · first
                | (refine Or.inr ⟨by rfl, ?_⟩; with_reducible rfl)
                | (refine Or.inl ⟨by rfl, ?_⟩; intro w hSw; (try dsimp only at hSw); go_simp; done)
                | (refine Or.inl ⟨by rfl, ?_⟩; intro w hSw; (try dsimp only at hSw); go_simp; with_reducible rfl)
              try simp only [Act.put, List.setIfInBounds_toArray, List.set_cons_zero, List.set_cons_succ]
              refine wpAnyH_take (i := 11) (v := ?_) (arr_at rfl) (by kernel_rfl) (by kernel_rfl) (by kernel_rfl) (fun _ _ _ h => h) ?_ (by assumption) ?_
              rotate_left
              · first
                | (refine Or.inr ⟨by rfl, ?_⟩; with_reducible rfl)
                | (refine Or.inl ⟨by rfl, ?_⟩; intro w hSw; (try dsimp only at hSw); go_simp; done)
                | (refine Or.inl ⟨by rfl, ?_⟩; intro w hSw; (try dsimp only at hSw); go_simp; with_reducible rfl)
              try simp only [Act.put, List.setIfInBounds_toArray, List.set_cons_zero, List.set_cons_succ]
              refine wpAnyH_take (i := 12) (v := ?_) (arr_at rfl) (by kernel_rfl) (by kernel_rfl) (by kernel_rfl) (fun _ _ _ h => h) ?_ (by assumption) ?_
              rotate_left
              · first
                | (refine Or.inr ⟨by rfl, ?_⟩; with_reducible rfl)
                | (refine Or.inl ⟨by rfl, ?_⟩; intro w hSw; (try dsimp only at hSw); go_simp; done)
                | (refine Or.inl ⟨by rfl, ?_⟩; intro w hSw; (try dsimp only at hSw); go_simp; with_reducible rfl)
              try simp only [Act.put, List.setIfInBounds_toArray, List.set_cons_zero, List.set_cons_succ]
              refine wpAnyH_ready (rs := [13]) (by kernel_rfl) (by simp) ?_
              refine AllReadyH.cons (arr_at rfl) (fun K hK => ?_) AllReadyH.nil
              go_simp
              replace t1 : TM (w5.alloc (.cells #[.int .i64 now, .int .i64 (mn b k).po, .int .i64 (mn b k).ad, .int .i64 (mn b k).ep, .bool false] 29)) (some ⟨b0, off, none⟩) b := TM.alloc t1 _; have hL : RR (w5.alloc (.cells #[.int .i64 now, .int .i64 (mn b k).po, .int .i64 (mn b k).ad, .int .i64 (mn b k).ep, .bool false] 29)) (some ⟨w5.heap.size, 0, none⟩) [recOf now false (mn b k)] := lit_rec (w := w5) (recOf now false (mn b k)) rfl rfl; have hoR : (w5.alloc (.cells #[.int .i64 now, .int .i64 (mn b k).po, .int .i64 (mn b k).ad, .int .i64 (mn b k).ep, .bool false] 29)).ownsRow w.heap.size 29 5 v' ll.length (recCs ll) := World.ownsRow.alloc ho _; replace hb := hb.alloc hb.size (.cells #[.int .i64 now, .int .i64 (mn b k).po, .int .i64 (mn b k).ad, .int .i64 (mn b k).ep, .bool false] 29); have hsb := hb.size
              refine hK.out _ _ ?_ (fun hHeld => ?_)
              · (try dsimp only); have x := TM.c4 (l := b) t1 hkl.out; exact ⟨x.1, x.2.1, x.2.2.1⟩
              clear hK K
              try simp only [Act.put, List.setIfInBounds_toArray, List.set_cons_zero, List.set_cons_succ]
              refine wpAnyH_ready (rs := [14]) (by kernel_rfl) (by simp) ?_
              refine AllReadyH.cons (arr_at rfl) (fun K hK => ?_) AllReadyH.nil
              obtain ⟨i0, hi, hz0, hz1, hz2⟩ := info_parts rec_info; refine wp_append_rd _ _ _ 23 rfl w.heap.size 29 i0 _ 5 40 Try.underlying23 hi hz0 hz1 hz2 rfl (by omega) _ ll.length (recCs ll) rfl hoR _ 1 1 (recCs [recOf now false (mn b k)]) rfl hL (recCs_len _) (recCs_one _) (by unfold maxLen; omega) (by omega) hsb ?_; intro v1 w6 ho6 hg6 hat6; replace t1 : TM w6 (some ⟨b0, off, none⟩) b := HB.out _ (hb.grown hg6 hb.size (fun j hj => (World.ownsRow.lt ho _ hj).1)); replace hb := hb.grown hg6 hb.size (fun j hj => (World.ownsRow.lt ho _ hj).1); clear hi hz0 hz1 hz2 hat6 hg6 hL hoR ho
              refine hK.out _ _ ?_ (fun hHeld => ?_)
              · (try dsimp only); have x := TM.c4 (l := b) t1 hkl.out; exact ⟨x.1, x.2.1, x.2.2.1⟩
              clear hK K
              try simp only [Act.put, List.setIfInBounds_toArray, List.set_cons_zero, List.set_cons_succ]
              refine wpAnyH_take (i := 15) (v := ?_) (arr_at rfl) (by kernel_rfl) (by kernel_rfl) (by kernel_rfl) (fun _ _ _ h => h) ?_ (by assumption) ?_
              rotate_left
              · first
                | (refine Or.inr ⟨by rfl, ?_⟩; with_reducible rfl)
                | (refine Or.inl ⟨by rfl, ?_⟩; intro w hSw; (try dsimp only at hSw); go_simp; done)
                | (refine Or.inl ⟨by rfl, ?_⟩; intro w hSw; (try dsimp only at hSw); go_simp; with_reducible rfl)
              try simp only [Act.put, List.setIfInBounds_toArray, List.set_cons_zero, List.set_cons_succ]
              refine wpAnyH_done (by kernel_rfl) ?_ _
              go_wp2
              go_roundw
              case rel =>
                refine ⟨k + 1, v1, by omega, by go_num, rfl, ?_, hb⟩
                rw [HSS.out, ← List.append_assoc, HLL.out]
                show RO _ _ _ _
                unfold RO
                rw [recCs_app, List.length_append]
                exact ho6
              case measure => simp [intOf]; omega
            · have t2 : eqE (mn a j).ad (mn a j).ep (mn b k).ad (mn b k).ep = true := eqE_true (isE_iff.1 hh)
              rw [hha, hh, if_pos rfl, List.append_nil] at hs
              have HSS := Lib.hid hs
              clear hs hha hh
              go_wp2
              go_quiet (fail)
              replace ho : RO (wr.drewN nq) w.heap.size v' ll := ho
              replace hb : Below w.heap.size w (wr.drewN nq) := Bl.drewN hb nq
              go_wp2
              go_roundw
              case rel => exact ⟨k + 1, v', by omega, by go_num, rfl, by rw [HSS.out, HLL.out]; exact ho, hb⟩
              case measure => simp [intOf]; omega
        · obtain rfl : m = k := by omega
          have ho := HO.out
          have B0 := HW.out
          clear HO HW
          have hbt := between_mis H2a.out H2b.out H3.out
          rw [HNa.out, HNb.out] at hbt
          rw [← hbt] at ho
          clear hbt
          obtain ⟨E, cE, rfl, hE, -, -⟩ := ho.slice
          have o := or_of_own rfl ho
          go_wp2
          go_ret
          exact ⟨E, _, cE, rfl, rfl, ⟨o.1, o.2.1, hE, o.2.2.2⟩, B0⟩
end Go.Proofs.Ytaceadddggkkmaa
