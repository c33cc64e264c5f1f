/- The walks of the laws FnValidRecords and FnValidRecordsTwice. -/
import Derived.Test.YtaceadddggkkmaaRG3
namespace Go.Proofs.Ytaceadddggkkmaa
open Go.RowKit

theorem l_FnValidRecords (A : Option Addr) (n c : Nat) (w : World) (h : RB w A n) (hc : n ≤ c) :
    Calls Try.prog 3 #[.slice A n c] w fun e w' => e = .returned (.bool true) ∧ Below w.heap.size w w' := by
  by_cases hbig : 1048576 < n
  · go_enter Try.func3, Try.ntmps3
    go_wp2
    go_ret
    exact ⟨rfl, Below.refl _ _⟩
  go_enter Try.func3, Try.ntmps3
  go_wp2_with fail
  refine (c_DrawValidRecords _ _ _ _ h hc).mono ?_
  rintro e w1 ⟨D, m, d, l, rfl, hl, hd, hR, hm, B⟩
  have HL := Lib.hid hl
  clear hl h
  go_wp2_with fail
  refine (c_iValidRecords _ _ _ l _ HL.out hR (by omega)).mono ?_
  rintro e w2 ⟨rfl, b⟩
  replace hR := hR.to b
  replace B := Bl.then B b
  clear b
  go_wp2_with fail
  refine (c_sValidRecords _ _ _ l _ HL.out hR (by omega)).mono ?_
  rintro e w3 ⟨rfl, b⟩
  replace hR := hR.to b
  replace B := Bl.then B b
  clear b
  have tb : (vRec l != vRec l) = false := by simp
  cases hv : vRec l
  · have HV := Lib.hid hv
    clear hv
    go_wp2_with fail
    refine (c_sValidRecords _ _ _ l _ HL.out hR (by omega)).mono ?_
    rw [HV.out]
    rintro e w4 ⟨rfl, b⟩
    go_wp2
    go_ret
    exact ⟨rfl, Bl.then B b⟩
  have HV := Lib.hid hv
  clear hv
  by_cases h0 : m = 0
  · subst h0
    go_wp2_with fail
    refine (c_sValidRecords _ _ _ l _ HL.out hR (by omega)).mono ?_
    rw [HV.out]
    rintro e w4 ⟨rfl, b⟩
    go_wp2
    go_ret
    exact ⟨rfl, Bl.then B b⟩
  have hf := first_not_over HV.out (by rw [HL.out]; omega)
  go_wp2_with fail
  refine (c_iValidRecords _ _ _ (l.take (m - 1)) _ (by rw [List.length_take, HL.out]; omega) (hR.take _) (by omega)).mono ?_
  rw [vRec_take HV.out]
  rintro e w4 ⟨rfl, b⟩
  replace hR := hR.to b
  replace B := Bl.then B b
  clear b
  go_wp2_with fail
  refine (c_iValidRecords _ _ _ [] _ rfl (RR.nil _ _) (by simp)).mono ?_
  rw [vRec_nil]
  rintro e w5 ⟨rfl, b⟩
  replace hR := hR.to b
  replace B := Bl.then B b
  clear b
  obtain ⟨b0, off, rfl, hb0, -, -, -, -, c4⟩ := hR.get (k := 0) (by rw [HL.out]; omega)
  rw [hf, Nat.zero_mul, Nat.add_zero] at c4
  go_wp2
  go_ret
  exact ⟨rfl, B⟩

set_option maxHeartbeats 1600000 in
theorem l_FnValidRecordsTwice (A : Option Addr) (n c : Nat) (w : World) (h : RB w A n) (hc : n ≤ c) :
    Calls Try.prog 4 #[.slice A n c] w fun e w' => e = .returned (.bool true) ∧ Below w.heap.size w w' := by
  by_cases hbig : 1048576 < n
  · go_enter Try.func4, Try.ntmps4
    go_wp2
    go_ret
    exact ⟨rfl, Below.refl _ _⟩
  go_enter Try.func4, Try.ntmps4
  go_wp2_with fail
  refine (c_DrawValidRecords _ _ _ _ h hc).mono ?_
  rintro e w1 ⟨D, m, d, l, rfl, hl, hd, hR, hm, B⟩
  have HL := Lib.hid hl
  clear hl h
  go_wp2_with fail
  refine (c_iValidRecords _ _ _ l _ HL.out hR (by omega)).mono ?_
  rintro e w2 ⟨rfl, b⟩
  replace hR := hR.to b
  replace B := Bl.then B b
  clear b
  go_wp2_with fail
  refine (c_sValidRecords _ _ _ l _ HL.out hR (by omega)).mono ?_
  rintro e w3 ⟨rfl, b⟩
  replace hR := hR.to b
  replace B := Bl.then B b
  clear b
  have tb : (vRec l != vRec l) = false := by simp
  cases hv : vRec l
  · have HV := Lib.hid hv
    clear hv
    go_wp2_with fail
    refine (c_sValidRecords _ _ _ l _ HL.out hR (by omega)).mono ?_
    rw [HV.out]
    rintro e w4 ⟨rfl, b⟩
    go_wp2
    go_ret
    exact ⟨rfl, Bl.then B b⟩
  have HV := Lib.hid hv
  clear hv
  by_cases h0 : m = 0
  · subst h0
    go_wp2_with fail
    refine (c_sValidRecords _ _ _ l _ HL.out hR (by omega)).mono ?_
    rw [HV.out]
    rintro e w4 ⟨rfl, b⟩
    go_wp2
    go_ret
    exact ⟨rfl, Bl.then B b⟩
  obtain ⟨j, rfl⟩ : ∃ j, m = j + 1 := ⟨m - 1, by omega⟩
  have ht := twice_bad (l := l) (by rw [HL.out]; omega)
  rw [HL.out, Nat.add_sub_cancel] at ht
  have hjl : Hid (j < l.length) := Lib.hid (by rw [HL.out]; omega)
  obtain ⟨b0, off, rfl, hb0, -⟩ := hR.get hjl.out
  obtain ⟨r, hrr⟩ : ∃ r, Hid (rn l j = r) := ⟨_, rfl⟩
  rw [hrr.out] at ht
  have HT := Lib.hid ht
  clear ht tb
  go_wp2_with fail
  replace hR : RR w3.drew (some ⟨b0, off, none⟩) l := hR
  replace B : Below w.heap.size w w3.drew := Bl.drewN B 1
  have k1 : RR w3.drew (some ⟨b0, off, none⟩) l := hR
  have e1 : IntKind.i64.wrap (j : Int) = j := IntWalk.i64_in _ (by omega)
  have e2 : 0 ≤ (j : Int) ∧ (j : Int) < j + 1 := by omega
  obtain ⟨i0, hi, hz0, hz1, hz2⟩ := info_parts rec_info
  refine wp_region_held_drew (S := (fun w' => w'.cell? ⟨b0, off + j * 5, none⟩ = some (.int .i64 r.at_) ∧ w'.cell? ⟨b0, off + j * 5 + 1, none⟩ = some (.int .i64 r.po) ∧ w'.cell? ⟨b0, off + j * 5 + 2, none⟩ = some (.int .i64 r.ad) ∧ w'.cell? ⟨b0, off + j * 5 + 3, none⟩ = some (.int .i64 r.ep) ∧ w'.cell? ⟨b0, off + j * 5 + 4, none⟩ = some (.bool r.ov))) (by kernel_rfl) ?_ (fun hHeld => ?_)
  · (try dsimp only); have a := RR.c5 k1 hjl.out; rw [hrr.out] at a; exact a
  generalize World.drew w3 = w5 at *; have k0 := k1; have b3 : Below w5.heap.size w5 w5 := Below.refl _ _
  refine wpAnyH_take (i := 1) (v := ?_) (arr_at rfl) (by kernel_rfl) (by kernel_rfl) (by kernel_rfl) (fun _ _ _ h => h) ?_ (by assumption) ?_
  rotate_left
  · first
    | (refine Or.inr ⟨by rfl, ?_⟩; with_reducible rfl)
    | (refine Or.inl ⟨by rfl, ?_⟩; intro w hSw; (try dsimp only at hSw); go_simp; done)
    | (refine Or.inl ⟨by rfl, ?_⟩; intro w hSw; (try dsimp only at hSw); go_simp; with_reducible rfl)
  try simp only [Act.put, List.setIfInBounds_toArray, List.set_cons_zero, List.set_cons_succ]
  refine wpAnyH_take (i := 3) (v := ?_) (arr_at rfl) (by kernel_rfl) (by kernel_rfl) (by kernel_rfl) (fun _ _ _ h => h) ?_ (by assumption) ?_
  rotate_left
  · first
    | (refine Or.inr ⟨by rfl, ?_⟩; with_reducible rfl)
    | (refine Or.inl ⟨by rfl, ?_⟩; intro w hSw; (try dsimp only at hSw); go_simp; done)
    | (refine Or.inl ⟨by rfl, ?_⟩; intro w hSw; (try dsimp only at hSw); go_simp; with_reducible rfl)
  try simp only [Act.put, List.setIfInBounds_toArray, List.set_cons_zero, List.set_cons_succ]
  refine wpAnyH_take (i := 4) (v := ?_) (arr_at rfl) (by kernel_rfl) (by kernel_rfl) (by kernel_rfl) (fun _ _ _ h => h) ?_ (by assumption) ?_
  rotate_left
  · first
    | (refine Or.inr ⟨by rfl, ?_⟩; with_reducible rfl)
    | (refine Or.inl ⟨by rfl, ?_⟩; intro w hSw; (try dsimp only at hSw); go_simp; done)
    | (refine Or.inl ⟨by rfl, ?_⟩; intro w hSw; (try dsimp only at hSw); go_simp; with_reducible rfl)
  try simp only [Act.put, List.setIfInBounds_toArray, List.set_cons_zero, List.set_cons_succ]
  refine wpAnyH_take (i := 5) (v := ?_) (arr_at rfl) (by kernel_rfl) (by kernel_rfl) (by kernel_rfl) (fun _ _ _ h => h) ?_ (by assumption) ?_
  rotate_left
  · first
    | (refine Or.inr ⟨by rfl, ?_⟩; with_reducible rfl)
    | (refine Or.inl ⟨by rfl, ?_⟩; intro w hSw; (try dsimp only at hSw); go_simp; done)
    | (refine Or.inl ⟨by rfl, ?_⟩; intro w hSw; (try dsimp only at hSw); go_simp; with_reducible rfl)
  try simp only [Act.put, List.setIfInBounds_toArray, List.set_cons_zero, List.set_cons_succ]
  refine wpAnyH_take (i := 6) (v := ?_) (arr_at rfl) (by kernel_rfl) (by kernel_rfl) (by kernel_rfl) (fun _ _ _ h => h) ?_ (by assumption) ?_
  rotate_left
  · first
    | (refine Or.inr ⟨by rfl, ?_⟩; with_reducible rfl)
    | (refine Or.inl ⟨by rfl, ?_⟩; intro w hSw; (try dsimp only at hSw); go_simp; done)
    | (refine Or.inl ⟨by rfl, ?_⟩; intro w hSw; (try dsimp only at hSw); go_simp; with_reducible rfl)
  try simp only [Act.put, List.setIfInBounds_toArray, List.set_cons_zero, List.set_cons_succ]
  refine wpAnyH_take (i := 7) (v := ?_) (arr_at rfl) (by kernel_rfl) (by kernel_rfl) (by kernel_rfl) (fun _ _ _ h => h) ?_ (by assumption) ?_
  rotate_left
  · first
    | (refine Or.inr ⟨by rfl, ?_⟩; with_reducible rfl)
    | (refine Or.inl ⟨by rfl, ?_⟩; intro w hSw; (try dsimp only at hSw); go_simp; done)
    | (refine Or.inl ⟨by rfl, ?_⟩; intro w hSw; (try dsimp only at hSw); go_simp; with_reducible rfl)
  try simp only [Act.put, List.setIfInBounds_toArray, List.set_cons_zero, List.set_cons_succ]
  refine wpAnyH_take (i := 8) (v := ?_) (arr_at rfl) (by kernel_rfl) (by kernel_rfl) (by kernel_rfl) (fun _ _ _ h => h) ?_ (by assumption) ?_
  rotate_left
  · first
    | (refine Or.inr ⟨by rfl, ?_⟩; with_reducible rfl)
    | (refine Or.inl ⟨by rfl, ?_⟩; intro w hSw; (try dsimp only at hSw); go_simp; done)
    | (refine Or.inl ⟨by rfl, ?_⟩; intro w hSw; (try dsimp only at hSw); go_simp; with_reducible rfl)
  try simp only [Act.put, List.setIfInBounds_toArray, List.set_cons_zero, List.set_cons_succ]
  refine wpAnyH_ready (rs := [0, 9]) (by kernel_rfl) (by simp) ?_
  refine AllReadyH.cons (arr_at rfl) (fun K hK => ?_) (AllReadyH.cons (arr_at rfl) (fun K hK => ?_) AllReadyH.nil)
  · go_simp
    replace b3 : Below w5.heap.size w5 (w5.alloc (.cells #[] 29)) := b3.alloc b3.size _; replace k1 := Rd.below k0 b3 (Nat.le_refl _); have hO : (w5.alloc (.cells #[] 29)).ownsRow w5.heap.size 29 5 (.slice (some ⟨w5.heap.size, 0, none⟩) 0 0) 0 [] := RO.empty (w := w5) (Nat.le_refl _) rfl
    refine hK.out _ _ ?_ (fun hHeld => ?_)
    · (try dsimp only); have a := RR.c5 k1 hjl.out; rw [hrr.out] at a; exact a
    clear hK K
    try simp only [Act.put, List.setIfInBounds_toArray, List.set_cons_zero, List.set_cons_succ]
    refine wpAnyH_ready (rs := [2, 9]) (by kernel_rfl) (by simp) ?_
    refine AllReadyH.cons (arr_at rfl) (fun K hK => ?_) (AllReadyH.cons (arr_at rfl) (fun K hK => ?_) AllReadyH.nil)
    · refine wp_append_rd _ _ _ 23 rfl w5.heap.size 29 i0 _ 5 40 Try.underlying23 hi hz0 hz1 hz2 rfl (by omega) _ 0 [] rfl hO (some ⟨b0, off, none⟩) (j + 1) d (recCs l) rfl k1 (by rw [recCs_len, HL.out]) (recCs_one l) (by unfold maxLen; omega) (by omega) b3.size ?_; intro v1 w6 hO1 hg2 hat; replace b3 := b3.grown hg2 b3.size (fun k hk => (hO.lt k hk).1); replace k1 := Rd.below k0 b3 (Nat.le_refl _); clear hO hg2 hat
      refine hK.out _ _ ?_ (fun hHeld => ?_)
      · (try dsimp only); have a := RR.c5 k1 hjl.out; rw [hrr.out] at a; exact a
      clear hK K
      try simp only [Act.put, List.setIfInBounds_toArray, List.set_cons_zero, List.set_cons_succ]
      refine wpAnyH_ready (rs := [9]) (by kernel_rfl) (by simp) ?_
      refine AllReadyH.cons (arr_at rfl) (fun K hK => ?_) AllReadyH.nil
      go_simp
      replace b3 : Below w5.heap.size w5 (w6.alloc (.cells #[.int .i64 r.at_, .int .i64 r.po, .int .i64 r.ad, .int .i64 r.ep, .bool r.ov] 29)) := b3.alloc b3.size _; replace k1 := Rd.below k0 b3 (Nat.le_refl _); have hL : RR (w6.alloc (.cells #[.int .i64 r.at_, .int .i64 r.po, .int .i64 r.ad, .int .i64 r.ep, .bool r.ov] 29)) (some ⟨w6.heap.size, 0, none⟩) [r] := lit_rec (w := w6) r rfl rfl; replace hO1 := World.ownsRow.alloc hO1 (.cells #[.int .i64 r.at_, .int .i64 r.po, .int .i64 r.ad, .int .i64 r.ep, .bool r.ov] 29)
      refine hK.out _ _ ?_ (fun hHeld => ?_)
      · (try dsimp only); have a := RR.c5 k1 hjl.out; rw [hrr.out] at a; exact a
      clear hK K
      try simp only [Act.put, List.setIfInBounds_toArray, List.set_cons_zero, List.set_cons_succ]
      refine wpAnyH_ready (rs := [10]) (by kernel_rfl) (by simp) ?_
      refine AllReadyH.cons (arr_at rfl) (fun K hK => ?_) AllReadyH.nil
      refine wp_append_rd _ _ _ 23 rfl w5.heap.size 29 i0 _ 5 40 Try.underlying23 hi hz0 hz1 hz2 rfl (by omega) _ _ _ rfl hO1 _ 1 1 (recCs [r]) rfl hL (recCs_len [r]) (recCs_one [r]) (by unfold maxLen; omega) (by omega) b3.size ?_; intro v2 w7 hO2 hg2 hat; replace b3 := b3.grown hg2 b3.size (fun k hk => (hO1.lt k hk).1); replace k1 := Rd.below k0 b3 (Nat.le_refl _); clear hO1 hL hg2 hat; replace hO2 : RO w7 w5.heap.size v2 (l ++ [r]) := (by unfold RO; rw [recCs_app, List.length_append, HL.out]; simpa using hO2); obtain ⟨E, cE, hv2, hE, -, -⟩ := hO2.slice; rw [List.length_append, HL.out, List.length_singleton] at hv2; subst hv2
      refine hK.out _ _ ?_ (fun hHeld => ?_)
      · (try dsimp only); have a := RR.c5 k1 hjl.out; rw [hrr.out] at a; exact a
      clear hK K
      try simp only [Act.put, List.setIfInBounds_toArray, List.set_cons_zero, List.set_cons_succ]
      refine wpAnyH_ready (rs := [11]) (by kernel_rfl) (by simp) ?_
      refine AllReadyH.cons (arr_at rfl) (fun K hK => ?_) AllReadyH.nil
      go_simp
      go_at_call 19; refine (c_iValidRecords _ _ _ (l ++ [r]) _ (by simp [HL.out]) (hO2.rr (by simp [HL.out])) (by omega)).mono ?_; rw [HT.out]; rintro e w' ⟨rfl, hq⟩; clear hO2; replace k1 := RR.to k1 hq; replace b3 := b3.trans (hq.mono b3.size)
      refine hK.out _ _ ?_ (fun hHeld => ?_)
      · (try dsimp only); have a := RR.c5 k1 hjl.out; rw [hrr.out] at a; exact a
      clear hK K
      try simp only [Act.put, List.setIfInBounds_toArray, List.set_cons_zero, List.set_cons_succ]
      refine wpAnyH_take (i := 12) (v := ?_) (arr_at rfl) (by kernel_rfl) (by kernel_rfl) (by kernel_rfl) (fun _ _ _ h => h) ?_ (by assumption) ?_
      rotate_left
      · first
        | (refine Or.inr ⟨by rfl, ?_⟩; with_reducible rfl)
        | (refine Or.inl ⟨by rfl, ?_⟩; intro w hSw; (try dsimp only at hSw); go_simp; done)
        | (refine Or.inl ⟨by rfl, ?_⟩; intro w hSw; (try dsimp only at hSw); go_simp; with_reducible rfl)
      try simp only [Act.put, List.setIfInBounds_toArray, List.set_cons_zero, List.set_cons_succ]
      refine wpAnyH_take (i := 13) (v := ?_) (arr_at rfl) (by kernel_rfl) (by kernel_rfl) (by kernel_rfl) (fun _ _ _ h => h) ?_ (by assumption) ?_
      rotate_left
      · first
        | (refine Or.inr ⟨by rfl, ?_⟩; with_reducible rfl)
        | (refine Or.inl ⟨by rfl, ?_⟩; intro w hSw; (try dsimp only at hSw); go_simp; done)
        | (refine Or.inl ⟨by rfl, ?_⟩; intro w hSw; (try dsimp only at hSw); go_simp; with_reducible rfl)
      try simp only [Act.put, List.setIfInBounds_toArray, List.set_cons_zero, List.set_cons_succ]
      refine wpAnyH_done (by kernel_rfl) ?_ _
      go_wp2
      go_ret
      exact ⟨rfl, Bl.then B b3⟩
    · go_simp
      replace b3 : Below w5.heap.size w5 ((w5.alloc (.cells #[] 29)).alloc (.cells #[.int .i64 r.at_, .int .i64 r.po, .int .i64 r.ad, .int .i64 r.ep, .bool r.ov] 29)) := b3.alloc b3.size _; replace k1 := Rd.below k0 b3 (Nat.le_refl _); have hL : RR ((w5.alloc (.cells #[] 29)).alloc (.cells #[.int .i64 r.at_, .int .i64 r.po, .int .i64 r.ad, .int .i64 r.ep, .bool r.ov] 29)) (some ⟨w5.heap.size + 1, 0, none⟩) [r] := lit_rec (w := w5.alloc (.cells #[] 29)) r (by simp) rfl; replace hO := World.ownsRow.alloc hO (.cells #[.int .i64 r.at_, .int .i64 r.po, .int .i64 r.ad, .int .i64 r.ep, .bool r.ov] 29)
      refine hK.out _ _ ?_ (fun hHeld => ?_)
      · (try dsimp only); have a := RR.c5 k1 hjl.out; rw [hrr.out] at a; exact a
      clear hK K
      try simp only [Act.put, List.setIfInBounds_toArray, List.set_cons_zero, List.set_cons_succ]
      refine wpAnyH_ready (rs := [2]) (by kernel_rfl) (by simp) ?_
      refine AllReadyH.cons (arr_at rfl) (fun K hK => ?_) AllReadyH.nil
      refine wp_append_rd _ _ _ 23 rfl w5.heap.size 29 i0 _ 5 40 Try.underlying23 hi hz0 hz1 hz2 rfl (by omega) _ 0 [] rfl hO (some ⟨b0, off, none⟩) (j + 1) d (recCs l) rfl k1 (by rw [recCs_len, HL.out]) (recCs_one l) (by unfold maxLen; omega) (by omega) b3.size ?_; intro v1 w6 hO1 hg2 hat; replace b3 := b3.grown hg2 b3.size (fun k hk => (hO.lt k hk).1); replace k1 := Rd.below k0 b3 (Nat.le_refl _); replace hL := RR.grown hL hg2 (fun a ha => by cases ha; simp); clear hO hg2 hat
      refine hK.out _ _ ?_ (fun hHeld => ?_)
      · (try dsimp only); have a := RR.c5 k1 hjl.out; rw [hrr.out] at a; exact a
      clear hK K
      try simp only [Act.put, List.setIfInBounds_toArray, List.set_cons_zero, List.set_cons_succ]
      refine wpAnyH_ready (rs := [10]) (by kernel_rfl) (by simp) ?_
      refine AllReadyH.cons (arr_at rfl) (fun K hK => ?_) AllReadyH.nil
      refine wp_append_rd _ _ _ 23 rfl w5.heap.size 29 i0 _ 5 40 Try.underlying23 hi hz0 hz1 hz2 rfl (by omega) _ _ _ rfl hO1 _ 1 1 (recCs [r]) rfl hL (recCs_len [r]) (recCs_one [r]) (by unfold maxLen; omega) (by omega) b3.size ?_; intro v2 w7 hO2 hg2 hat; replace b3 := b3.grown hg2 b3.size (fun k hk => (hO1.lt k hk).1); replace k1 := Rd.below k0 b3 (Nat.le_refl _); clear hO1 hL hg2 hat; replace hO2 : RO w7 w5.heap.size v2 (l ++ [r]) := (by unfold RO; rw [recCs_app, List.length_append, HL.out]; simpa using hO2); obtain ⟨E, cE, hv2, hE, -, -⟩ := hO2.slice; rw [List.length_append, HL.out, List.length_singleton] at hv2; subst hv2
      refine hK.out _ _ ?_ (fun hHeld => ?_)
      · (try dsimp only); have a := RR.c5 k1 hjl.out; rw [hrr.out] at a; exact a
      clear hK K
      try simp only [Act.put, List.setIfInBounds_toArray, List.set_cons_zero, List.set_cons_succ]
      refine wpAnyH_ready (rs := [11]) (by kernel_rfl) (by simp) ?_
      refine AllReadyH.cons (arr_at rfl) (fun K hK => ?_) AllReadyH.nil
      go_simp
      go_at_call 19; refine (c_iValidRecords _ _ _ (l ++ [r]) _ (by simp [HL.out]) (hO2.rr (by simp [HL.out])) (by omega)).mono ?_; rw [HT.out]; rintro e w' ⟨rfl, hq⟩; clear hO2; replace k1 := RR.to k1 hq; replace b3 := b3.trans (hq.mono b3.size)
      refine hK.out _ _ ?_ (fun hHeld => ?_)
      · (try dsimp only); have a := RR.c5 k1 hjl.out; rw [hrr.out] at a; exact a
      clear hK K
      try simp only [Act.put, List.setIfInBounds_toArray, List.set_cons_zero, List.set_cons_succ]
      refine wpAnyH_take (i := 12) (v := ?_) (arr_at rfl) (by kernel_rfl) (by kernel_rfl) (by kernel_rfl) (fun _ _ _ h => h) ?_ (by assumption) ?_
      rotate_left
      · first
        | (refine Or.inr ⟨by rfl, ?_⟩; with_reducible rfl)
        | (refine Or.inl ⟨by rfl, ?_⟩; intro w hSw; (try dsimp only at hSw); go_simp; done)
        | (refine Or.inl ⟨by rfl, ?_⟩; intro w hSw; (try dsimp only at hSw); go_simp; with_reducible rfl)
      try simp only [Act.put, List.setIfInBounds_toArray, List.set_cons_zero, List.set_cons_succ]
      refine wpAnyH_take (i := 13) (v := ?_) (arr_at rfl) (by kernel_rfl) (by kernel_rfl) (by kernel_rfl) (fun _ _ _ h => h) ?_ (by assumption) ?_
      rotate_left
      · first
        | (refine Or.inr ⟨by rfl, ?_⟩; with_reducible rfl)
        | (refine Or.inl ⟨by rfl, ?_⟩; intro w hSw; (try dsimp only at hSw); go_simp; done)
        | (refine Or.inl ⟨by rfl, ?_⟩; intro w hSw; (try dsimp only at hSw); go_simp; with_reducible rfl)
      try simp only [Act.put, List.setIfInBounds_toArray, List.set_cons_zero, List.set_cons_succ]
      refine wpAnyH_done (by kernel_rfl) ?_ _
      go_wp2
      go_ret
      exact ⟨rfl, Bl.then B b3⟩
  · go_simp
    replace b3 : Below w5.heap.size w5 (w5.alloc (.cells #[.int .i64 r.at_, .int .i64 r.po, .int .i64 r.ad, .int .i64 r.ep, .bool r.ov] 29)) := b3.alloc b3.size _; replace k1 := Rd.below k0 b3 (Nat.le_refl _); have hL : RR (w5.alloc (.cells #[.int .i64 r.at_, .int .i64 r.po, .int .i64 r.ad, .int .i64 r.ep, .bool r.ov] 29)) (some ⟨w5.heap.size, 0, none⟩) [r] := lit_rec (w := w5) r rfl rfl
    refine hK.out _ _ ?_ (fun hHeld => ?_)
    · (try dsimp only); have a := RR.c5 k1 hjl.out; rw [hrr.out] at a; exact a
    clear hK K
    try simp only [Act.put, List.setIfInBounds_toArray, List.set_cons_zero, List.set_cons_succ]
    refine wpAnyH_ready (rs := [0]) (by kernel_rfl) (by simp) ?_
    refine AllReadyH.cons (arr_at rfl) (fun K hK => ?_) AllReadyH.nil
    go_simp
    replace b3 : Below w5.heap.size w5 ((w5.alloc (.cells #[.int .i64 r.at_, .int .i64 r.po, .int .i64 r.ad, .int .i64 r.ep, .bool r.ov] 29)).alloc (.cells #[] 29)) := b3.alloc b3.size _; replace k1 := Rd.below k0 b3 (Nat.le_refl _); have hO : ((w5.alloc (.cells #[.int .i64 r.at_, .int .i64 r.po, .int .i64 r.ad, .int .i64 r.ep, .bool r.ov] 29)).alloc (.cells #[] 29)).ownsRow w5.heap.size 29 5 (.slice (some ⟨w5.heap.size + 1, 0, none⟩) 0 0) 0 [] := RO.empty (w := w5.alloc (.cells #[.int .i64 r.at_, .int .i64 r.po, .int .i64 r.ad, .int .i64 r.ep, .bool r.ov] 29)) (by simp) (by simp); replace hL := hL.alloc (.cells #[] 29)
    refine hK.out _ _ ?_ (fun hHeld => ?_)
    · (try dsimp only); have a := RR.c5 k1 hjl.out; rw [hrr.out] at a; exact a
    clear hK K
    try simp only [Act.put, List.setIfInBounds_toArray, List.set_cons_zero, List.set_cons_succ]
    refine wpAnyH_ready (rs := [2]) (by kernel_rfl) (by simp) ?_
    refine AllReadyH.cons (arr_at rfl) (fun K hK => ?_) AllReadyH.nil
    refine wp_append_rd _ _ _ 23 rfl w5.heap.size 29 i0 _ 5 40 Try.underlying23 hi hz0 hz1 hz2 rfl (by omega) _ 0 [] rfl hO (some ⟨b0, off, none⟩) (j + 1) d (recCs l) rfl k1 (by rw [recCs_len, HL.out]) (recCs_one l) (by unfold maxLen; omega) (by omega) b3.size ?_; intro v1 w6 hO1 hg2 hat; replace b3 := b3.grown hg2 b3.size (fun k hk => (hO.lt k hk).1); replace k1 := Rd.below k0 b3 (Nat.le_refl _); replace hL := RR.grown hL hg2 (fun a ha => by cases ha; simp); clear hO hg2 hat
    refine hK.out _ _ ?_ (fun hHeld => ?_)
    · (try dsimp only); have a := RR.c5 k1 hjl.out; rw [hrr.out] at a; exact a
    clear hK K
    try simp only [Act.put, List.setIfInBounds_toArray, List.set_cons_zero, List.set_cons_succ]
    refine wpAnyH_ready (rs := [10]) (by kernel_rfl) (by simp) ?_
    refine AllReadyH.cons (arr_at rfl) (fun K hK => ?_) AllReadyH.nil
    refine wp_append_rd _ _ _ 23 rfl w5.heap.size 29 i0 _ 5 40 Try.underlying23 hi hz0 hz1 hz2 rfl (by omega) _ _ _ rfl hO1 _ 1 1 (recCs [r]) rfl hL (recCs_len [r]) (recCs_one [r]) (by unfold maxLen; omega) (by omega) b3.size ?_; intro v2 w7 hO2 hg2 hat; replace b3 := b3.grown hg2 b3.size (fun k hk => (hO1.lt k hk).1); replace k1 := Rd.below k0 b3 (Nat.le_refl _); clear hO1 hL hg2 hat; replace hO2 : RO w7 w5.heap.size v2 (l ++ [r]) := (by unfold RO; rw [recCs_app, List.length_append, HL.out]; simpa using hO2); obtain ⟨E, cE, hv2, hE, -, -⟩ := hO2.slice; rw [List.length_append, HL.out, List.length_singleton] at hv2; subst hv2
    refine hK.out _ _ ?_ (fun hHeld => ?_)
    · (try dsimp only); have a := RR.c5 k1 hjl.out; rw [hrr.out] at a; exact a
    clear hK K
    try simp only [Act.put, List.setIfInBounds_toArray, List.set_cons_zero, List.set_cons_succ]
    refine wpAnyH_ready (rs := [11]) (by kernel_rfl) (by simp) ?_
    refine AllReadyH.cons (arr_at rfl) (fun K hK => ?_) AllReadyH.nil
    go_simp
    go_at_call 19; refine (c_iValidRecords _ _ _ (l ++ [r]) _ (by simp [HL.out]) (hO2.rr (by simp [HL.out])) (by omega)).mono ?_; rw [HT.out]; rintro e w' ⟨rfl, hq⟩; clear hO2; replace k1 := RR.to k1 hq; replace b3 := b3.trans (hq.mono b3.size)
    refine hK.out _ _ ?_ (fun hHeld => ?_)
    · (try dsimp only); have a := RR.c5 k1 hjl.out; rw [hrr.out] at a; exact a
    clear hK K
    try simp only [Act.put, List.setIfInBounds_toArray, List.set_cons_zero, List.set_cons_succ]
    refine wpAnyH_take (i := 12) (v := ?_) (arr_at rfl) (by kernel_rfl) (by kernel_rfl) (by kernel_rfl) (fun _ _ _ h => h) ?_ (by assumption) ?_
    rotate_left
    · first
      | (refine Or.inr ⟨by rfl, ?_⟩; with_reducible rfl)
      | (refine Or.inl ⟨by rfl, ?_⟩; intro w hSw; (try dsimp only at hSw); go_simp; done)
      | (refine Or.inl ⟨by rfl, ?_⟩; intro w hSw; (try dsimp only at hSw); go_simp; with_reducible rfl)
    try simp only [Act.put, List.setIfInBounds_toArray, List.set_cons_zero, List.set_cons_succ]
    refine wpAnyH_take (i := 13) (v := ?_) (arr_at rfl) (by kernel_rfl) (by kernel_rfl) (by kernel_rfl) (fun _ _ _ h => h) ?_ (by assumption) ?_
    rotate_left
    · first
      | (refine Or.inr ⟨by rfl, ?_⟩; with_reducible rfl)
      | (refine Or.inl ⟨by rfl, ?_⟩; intro w hSw; (try dsimp only at hSw); go_simp; done)
      | (refine Or.inl ⟨by rfl, ?_⟩; intro w hSw; (try dsimp only at hSw); go_simp; with_reducible rfl)
    try simp only [Act.put, List.setIfInBounds_toArray, List.set_cons_zero, List.set_cons_succ]
    refine wpAnyH_done (by kernel_rfl) ?_ _
    go_wp2
    go_ret
    exact ⟨rfl, Bl.then B b3⟩
end Go.Proofs.Ytaceadddggkkmaa
