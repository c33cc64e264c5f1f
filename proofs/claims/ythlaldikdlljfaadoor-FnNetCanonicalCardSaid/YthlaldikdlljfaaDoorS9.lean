/- Contracts of the generator: texts that are changed. -/
import Derived.Test.YthlaldikdlljfaaDoorS3
import Derived.Test.YthlaldikdlljfaaDoorS4
import Derived.Test.YthlaldikdlljfaaDoorSR
import Derived.Deep.RegionHeld3
namespace Go.Proofs.YthlaldikdlljfaaDoor
open Go.RowKit

theorem Rd.grown {w w' : World} {A : Option Addr} {vs : List Value} {g : Nat} (h : Rd w A vs) (hg : w.grownBy w' (some g)) (hne : Far A g) : Rd w' A vs := fun k v hk => by
  obtain ⟨b, off, rfl, hlt, hc⟩ := h k v hk
  exact ⟨b, off, rfl, Nat.lt_of_lt_of_le hlt hg.size, (World.cell?_of_block (w := w) (a := ⟨b, off + k, none⟩) (hg.block b hlt (fun e => hne _ rfl (by injection e)))).trans hc⟩
theorem grown_drew {a w : World} {row : Option Nat} (h : a.grownBy w row) : a.grownBy w.drew row := ⟨h.os, h.tape, h.output, h.size, h.block⟩
theorem rd_lit (w : World) (xs : List ByteArray) (t : TypeId) : Rd (w.alloc (.cells (xs.map Value.string).toArray t)) (some ⟨w.heap.size, 0, none⟩) (xs.map Value.string) := by
  have := (Blk.new w t (xs.map Value.string).toArray).rd
  simpa using this
theorem c_of (g p c : Nat) (A : Option Addr) (xs : List ByteArray) (w : World) (hr : Rdr w g p) (hp : p ≤ 1099511627776) (hA : Rd w A (xs.map Value.string)) (h0 : 0 < xs.length) (hl : xs.length ≤ 1099511627776) (hne : Far A g) :
    Calls Tryd.prog 89 #[.pointer (some ⟨g, 0, none⟩), .slice A xs.length c] w fun e w' => ∃ x, e = .returned (.string x) ∧ x ∈ xs ∧ Rdr w' g (p + 1) ∧ w.grownBy w' (some g) := by
  go_enter Tryd.func89, Tryd.ntmps89
  go_wp2_with fail
  refine (c_pick _ _ _ _ hr hp).mono ?_
  rintro e w1 ⟨x, rfl, hx0, hx1, -, hr1, hg1⟩
  replace hx1 := hx1 (by omega)
  have hA1 := hA.grown hg1 hne
  obtain ⟨k, rfl⟩ := Int.eq_ofNat_of_zero_le hx0
  have hk : k < xs.length := by omega
  obtain ⟨b, off, rfl, _, hc⟩ := hA1 k (.string xs[k]) (by rw [List.getElem?_map, List.getElem?_eq_getElem hk]; rfl)
  go_wp2
  go_ret
  exact ⟨xs[k], rfl, List.getElem_mem hk, hr1, hg1⟩
def m8 : List ByteArray := [⟨#[48]⟩, ⟨#[49]⟩, ⟨#[32]⟩, ⟨#[45]⟩, ⟨#[58]⟩, ⟨#[97]⟩, ⟨#[46]⟩, ⟨#[47]⟩]
def m6 : List ByteArray := [⟨#[48]⟩, ⟨#[32]⟩, ⟨#[49, 48, 46, 49, 58, 53]⟩, ⟨#[32, 49]⟩, ⟨#[120]⟩, ⟨#[46]⟩]
theorem m8_size : ∀ x ∈ m8, x.size ≤ 10 := by
  intro x hx
  simp only [m8, List.mem_cons, List.not_mem_nil, or_false] at hx
  rcases hx with rfl | rfl | rfl | rfl | rfl | rfl | rfl | rfl <;> decide
theorem m6_size : ∀ x ∈ m6, x.size ≤ 10 := by
  intro x hx
  simp only [m6, List.mem_cons, List.not_mem_nil, or_false] at hx
  rcases hx with rfl | rfl | rfl | rfl | rfl | rfl <;> decide
theorem ext_size (s : ByteArray) (a b : Nat) : (s.extract a b).size ≤ s.size := by rw [ByteArray.size_extract]; omega

set_option maxHeartbeats 3200000 in
theorem c_mutate (g p : Nat) (s : ByteArray) (w : World) (hr : Rdr w g p) (hp : p ≤ 1099511620000) (hs : s.size ≤ 100000000) :
    Calls Tryd.prog 70 #[.pointer (some ⟨g, 0, none⟩), .string s] w fun e w' => ∃ (t : ByteArray) (p' : Nat), e = .returned (.string t) ∧ t.size ≤ 2 * s.size + 10 ∧ Rdr w' g p' ∧ p' ≤ p + 3 ∧ w.grownBy w' (some g) := by
  go_enter Tryd.func70, Tryd.ntmps70
  go_wp2_with fail
  refine (c_pick _ _ _ _ hr (by omega)).mono ?_
  rintro e w1 ⟨k0, rfl, hk0, hk1, -, hr, hg⟩
  replace hk1 := hk1 (by omega)
  obtain ⟨k, rfl⟩ := Int.eq_ofNat_of_zero_le hk0
  have hk : k ≤ s.size := by omega
  clear hk0 hk1
  go_wp2_with fail
  refine (c_pick _ _ _ _ hr (by omega)).mono ?_
  rintro e w2 ⟨m, rfl, -, -, -, hr, h⟩
  replace hg := grown_trans hg h
  clear h
  have b1 : (0 : Int) ≤ k ∧ (k : Int) ≤ s.size := by omega
  have hXs := ext_size s 0 k
  have hYs := ext_size s (k + 1) s.size
  generalize hX : s.extract 0 k = X at hXs
  generalize hY : s.extract (k + 1) s.size = Y at hYs
  by_cases m0 : m = 0
  · subst m0
    by_cases hlt : k < s.size
    · have t1 : decide ((k : Int) < s.size) = true := by rw [decide_eq_true_eq]; omega
      have b2 : (0 : Int) ≤ (k : Int) + 1 ∧ (k : Int) + 1 ≤ s.size := by omega
      have e1 : IntKind.i64.wrap ((k : Int) + 1) = (k : Int) + 1 := IntWalk.i64_in _ (by omega)
      have e2 : ((k : Int) + 1).toNat = k + 1 := by omega
      go_wp2
      refine wp_region_held_drew (S := (fun w' => 0 ≤ w'.heap.size)) (by kernel_rfl) ?_ (fun hHeld => ?_)
      · (try dsimp only); exact Nat.zero_le _
      replace hr : Rdr w2.drew g (p + 1 + 1) := hr; replace hg : w.grownBy w2.drew (some g) := grown_drew hg; generalize World.drew w2 = wc at *
      refine wpAnyH_take (i := 0) (v := ?_) (arr_at rfl) (by kernel_rfl) (by kernel_rfl) (by kernel_rfl) (fun _ _ _ h => h) ?_ (by assumption) ?_
      rotate_left
      · first
        | (refine Or.inr ⟨by rfl, ?_⟩; with_reducible rfl)
        | (refine Or.inl ⟨by rfl, ?_⟩; intro w hSw; (try dsimp only at hSw); go_simp; done)
        | (refine Or.inl ⟨by rfl, ?_⟩; intro w hSw; (try dsimp only at hSw); go_simp; with_reducible rfl)
      try simp only [Act.put, List.setIfInBounds_toArray, List.set_cons_zero, List.set_cons_succ]
      refine wpAnyH_take (i := 1) (v := ?_) (arr_at rfl) (by kernel_rfl) (by kernel_rfl) (by kernel_rfl) (fun _ _ _ h => h) ?_ (by assumption) ?_
      rotate_left
      · first
        | (refine Or.inr ⟨by rfl, ?_⟩; with_reducible rfl)
        | (refine Or.inl ⟨by rfl, ?_⟩; intro w hSw; (try dsimp only at hSw); go_simp; done)
        | (refine Or.inl ⟨by rfl, ?_⟩; intro w hSw; (try dsimp only at hSw); go_simp; with_reducible rfl)
      try simp only [Act.put, List.setIfInBounds_toArray, List.set_cons_zero, List.set_cons_succ]
      refine wpAnyH_take (i := 2) (v := ?_) (arr_at rfl) (by kernel_rfl) (by kernel_rfl) (by kernel_rfl) (fun _ _ _ h => h) ?_ (by assumption) ?_
      rotate_left
      · first
        | (refine Or.inr ⟨by rfl, ?_⟩; with_reducible rfl)
        | (refine Or.inl ⟨by rfl, ?_⟩; intro w hSw; (try dsimp only at hSw); go_simp; done)
        | (refine Or.inl ⟨by rfl, ?_⟩; intro w hSw; (try dsimp only at hSw); go_simp; with_reducible rfl)
      try simp only [Act.put, List.setIfInBounds_toArray, List.set_cons_zero, List.set_cons_succ]
      refine wpAnyH_take (i := 3) (v := ?_) (arr_at rfl) (by kernel_rfl) (by kernel_rfl) (by kernel_rfl) (fun _ _ _ h => h) ?_ (by assumption) ?_
      rotate_left
      · first
        | (refine Or.inr ⟨by rfl, ?_⟩; with_reducible rfl)
        | (refine Or.inl ⟨by rfl, ?_⟩; intro w hSw; (try dsimp only at hSw); go_simp; done)
        | (refine Or.inl ⟨by rfl, ?_⟩; intro w hSw; (try dsimp only at hSw); go_simp; with_reducible rfl)
      try simp only [Act.put, List.setIfInBounds_toArray, List.set_cons_zero, List.set_cons_succ]
      refine wpAnyH_take (i := 7) (v := ?_) (arr_at rfl) (by kernel_rfl) (by kernel_rfl) (by kernel_rfl) (fun _ _ _ h => h) ?_ (by assumption) ?_
      rotate_left
      · first
        | (refine Or.inr ⟨by rfl, ?_⟩; with_reducible rfl)
        | (refine Or.inl ⟨by rfl, ?_⟩; intro w hSw; (try dsimp only at hSw); go_simp; done)
        | (refine Or.inl ⟨by rfl, ?_⟩; intro w hSw; (try dsimp only at hSw); go_simp; with_reducible rfl)
      try simp only [Act.put, List.setIfInBounds_toArray, List.set_cons_zero, List.set_cons_succ]
      refine wpAnyH_take (i := 8) (v := ?_) (arr_at rfl) (by kernel_rfl) (by kernel_rfl) (by kernel_rfl) (fun _ _ _ h => h) ?_ (by assumption) ?_
      rotate_left
      · first
        | (refine Or.inr ⟨by rfl, ?_⟩; with_reducible rfl)
        | (refine Or.inl ⟨by rfl, ?_⟩; intro w hSw; (try dsimp only at hSw); go_simp; done)
        | (refine Or.inl ⟨by rfl, ?_⟩; intro w hSw; (try dsimp only at hSw); go_simp; with_reducible rfl)
      try simp only [Act.put, List.setIfInBounds_toArray, List.set_cons_zero, List.set_cons_succ]
      refine wpAnyH_take (i := 9) (v := ?_) (arr_at rfl) (by kernel_rfl) (by kernel_rfl) (by kernel_rfl) (fun _ _ _ h => h) ?_ (by assumption) ?_
      rotate_left
      · first
        | (refine Or.inr ⟨by rfl, ?_⟩; with_reducible rfl)
        | (refine Or.inl ⟨by rfl, ?_⟩; intro w hSw; (try dsimp only at hSw); go_simp; done)
        | (refine Or.inl ⟨by rfl, ?_⟩; intro w hSw; (try dsimp only at hSw); go_simp; with_reducible rfl)
      try simp only [Act.put, List.setIfInBounds_toArray, List.set_cons_zero, List.set_cons_succ]
      refine wpAnyH_take (i := 10) (v := ?_) (arr_at rfl) (by kernel_rfl) (by kernel_rfl) (by kernel_rfl) (fun _ _ _ h => h) ?_ (by assumption) ?_
      rotate_left
      · first
        | (refine Or.inr ⟨by rfl, ?_⟩; with_reducible rfl)
        | (refine Or.inl ⟨by rfl, ?_⟩; intro w hSw; (try dsimp only at hSw); go_simp; done)
        | (refine Or.inl ⟨by rfl, ?_⟩; intro w hSw; (try dsimp only at hSw); go_simp; with_reducible rfl)
      try simp only [Act.put, List.setIfInBounds_toArray, List.set_cons_zero, List.set_cons_succ]
      refine wpAnyH_ready (rs := [4]) (by kernel_rfl) (by simp) ?_
      refine AllReadyH.cons (arr_at rfl) (fun K hK => ?_) AllReadyH.nil
      go_simp
      have hL : Rd (wc.alloc (.cells #[.string ⟨#[48]⟩, .string ⟨#[49]⟩, .string ⟨#[32]⟩, .string ⟨#[45]⟩, .string ⟨#[58]⟩, .string ⟨#[97]⟩, .string ⟨#[46]⟩, .string ⟨#[47]⟩] 9)) (some ⟨wc.heap.size, 0, none⟩) (m8.map Value.string) := rd_lit wc m8 _; have hf := lit_far (n := wc.heap.size) hr rfl; replace hr := hr.alloc (.cells #[.string ⟨#[48]⟩, .string ⟨#[49]⟩, .string ⟨#[32]⟩, .string ⟨#[45]⟩, .string ⟨#[58]⟩, .string ⟨#[97]⟩, .string ⟨#[46]⟩, .string ⟨#[47]⟩] 9); replace hg := grown_alloc hg (.cells #[.string ⟨#[48]⟩, .string ⟨#[49]⟩, .string ⟨#[32]⟩, .string ⟨#[45]⟩, .string ⟨#[58]⟩, .string ⟨#[97]⟩, .string ⟨#[46]⟩, .string ⟨#[47]⟩] 9)
      refine hK.out _ _ ?_ (fun hHeld => ?_)
      · (try dsimp only); exact Nat.zero_le _
      clear hK K
      try simp only [Act.put, List.setIfInBounds_toArray, List.set_cons_zero, List.set_cons_succ]
      refine wpAnyH_ready (rs := [5]) (by kernel_rfl) (by simp) ?_
      refine AllReadyH.cons (arr_at rfl) (fun K hK => ?_) AllReadyH.nil
      go_simp
      go_at_call 89; refine (c_of _ _ _ _ m8 _ hr (by omega) hL (by decide) (by decide) hf).mono ?_; rintro e wd ⟨x, rfl, hx, hr, h⟩; replace hg := grown_trans hg h; have hxs := m8_size x hx; have q1 : ¬ (9223372036854775807 < X.size + x.size) := (by omega); have q2 : ¬ (9223372036854775807 < X.size + x.size + Y.size) := (by omega); clear h hx
      refine hK.out _ _ ?_ (fun hHeld => ?_)
      · (try dsimp only); exact Nat.zero_le _
      clear hK K
      try simp only [Act.put, List.setIfInBounds_toArray, List.set_cons_zero, List.set_cons_succ]
      refine wpAnyH_take (i := 6) (v := ?_) (arr_at rfl) (by kernel_rfl) (by kernel_rfl) (by kernel_rfl) (fun _ _ _ h => h) ?_ (by assumption) ?_
      rotate_left
      · first
        | (refine Or.inr ⟨by rfl, ?_⟩; with_reducible rfl)
        | (refine Or.inl ⟨by rfl, ?_⟩; intro w hSw; (try dsimp only at hSw); go_simp; done)
        | (refine Or.inl ⟨by rfl, ?_⟩; intro w hSw; (try dsimp only at hSw); go_simp; with_reducible rfl)
      try simp only [Act.put, List.setIfInBounds_toArray, List.set_cons_zero, List.set_cons_succ]
      refine wpAnyH_take (i := 11) (v := ?_) (arr_at rfl) (by kernel_rfl) (by kernel_rfl) (by kernel_rfl) (fun _ _ _ h => h) ?_ (by assumption) ?_
      rotate_left
      · first
        | (refine Or.inr ⟨by rfl, ?_⟩; with_reducible rfl)
        | (refine Or.inl ⟨by rfl, ?_⟩; intro w hSw; (try dsimp only at hSw); go_simp; done)
        | (refine Or.inl ⟨by rfl, ?_⟩; intro w hSw; (try dsimp only at hSw); go_simp; with_reducible rfl)
      try simp only [Act.put, List.setIfInBounds_toArray, List.set_cons_zero, List.set_cons_succ]
      refine wpAnyH_take (i := 12) (v := ?_) (arr_at rfl) (by kernel_rfl) (by kernel_rfl) (by kernel_rfl) (fun _ _ _ h => h) ?_ (by assumption) ?_
      rotate_left
      · first
        | (refine Or.inr ⟨by rfl, ?_⟩; with_reducible rfl)
        | (refine Or.inl ⟨by rfl, ?_⟩; intro w hSw; (try dsimp only at hSw); go_simp; done)
        | (refine Or.inl ⟨by rfl, ?_⟩; intro w hSw; (try dsimp only at hSw); go_simp; with_reducible rfl)
      try simp only [Act.put, List.setIfInBounds_toArray, List.set_cons_zero, List.set_cons_succ]
      refine wpAnyH_done (by kernel_rfl) ?_ _
      go_wp2
      go_ret
      exact ⟨_, _, rfl, by rw [ByteArray.size_append, ByteArray.size_append]; omega, hr, by omega, hg⟩
    · have t1 : decide ((k : Int) < s.size) = false := by rw [decide_eq_false_iff_not]; omega
      go_wp2
      go_ret
      exact ⟨s, _, rfl, by omega, hr, by omega, hg⟩
  have t0 : (m == 0) = false := by rw [beq_eq_false_iff_ne]; exact m0
  by_cases m1 : m = 1
  · subst m1
    go_wp2
    go_ret
    exact ⟨X, _, rfl, by omega, hr, by omega, hg⟩
  have t1 : (m == 1) = false := by rw [beq_eq_false_iff_ne]; exact m1
  by_cases m2 : m = 2
  · subst m2
    have hL := rd_lit w2 m6 9
    go_wp2_with fail
    refine (c_of _ _ _ _ m6 _ (hr.alloc _) (by omega) hL (by decide) (by decide) (lit_far hr rfl)).mono ?_
    rintro e w3 ⟨x, rfl, hx, hr, h⟩
    replace hg := grown_trans (grown_alloc hg _) h
    have hxs := m6_size x hx
    have q1 : ¬ (9223372036854775807 < s.size + x.size) := by omega
    clear h hx
    go_wp2
    go_ret
    exact ⟨_, _, rfl, by rw [ByteArray.size_append]; omega, hr, by omega, hg⟩
  have t2 : (m == 2) = false := by rw [beq_eq_false_iff_ne]; exact m2
  go_wp2
  go_ret
  exact ⟨s, _, rfl, by omega, hr, by omega, hg⟩

theorem fmtNet_size (a p : Int) : (fmtNet a p).size ≤ 70000 := by
  unfold fmtNet
  split
  · rename_i h
    have a1 := inB_true (vNet_base h)
    have a2 := inB_true (vNet_bits h)
    have x := addrT_size a1.1 a1.2
    have y := dec_size p
    unfold fmtN
    simp only [ByteArray.size_append]
    show _ + 1 + _ ≤ _
    omega
  · exact Nat.zero_le _
theorem c_DrawParseEnd (A : Option Addr) (n c : Nat) (w : World) (h : RB w A n) (hc : n ≤ c) :
    Calls Tryd.prog 39 #[.slice A n c] w fun e w' => ∃ t : ByteArray, e = .returned (.string t) ∧ t.size ≤ 1000000 ∧ Below w.heap.size w w' := by
  go_enter Tryd.func39, Tryd.ntmps39
  go_wp2_with fail
  refine (c_newReader _ _ _ _ h hc).mono ?_
  rintro e w1 ⟨g, rfl, hr, hg, hb⟩
  go_wp2_with fail
  refine (c_someEnd _ _ _ hr (by omega)).mono ?_
  rintro e w2 ⟨x, y, p1, rfl, ⟨hx, hy⟩, hr, hp1, h2⟩
  have hz := fmtEnd_size hx.1 hx.2 hy.1 hy.2
  go_wp2_with fail
  refine (c_sFormatEnd x y _).mono ?_
  generalize fmtEnd x y = s at hz
  rintro e w3 ⟨rfl, hq⟩
  replace hr := hr.to hq
  replace h2 := grown_trans h2 (grown_of_below hq (some g))
  clear hq
  go_wp2_with fail
  refine (c_pick _ _ _ _ hr (by omega)).mono ?_
  rintro e w4 ⟨t, rfl, -, -, -, hr, h⟩
  replace h2 := grown_trans h2 h
  clear h
  by_cases ht : t = 0
  · subst ht
    go_wp2_with fail
    refine (c_mutate _ _ s _ hr (by omega) (by omega)).mono ?_
    rintro e w5 ⟨u, p5, rfl, hu, hr, hp5, h⟩
    replace h2 := grown_trans h2 h
    go_wp2
    go_ret
    exact ⟨u, rfl, by omega, hb.trans (below_of_grown h2 hb.size hg)⟩
  · have ht' : (t == 0) = false := by rw [beq_eq_false_iff_ne]; exact ht
    go_wp2
    go_ret
    exact ⟨s, rfl, by omega, hb.trans (below_of_grown h2 hb.size hg)⟩
theorem c_DrawParseNet (A : Option Addr) (n c : Nat) (w : World) (h : RB w A n) (hc : n ≤ c) :
    Calls Tryd.prog 37 #[.slice A n c] w fun e w' => ∃ t : ByteArray, e = .returned (.string t) ∧ t.size ≤ 1000000 ∧ Below w.heap.size w w' := by
  go_enter Tryd.func37, Tryd.ntmps37
  go_wp2_with fail
  refine (c_newReader _ _ _ _ h hc).mono ?_
  rintro e w1 ⟨g, rfl, hr, hg, hb⟩
  go_wp2_with fail
  refine (c_someNet _ _ _ hr (by omega)).mono ?_
  rintro e w2 ⟨x, y, p1, rfl, -, hr, hp1, h2⟩
  have hz := fmtNet_size x y
  go_wp2_with fail
  refine (c_sFormatNet x y _).mono ?_
  generalize fmtNet x y = s at hz
  rintro e w3 ⟨rfl, hq⟩
  replace hr := hr.to hq
  replace h2 := grown_trans h2 (grown_of_below hq (some g))
  clear hq
  go_wp2_with fail
  refine (c_pick _ _ _ _ hr (by omega)).mono ?_
  rintro e w4 ⟨t, rfl, -, -, -, hr, h⟩
  replace h2 := grown_trans h2 h
  clear h
  by_cases ht : t = 0
  · subst ht
    go_wp2_with fail
    refine (c_mutate _ _ s _ hr (by omega) (by omega)).mono ?_
    rintro e w5 ⟨u, p5, rfl, hu, hr, hp5, h⟩
    replace h2 := grown_trans h2 h
    go_wp2
    go_ret
    exact ⟨u, rfl, by omega, hb.trans (below_of_grown h2 hb.size hg)⟩
  · have ht' : (t == 0) = false := by rw [beq_eq_false_iff_ne]; exact ht
    go_wp2
    go_ret
    exact ⟨s, rfl, by omega, hb.trans (below_of_grown h2 hb.size hg)⟩
end Go.Proofs.YthlaldikdlljfaaDoor
