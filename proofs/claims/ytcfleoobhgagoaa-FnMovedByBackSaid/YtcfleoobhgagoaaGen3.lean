/- Contracts of the generator: words, pools and addresses. -/
import Derived.Test.YtcfleoobhgagoaaGen2
namespace Go.Proofs.Ytcfleoobhgagoaa
open Go.RowKit

/-- What a generator of a number leaves: a number in lo .. hi, the reader further on by at most k, nothing else turned. -/
def GenI (w : World) (g p k : Nat) (lo hi : Int) (e : Ending) (w' : World) : Prop :=
  ∃ (x : Int) (p' : Nat), e = .returned (.int .i64 x) ∧ lo ≤ x ∧ x ≤ hi ∧ Rdr w' g p' ∧ p' ≤ p + k ∧ w.grownBy w' (some g)
theorem lit_far {w : World} {g p n : Nat} (h : Rdr w g p) (hn : n = w.heap.size) : Far (some (⟨n, 0, none⟩ : Addr)) g := fun a ha => by
  injection ha with ha
  subst ha
  have := h.lt
  show n ≠ g
  omega

theorem c_someWord (g p : Nat) (w : World) (hr : Rdr w g p) (hp : p ≤ 1099511627000) :
    Calls Try.prog 53 #[.pointer (some ⟨g, 0, none⟩)] w (GenI w g p 5 0 65535) := by
  go_enter Try.func53, Try.ntmps53
  go_wp2_with fail
  refine (c_pick _ _ _ _ hr (by omega)).mono ?_
  rintro e w1 ⟨x1, rfl, a1, b1, -, hr, hg⟩
  replace b1 := b1 (by omega)
  go_wp2_with fail
  refine (c_pick _ _ _ _ hr (by omega)).mono ?_
  rintro e w2 ⟨x2, rfl, a2, b2, -, hr, h⟩
  replace b2 := b2 (by omega)
  replace hg := grown_trans hg h
  go_wp2_with fail
  refine (c_pick _ _ _ _ hr (by omega)).mono ?_
  rintro e w3 ⟨x3, rfl, a3, b3, -, hr, h⟩
  replace b3 := b3 (by omega)
  replace hg := grown_trans hg h
  go_wp2_with fail
  refine (c_pick _ _ _ _ hr (by omega)).mono ?_
  rintro e w4 ⟨x4, rfl, a4, b4, -, hr, h⟩
  replace b4 := b4 (by omega)
  replace hg := grown_trans hg h
  clear h
  go_wp2_with fail
  refine (c_one _ _ _ _ [0, 1, 65535, 65534, 32768, x1, 250 * x2 + x3, 262 * x4] _ (hr.alloc _) (by omega) (lit_ints _ rfl rfl) (by simp) (by simp) (lit_far hr rfl)).mono ?_
  rintro e w5 ⟨x, rfl, hx, hr, h⟩
  replace hg := grown_trans (grown_alloc hg _) h
  go_wp2
  go_ret
  have hb : 0 ≤ x ∧ x ≤ 65535 := by
    simp only [List.mem_cons, List.not_mem_nil, or_false] at hx
    omega
  exact ⟨x, _, rfl, hb.1, hb.2, hr, by omega, hg⟩

theorem c_somePool (g p : Nat) (w : World) (hr : Rdr w g p) (hp : p ≤ 1099511626000) :
    Calls Try.prog 47 #[.pointer (some ⟨g, 0, none⟩)] w (GenL w g p 7 20) := by
  obtain ⟨i0, hi, hz0, hz1, hz2⟩ := info_parts int_info
  have hgl := hr.lt
  go_enter Try.func47, Try.ntmps47
  go_wp2_with fail
  refine (c_pick _ _ _ _ (hr.alloc _) (by omega)).mono ?_
  rintro e w1 ⟨x1, rfl, a1, b1, -, hr, h⟩
  replace b1 := b1 (by omega)
  have hg := grown_trans (grown_alloc (World.grownBy.refl w (some g)) _) h
  have ho : w1.ownsRow w.heap.size 3 1 (.slice (some ⟨w.heap.size, 0, none⟩) 0 0) 0 [] := own_kept (own_empty (Nat.le_refl _) rfl) h hgl
  clear h
  go_wp2_with fail
  refine (c_one _ _ _ _ [3, 2, 4, 1, 5, 0, 6] _ (hr.alloc _) (by omega) (lit_ints _ rfl rfl) (by simp) (by simp) (lit_far hr rfl)).mono ?_
  rintro e w2 ⟨x2, rfl, hx, hr, h⟩
  replace hg := grown_trans (grown_alloc hg _) h
  replace ho := own_kept (ho.alloc _) h hgl
  clear h
  have hb : 0 ≤ x2 ∧ x2 ≤ 6 := by
    simp only [List.mem_cons, List.not_mem_nil, or_false] at hx
    omega
  clear hx
  obtain ⟨K, rfl⟩ := Int.eq_ofNat_of_zero_le hb.1
  go_wp2
  go_loopw [3, 4, 5] (fun v m i wr => ∃ (k pp : Nat) (zs : List Int) (n : Int), k ≤ 6 ∧ i = .int .i64 k ∧ m = .int .i64 n ∧ 0 ≤ n ∧ n + 10 * k ≤ 52000 ∧ zs.length + k ≤ 6 ∧ pp + k ≤ p + 12 ∧
      wr.ownsRow w.heap.size 3 1 v zs.length (zs.map (Value.int .i64)) ∧ Rdr wr g pp ∧ w.grownBy wr (some g)) (fun _ _ i _ => (intOf i).toNat)
  case atStart => exact ⟨K, _, [], _, by omega, rfl, rfl, by omega, by omega, by simp; omega, by omega, ho, hr, hg⟩
  case round =>
    clear ho hr hg hb
    obtain ⟨k, pp, zs, n, hk, rfl, rfl, n0, n1, hl, hpp, ho, hr, hg⟩ := hrel
    by_cases hk0 : 0 < k
    · have hsz := hg.size
      go_wp2_with (at_builtin; refine wpList_append_rd _ rfl _ _ 22 rfl w.heap.size 3 i0 _ 1 8 Try.underlying22 hi hz0 hz1 hz2 rfl (by omega) _ zs.length (zs.map (Value.int .i64)) rfl (ho.alloc _) (some ⟨wr.heap.size, 0, none⟩) 1 1 [.int .i64 n] rfl (lit_ints [n] rfl rfl) (by simp) (one_ints [n]) (by unfold maxLen; omega) (by omega) (by simp; omega) ?_; intro v1 w3 ho3 hg3 hat3)
      have hr3 := (hr.alloc (.cells #[.int .i64 n] 3)).row hg3 (fun k hk => by have := (ho.lt k hk).1; omega)
      have hg4 := grown_own (grown_alloc hg (.cells #[.int .i64 n] 3)) hg3 (fun k hk => (ho.lt k hk).1)
      clear ho hr hg hg3 hat3
      refine (c_pick _ _ _ _ hr3 (by omega)).mono ?_
      rintro e w4 ⟨y, rfl, c1, d1, -, hr, h⟩
      replace d1 := d1 (by omega)
      have hg := grown_trans hg4 h
      have ho := own_kept ho3 h hgl
      clear h hg4 ho3 hr3
      go_wp2
      go_roundw
      case rel =>
        refine ⟨k - 1, _, zs ++ [n], _, by omega, ?_, rfl, by omega, by omega, by simp; omega, ?_, by simpa using ho, hr, hg⟩
        · rw [Int.natCast_sub (by omega)]; rfl
        · omega
      case measure => simp [intOf]; omega
    · obtain ⟨B, d, rfl, hd, hdm, hB⟩ := own_slice ho
      go_wp2_with fail
      refine (c_spoil _ _ _ _ _ _ _ hr (by omega) (RI.ofOwn ho).1 (by omega)).mono ?_
      rintro e w4 ⟨A, m, c, ys, p', rfl, hm, hc, hri, hlm, hr', hp', h, hf⟩
      go_wp2
      go_ret
      exact ⟨A, m, c, ys, p', rfl, hm, hc, hri, by omega, hr', by omega, grown_trans hg h, hf⟩

set_option maxHeartbeats 400000 in
theorem c_someAddrs (g p : Nat) (w : World) (hr : Rdr w g p) (hp : p ≤ 1099511626000) :
    Calls Try.prog 56 #[.pointer (some ⟨g, 0, none⟩)] w (GenL w g p 14 150) := by
  obtain ⟨i0, hi, hz0, hz1, hz2⟩ := info_parts int_info
  have hgl := hr.lt
  go_enter Try.func56, Try.ntmps56
  go_wp2_with fail
  have hg := grown_alloc (World.grownBy.refl w (some g)) (.cells #[] 3)
  have ho : (w.alloc (.cells #[] 3)).ownsRow w.heap.size 3 1 (.slice (some ⟨w.heap.size, 0, none⟩) 0 0) 0 [] := own_empty (Nat.le_refl _) rfl
  replace hr := hr.alloc (.cells #[] 3)
  refine (c_one _ _ _ _ [6, 8, 12, 3, 1, 0, 13] _ (hr.alloc _) (by omega) (lit_ints _ (by simp) rfl) (by simp) (by simp) (lit_far hr (by simp))).mono ?_
  rintro e w2 ⟨x2, rfl, hx, hr, h⟩
  replace hg := grown_trans (grown_alloc hg _) h
  replace ho := own_kept (ho.alloc _) h hgl
  clear h
  have hb : 0 ≤ x2 ∧ x2 ≤ 13 := by
    simp only [List.mem_cons, List.not_mem_nil, or_false] at hx
    omega
  clear hx
  obtain ⟨K, rfl⟩ := Int.eq_ofNat_of_zero_le hb.1
  go_wp2
  go_loopw [3, 4] (fun v i wr => ∃ (k pp : Nat) (zs : List Int), k ≤ 13 ∧ i = .int .i64 k ∧ zs.length + k ≤ 13 ∧ pp + 10 * k ≤ p + 140 ∧
      wr.ownsRow w.heap.size 3 1 v zs.length (zs.map (Value.int .i64)) ∧ Rdr wr g pp ∧ w.grownBy wr (some g)) (fun _ i _ => (intOf i).toNat)
  case atStart => exact ⟨K, _, [], by omega, rfl, by simp; omega, by omega, ho, hr, hg⟩
  case round =>
    clear ho hr hg hb
    obtain ⟨k, pp, zs, hk, rfl, hl, hpp, ho, hr, hg⟩ := hrel
    by_cases hk0 : 0 < k
    · go_wp2_with fail
      refine (c_pick _ _ _ _ hr (by omega)).mono ?_
      rintro e w3 ⟨y1, rfl, a1, b1, -, hr, h⟩
      replace b1 := b1 (by omega)
      replace hg := grown_trans hg h
      replace ho := own_kept ho h hgl
      clear h
      go_wp2_with fail
      refine (c_someWord _ _ _ hr (by omega)).mono ?_
      rintro e w4 ⟨y2, p2, rfl, a2, b2, hr, hp2, h⟩
      replace hg := grown_trans hg h
      replace ho := own_kept ho h hgl
      clear h
      go_wp2_with fail
      refine (c_pick _ _ _ _ hr (by omega)).mono ?_
      rintro e w5 ⟨y3, rfl, a3, b3, -, hr, h⟩
      replace b3 := b3 (by omega)
      replace hg := grown_trans hg h
      replace ho := own_kept ho h hgl
      clear h
      go_wp2_with fail
      refine (c_one _ _ _ _ [2560 + y1, y2, 2560 + y3] _ (hr.alloc _) (by omega) (lit_ints _ rfl rfl) (by simp) (by simp) (lit_far hr rfl)).mono ?_
      rintro e w6 ⟨n, rfl, -, hr, h⟩
      replace hg := grown_trans (grown_alloc hg _) h
      replace ho := own_kept (ho.alloc _) h hgl
      clear h
      have hsz := hg.size
      go_wp2_with (at_builtin; refine wpList_append_rd _ rfl _ _ 22 rfl w.heap.size 3 i0 _ 1 8 Try.underlying22 hi hz0 hz1 hz2 rfl (by omega) _ zs.length (zs.map (Value.int .i64)) rfl (ho.alloc _) (some ⟨w6.heap.size, 0, none⟩) 1 1 [.int .i64 n] rfl (lit_ints [n] rfl rfl) (by simp) (one_ints [n]) (by unfold maxLen; omega) (by omega) (by simp; omega) ?_; intro v1 w7 ho3 hg3 hat3)
      have hr3 := (hr.alloc (.cells #[.int .i64 n] 3)).row hg3 (fun k hk => by have := (ho.lt k hk).1; omega)
      have hg4 := grown_own (grown_alloc hg (.cells #[.int .i64 n] 3)) hg3 (fun k hk => (ho.lt k hk).1)
      clear ho hr hg hg3 hat3
      go_roundw
      case rel =>
        refine ⟨k - 1, _, zs ++ [n], by omega, ?_, by simp; omega, ?_, by simpa using ho3, hr3, hg4⟩
        · rw [Int.natCast_sub (by omega)]; rfl
        · omega
      case measure => simp [intOf]; omega
    · obtain ⟨B, d, rfl, hd, hdm, hB⟩ := own_slice ho
      go_wp2_with fail
      refine (c_spoil _ _ _ _ _ _ _ hr (by omega) (RI.ofOwn ho).1 (by omega)).mono ?_
      rintro e w4 ⟨A, m, c, ys, p', rfl, hm, hc, hri, hlm, hr', hp', h, hf⟩
      go_wp2
      go_ret
      exact ⟨A, m, c, ys, p', rfl, hm, hc, hri, by omega, hr', by omega, grown_trans hg h, hf⟩

theorem c_DrawValidPool (A : Option Addr) (n c : Nat) (w : World) (h : RB w A n) (hc : n ≤ c) :
    Calls Try.prog 26 #[.slice A n c] w fun e w' => ∃ B d zs, e = .returned (.slice B zs.length d) ∧ zs.length ≤ d ∧ zs.length ≤ 20 ∧ RI w' B zs ∧ Below w.heap.size w w' := by
  go_enter Try.func26, Try.ntmps26
  go_wp2_with fail
  refine (c_newReader _ _ _ _ h hc).mono ?_
  rintro e w1 ⟨g, rfl, hr, hg, hb⟩
  go_wp2_with fail
  refine (c_somePool _ _ _ hr (by omega)).mono ?_
  rintro e w2 ⟨B, m, d, zs, p', rfl, rfl, hd, hri, hlm, hr, hp', h2, hf⟩
  go_wp2
  go_ret
  exact ⟨B, d, zs, rfl, hd, by omega, hri, hb.trans (below_of_grown h2 hb.size hg)⟩

theorem c_DrawPoolAddr (A : Option Addr) (n c : Nat) (w : World) (h : RB w A n) (hc : n ≤ c) :
    Calls Try.prog 31 #[.slice A n c] w fun e w' => ∃ B d zs x, e = .returned (.tuple #[.slice B zs.length d, .int .i64 x]) ∧ zs.length ≤ d ∧ zs.length ≤ 20 ∧ RI w' B zs ∧ -1 ≤ x ∧ x ≤ 65536 ∧ Below w.heap.size w w' := by
  go_enter Try.func31, Try.ntmps31
  go_wp2_with fail
  refine (c_newReader _ _ _ _ h hc).mono ?_
  rintro e w1 ⟨g, rfl, hr, hg, hb⟩
  go_wp2_with fail
  refine (c_somePool _ _ _ hr (by omega)).mono ?_
  rintro e w2 ⟨B, m, d, zs, p', rfl, rfl, hd, hri, hlm, hr, hp', h2, hf⟩
  go_wp2_with fail
  refine (c_pick _ _ _ _ hr (by omega)).mono ?_
  rintro e w3 ⟨x1, rfl, a1, b1, -, hr, h⟩
  replace b1 := b1 (by omega)
  replace hri := hri.grown h hf
  replace h2 := grown_trans h2 h
  go_wp2_with fail
  refine (c_someWord _ _ _ hr (by omega)).mono ?_
  rintro e w4 ⟨x2, p2, rfl, a2, b2, hr, hp2, h⟩
  replace hri := hri.grown h hf
  replace h2 := grown_trans h2 h
  clear h
  go_wp2_with fail
  refine (c_one _ _ _ _ [2560 + x1, x2, 65536, -1] _ (hr.alloc _) (by omega) (lit_ints _ rfl rfl) (by simp) (by simp) (lit_far hr rfl)).mono ?_
  rintro e w5 ⟨x, rfl, hx, hr, h⟩
  replace hri := (hri.alloc _).grown h hf
  replace h2 := grown_trans (grown_alloc h2 _) h
  have hxb : -1 ≤ x ∧ x ≤ 65536 := by
    simp only [List.mem_cons, List.not_mem_nil, or_false] at hx
    omega
  clear h
  go_wp2
  go_ret2
  exact ⟨B, d, zs, x, rfl, hd, by omega, hri, hxb.1, hxb.2, hb.trans (below_of_grown h2 hb.size hg)⟩

theorem c_DrawPoolCounts (A : Option Addr) (n c : Nat) (w : World) (h : RB w A n) (hc : n ≤ c) :
    Calls Try.prog 35 #[.slice A n c] w fun e w' => ∃ B d zs B' d' qs, e = .returned (.tuple #[.slice B zs.length d, .slice B' qs.length d']) ∧ zs.length ≤ d ∧ zs.length ≤ 20 ∧ RI w' B zs ∧ qs.length ≤ d' ∧ qs.length ≤ 20 ∧ RI w' B' qs ∧ Below w.heap.size w w' := by
  go_enter Try.func35, Try.ntmps35
  go_wp2_with fail
  refine (c_newReader _ _ _ _ h hc).mono ?_
  rintro e w1 ⟨g, rfl, hr, hg, hb⟩
  go_wp2_with fail
  refine (c_somePool _ _ _ hr (by omega)).mono ?_
  rintro e w2 ⟨B, m, d, zs, p', rfl, rfl, hd, hri, hlm, hr, hp', h2, hf⟩
  go_wp2_with fail
  refine (c_someAddrs _ _ _ hr (by omega)).mono ?_
  rintro e w3 ⟨B', m, d', qs, p2, rfl, rfl, hd', hri', hlm', hr, hp2, h, hf'⟩
  replace hri := hri.grown h hf
  replace h2 := grown_trans h2 h
  go_wp2
  go_ret2
  exact ⟨B, d, zs, B', d', qs, rfl, hd, by omega, hri, hd', by omega, hri', hb.trans (below_of_grown h2 hb.size hg)⟩

theorem c_DrawFullestAddr (A : Option Addr) (n c : Nat) (w : World) (h : RB w A n) (hc : n ≤ c) :
    Calls Try.prog 39 #[.slice A n c] w fun e w' => ∃ B d zs B' d' qs, e = .returned (.tuple #[.slice B zs.length d, .slice B' qs.length d']) ∧ zs.length ≤ d ∧ zs.length ≤ 20 ∧ RI w' B zs ∧ qs.length ≤ d' ∧ qs.length ≤ 20 ∧ RI w' B' qs ∧ Below w.heap.size w w' := by
  go_enter Try.func39, Try.ntmps39
  go_wp2_with fail
  refine (c_DrawPoolCounts _ _ _ _ h hc).mono ?_
  rintro e w1 ⟨B, d, zs, B', d', qs, rfl, hq⟩
  go_wp2
  go_ret2
  exact ⟨B, d, zs, B', d', qs, rfl, hq⟩

theorem c_DrawMovedBy (A : Option Addr) (n c : Nat) (w : World) (h : RB w A n) (hc : n ≤ c) :
    Calls Try.prog 40 #[.slice A n c] w fun e w' => ∃ B d zs B' d' ys B2 d2 qs, e = .returned (.tuple #[.slice B zs.length d, .slice B' ys.length d', .slice B2 qs.length d2]) ∧ zs.length ≤ d ∧ zs.length ≤ 20 ∧ RI w' B zs ∧ ys.length ≤ d' ∧ ys.length ≤ 20 ∧ RI w' B' ys ∧
      qs.length ≤ d2 ∧ qs.length ≤ 20 ∧ RI w' B2 qs ∧ Below w.heap.size w w' := by
  go_enter Try.func40, Try.ntmps40
  go_wp2_with fail
  refine (c_newReader _ _ _ _ h hc).mono ?_
  rintro e w1 ⟨g, rfl, hr, hg, hb⟩
  go_wp2_with fail
  refine (c_somePool _ _ _ hr (by omega)).mono ?_
  rintro e w2 ⟨B, m, d, zs, p', rfl, rfl, hd, hri, hlm, hr, hp', h2, hf⟩
  go_wp2_with fail
  refine (c_somePool _ _ _ hr (by omega)).mono ?_
  rintro e w3 ⟨B', m, d', ys, p2, rfl, rfl, hd', hri', hlm', hr, hp2, h, hf'⟩
  replace hri := hri.grown h hf
  replace h2 := grown_trans h2 h
  go_wp2_with fail
  refine (c_someAddrs _ _ _ hr (by omega)).mono ?_
  rintro e w4 ⟨B2, m, d2, qs, p3, rfl, rfl, hd2, hri2, hlm2, hr, hp3, h, hf2⟩
  replace hri := hri.grown h hf
  replace hri' := hri'.grown h hf'
  replace h2 := grown_trans h2 h
  go_wp2
  go_ret3
  exact ⟨B, d, zs, B', d', ys, B2, d2, qs, rfl, hd, by omega, hri, hd', by omega, hri', hd2, by omega, hri2, hb.trans (below_of_grown h2 hb.size hg)⟩
end Go.Proofs.Ytcfleoobhgagoaa
