/- Contracts of the generators of tables: someTable, anyTable, DrawRecordsBetween; and of the laws' equalRecords. -/
import Derived.Test.YtaceadddggkkmaaT11
import Derived.Test.YtaceadddggkkmaaRE2
namespace Go.Proofs.Ytaceadddggkkmaa
open Go.RowKit

/-- What a generator of a table leaves. -/
def GenM (w : World) (g p k : Nat) (e : Ending) (w' : World) : Prop :=
  ∃ v l p', e = .returned v ∧ MO w' w.heap.size v l ∧ l.length ≤ 13 ∧ Rdr w' g p' ∧ p' ≤ p + k ∧ w.grownBy w' (some g)

set_option maxHeartbeats 1600000 in
theorem c_someTable (g p : Nat) (w : World) (hr : Rdr w g p) (hp : p ≤ 1099511625000) :
    Calls Try.prog 80 #[.pointer (some ⟨g, 0, none⟩)] w (GenM w g p 40) := by
  have hgl := hr.lt
  go_enter Try.func80, Try.ntmps80
  go_wp2_with fail
  have hg := grown_alloc (World.grownBy.refl w (some g)) (.cells #[] 63)
  have ho : MO (w.alloc (.cells #[] 63)) w.heap.size (.slice (some ⟨w.heap.size, 0, none⟩) 0 0) [] := MO.empty (Nat.le_refl _) rfl
  replace hr := hr.alloc (.cells #[] 63)
  refine (c_pick _ _ _ _ hr (by omega)).mono ?_
  rintro e w1 ⟨t0, rfl, ha, hb, -, hr, h⟩
  replace hb := hb (by omega)
  replace hg := grown_trans hg h
  replace ho := ho.kept h hgl
  clear h
  go_wp2_with fail
  refine (c_one _ _ _ _ [3, 4, 5, 2, 1, 0, 12] _ (hr.alloc _) (by omega) (lit_ints _ rfl rfl) (by simp) (by simp) (lit_far hr rfl)).mono ?_
  rintro e w2 ⟨n0, rfl, hx, hr, h⟩
  replace hg := grown_trans (grown_alloc hg _) h
  replace ho := (ho.alloc _).kept h hgl
  clear h
  have hbn : 0 ≤ n0 ∧ n0 ≤ 12 := by
    simp only [List.mem_cons, List.not_mem_nil, or_false] at hx
    omega
  clear hx
  obtain ⟨K, rfl⟩ := Int.eq_ofNat_of_zero_le hbn.1
  go_wp2
  go_loopw [3, 4, 5] (fun v tt i wr => ∃ (k pp : Nat) (l : List Mpg) (t : Int), k ≤ 12 ∧ i = .int .i64 k ∧ tt = .int .i64 t ∧ 0 ≤ t ∧ t + 20 * k ≤ 300 ∧ l.length + k ≤ 12 ∧ pp + 3 * k ≤ p + 38 ∧
      MO wr w.heap.size v l ∧ Rdr wr g pp ∧ w.grownBy wr (some g)) (fun _ _ i _ => (intOf i).toNat)
  case atStart => exact ⟨K, _, [], _, by omega, rfl, rfl, ha, by omega, by simp; omega, by omega, ho, hr, hg⟩
  case round =>
    clear ho hr hg hbn ha hb
    obtain ⟨k, pp, l, t, hk, rfl, rfl, ht0, ht1, hl, hpp, ho, hr, hg⟩ := hrel
    obtain ⟨D, d, rfl, hd, -, hD⟩ := ho.slice
    by_cases hk0 : 0 < k
    · go_wp2_with fail
      refine (c_pick _ _ _ _ hr (by omega)).mono ?_
      rintro e w3 ⟨y1, rfl, a1, b1, -, hr, h⟩
      replace b1 := b1 (by omega)
      replace hg := grown_trans hg h
      replace ho := ho.kept h hgl
      clear h
      go_wp2_with fail
      refine (c_one _ _ _ _ [1000, 1001, 80, 5000, 1003, 81] _ (hr.alloc _) (by omega) (lit_ints _ rfl rfl) (by simp) (by simp) (lit_far hr rfl)).mono ?_
      rintro e w4 ⟨y2, rfl, hx, hr, h⟩
      replace hg := grown_trans (grown_alloc hg _) h
      replace ho := (ho.alloc _).kept h hgl
      clear h hx
      go_wp2_with fail
      refine (c_MapEnd _ _ _ l (2560 + y1) y2 t _ rfl (ho.tm rfl) (by omega)).mono ?_
      intro e w5 hE
      rcases hq : mapE l (2560 + y1) y2 t with _ | ⟨l', q⟩
      · rw [hq] at hE
        clear hq
        obtain ⟨b, rfl⟩ := hE
        replace hg := grown_trans hg (grown_of_below b (some g))
        replace ho := ho.to b
        replace hr := hr.to b
        clear b
        go_wp2_with fail
        refine (c_pick _ _ _ _ hr (by omega)).mono ?_
        rintro e w6 ⟨y3, rfl, a3, b3, -, hr, h⟩
        replace b3 := b3 (by omega)
        replace hg := grown_trans hg h
        replace ho := ho.kept h hgl
        clear h
        go_wp2
        go_roundw
        case rel =>
          refine ⟨k - 1, _, l, t + y3, by omega, ?_, rfl, by omega, by omega, by omega, ?_, ho, hr, hg⟩
          · rw [Int.natCast_sub (by omega)]; rfl
          · omega
        case measure => simp [intOf]; omega
      · have hlen := mapE_len hq
        rw [hq] at hE
        clear hq
        obtain ⟨b, v', rfl, ho'⟩ := hE
        have hsz := hg.size
        replace hg := grown_trans hg (grown_of_below b (some g))
        replace ho := ho'.low hsz
        replace hr := hr.to b
        clear b ho'
        obtain ⟨D', d', rfl, -, -, -⟩ := ho.slice
        go_wp2_with fail
        refine (c_pick _ _ _ _ hr (by omega)).mono ?_
        rintro e w6 ⟨y3, rfl, a3, b3, -, hr, h⟩
        replace b3 := b3 (by omega)
        replace hg := grown_trans hg h
        replace ho := ho.kept h hgl
        clear h
        go_wp2
        go_roundw
        case rel =>
          refine ⟨k - 1, _, l', t + y3, by omega, ?_, rfl, by omega, by omega, by omega, ?_, ho, hr, hg⟩
          · rw [Int.natCast_sub (by omega)]; rfl
          · omega
        case measure => simp [intOf]; omega
    · go_wp2
      go_ret
      exact ⟨_, l, _, rfl, ho, by omega, hr, by omega, hg⟩

set_option maxHeartbeats 1600000 in
theorem c_anyTable (g p : Nat) (w : World) (hr : Rdr w g p) (hp : p ≤ 1099511624000) :
    Calls Try.prog 60 #[.pointer (some ⟨g, 0, none⟩)] w fun e w' => ∃ v l p', e = .returned v ∧ MO w' w.heap.size v l ∧ l.length ≤ 14 ∧ Rdr w' g p' ∧ p' ≤ p + 45 ∧ w.grownBy w' (some g) := by
  have hgl := hr.lt
  go_enter Try.func60, Try.ntmps60
  go_wp2_with fail
  refine (c_someTable _ _ _ hr (by omega)).mono ?_
  rintro e w1 ⟨v, l, p1, rfl, ho, hl, hr, hp1, hg⟩
  obtain ⟨D, d, rfl, -, -, -⟩ := ho.slice
  go_wp2_with fail
  refine (c_pick _ _ _ _ hr (by omega)).mono ?_
  rintro e w2 ⟨y1, rfl, a1, b1, -, hr, h⟩
  replace hg := grown_trans hg h
  replace ho := ho.kept h hgl
  clear h b1
  by_cases hy : y1 = 0
  · subst hy
    go_wp2_with fail
    refine (c_one _ _ _ _ [2560, 65536, 9] _ (hr.alloc _) (by omega) (lit_ints _ rfl rfl) (by simp) (by simp) (lit_far hr rfl)).mono ?_
    rintro e w3 ⟨x, rfl, -, hr, h⟩
    replace hg := grown_trans (grown_alloc hg _) h
    replace ho := (ho.alloc _).kept h hgl
    clear h
    go_wp2_with fail
    refine (c_one _ _ _ _ [1000, 7] _ (hr.alloc _) (by omega) (lit_ints _ rfl rfl) (by simp) (by simp) (lit_far hr rfl)).mono ?_
    rintro e w4 ⟨y, rfl, -, hr, h⟩
    replace hg := grown_trans (grown_alloc hg _) h
    replace ho := (ho.alloc _).kept h hgl
    clear h
    go_wp2_with fail
    refine (c_one _ _ _ _ [1000, 1008, 1007, 999] _ (hr.alloc _) (by omega) (lit_ints _ rfl rfl) (by simp) (by simp) (lit_far hr rfl)).mono ?_
    rintro e w5 ⟨p, rfl, -, hr, h⟩
    replace hg := grown_trans (grown_alloc hg _) h
    replace ho := (ho.alloc _).kept h hgl
    clear h
    go_wp2_with fail
    refine (c_one _ _ _ _ [0, 10001] _ (hr.alloc _) (by omega) (lit_ints _ rfl rfl) (by simp) (by simp) (lit_far hr rfl)).mono ?_
    rintro e w6 ⟨la, rfl, -, hr, h⟩
    replace hg := grown_trans (grown_alloc hg _) h
    replace ho := (ho.alloc _).kept h hgl
    clear h
    have hL : TM (w6.alloc (.cells #[.int .i64 x, .int .i64 y, .int .i64 p, .int .i64 la] 63)) (some ⟨w6.heap.size, 0, none⟩) [⟨x, y, p, la⟩] := lit_map (w := w6) ⟨x, y, p, la⟩ rfl rfl
    have hoR : (w6.alloc (.cells #[.int .i64 x, .int .i64 y, .int .i64 p, .int .i64 la] 63)).ownsRow w.heap.size 63 4 (.slice D l.length d) l.length (mapCs l) := World.ownsRow.alloc ho _
    have hnl2 := mapCs_len [(⟨x, y, p, la⟩ : Mpg)]
    have hnc2 := mapCs_one [(⟨x, y, p, la⟩ : Mpg)]
    unfold TM at hL
    generalize hnle2 : mapCs [(⟨x, y, p, la⟩ : Mpg)] = nl2 at hnl2 hnc2 hL
    have HNL2 := Lib.hid hnle2
    clear hnle2
    have hsz := hg.size
    have hr7 := hr.alloc (.cells #[.int .i64 x, .int .i64 y, .int .i64 p, .int .i64 la] 63)
    have hg7 := grown_alloc hg (.cells #[.int .i64 x, .int .i64 y, .int .i64 p, .int .i64 la] 63)
    go_wp2_with (at_builtin; go_must (obtain ⟨i0, hi, hz0, hz1, hz2⟩ := info_parts mapT_info; refine wpList_append_rd _ rfl _ _ 42 rfl w.heap.size 63 i0 _ 4 32 Try.underlying42 hi hz0 hz1 hz2 rfl (by omega) _ l.length (mapCs l) rfl hoR (some ⟨w6.heap.size, 0, none⟩) 1 1 nl2 rfl hL hnl2 hnc2 (by unfold maxLen; omega) (by omega) (by simp; omega) ?_; intro v2 w7 ho7 hg8 hat7; clear hi hz0 hz1 hz2 hat7))
    have hr8 := hr7.row hg8 (fun k hk => by have := (World.ownsRow.lt hoR k hk).1; omega)
    have hg9 := grown_own hg7 hg8 (fun k hk => (World.ownsRow.lt hoR k hk).1)
    go_ret
    refine ⟨v2, l ++ [⟨x, y, p, la⟩], _, rfl, ?_, by simp; omega, hr8, by omega, hg9⟩
    unfold MO
    rw [mapCs_app, HNL2.out, List.length_append]
    exact ho7
  · have hy' : (y1 == 0) = false := by rw [beq_eq_false_iff_ne]; exact hy
    go_wp2
    go_ret
    exact ⟨_, l, _, rfl, ho, by omega, hr, by omega, hg⟩

set_option maxHeartbeats 1600000 in
theorem c_equalRecords (A A' : Option Addr) (n c c' : Nat) (l : List Rec) (w : World) (hn : l.length = n) (h : RR w A l) (h' : RR w A' l) (hl : n ≤ 1099511627776) :
    Calls Try.prog 30 #[.slice A n c, .slice A' n c'] w fun e w' => e = .returned (.bool true) ∧ Below w.heap.size w w' := by
  have HN := Lib.hid hn
  clear hn
  have tn : ((n : Int) != (n : Int)) = false := by simp
  have hneq := neq_rec
  have hgd := guard_rec
  go_enter Try.func30, Try.ntmps30
  go_wp2
  go_loopw [5] (fun i wr => ∃ k q : Nat, k ≤ n ∧ i = .int .i64 k ∧ wr = w.drewN q) (fun i _ => n - (intOf i).toNat)
  case atStart => exact ⟨0, 0, Nat.zero_le _, rfl, rfl⟩
  case round =>
    obtain ⟨k, q, hk, rfl, rfl⟩ := hrel
    by_cases hlt : k < n
    · have hkl : Hid (k < l.length) := by rw [HN.out]; exact hlt
      obtain ⟨b, off, rfl, hb, c0, c1, c2, c3, c4⟩ := h.get hkl.out
      obtain ⟨b', off', rfl, hb', d0, d1, d2, d3, d4⟩ := h'.get hkl.out
      have e2 : 0 ≤ (k : Int) ∧ (k : Int) < n := by omega
      have ht : eqRb (rn l k) (rn l k) = true := eqRb_iff.2 rfl
      go_wp2
      go_quiet (fail)
      go_wp2
      go_roundw
      case rel => exact ⟨k + 1, _, by omega, by go_num, rfl⟩
      case measure => simp [intOf]; omega
    · go_wp2
      go_ret
      exact ⟨rfl, Bl.drewN (Below.refl _ _) _⟩

theorem vTab_la {l : List Mpg} (h : vTab l = true) {k : Nat} (hk : k < l.length) : 0 ≤ (mn l k).la ∧ (mn l k).la ≤ 10000 := (okM_iff.1 (tab_at h hk).1).2.2

set_option maxHeartbeats 1600000 in
theorem c_DrawRecordsBetween (A : Option Addr) (n c : Nat) (w : World) (h : RB w A n) (hc : n ≤ c) :
    Calls Try.prog 28 #[.slice A n c] w fun e w' => ∃ D m d a E m' d' b now, e = .returned (.tuple #[.slice D m d, .slice E m' d', .int .i64 now]) ∧ a.length = m ∧ m ≤ d ∧ b.length = m' ∧ m' ≤ d' ∧ TM w' D a ∧ TM w' E b ∧ m ≤ 14 ∧ m' ≤ 14 ∧ -1 ≤ now ∧ now ≤ 10001 ∧ Below w.heap.size w w' := by
  go_enter Try.func28, Try.ntmps28
  go_wp2_with fail
  refine (c_newReader _ _ _ _ h hc).mono ?_
  rintro e w1 ⟨g, rfl, hr, hg, hb⟩
  have hgl := hr.lt
  go_wp2_with fail
  refine (c_anyTable _ _ _ hr (by omega)).mono ?_
  rintro e w2 ⟨v, a, p1, rfl, ho, hl, hr, hp1, hg1⟩
  obtain ⟨D, d, rfl, hd, -, -⟩ := ho.slice
  have hg2 := hg1.size
  go_wp2_with fail
  refine (c_anyTable _ _ _ hr (by omega)).mono ?_
  rintro e w3 ⟨v2, b, p2, rfl, ho2, hl2, hr, hp2, h3⟩
  obtain ⟨E, d', rfl, hd', -, -⟩ := ho2.slice
  replace ho := ho.kept h3 hgl
  replace ho2 := ho2.low hg2
  replace hg1 := grown_trans hg1 h3
  clear h3
  go_wp2_with fail
  refine (c_sValidTable _ _ _ a _ rfl (ho.tm rfl) (by omega)).mono ?_
  rintro e w4 ⟨rfl, hq⟩
  replace ho := ho.to hq
  replace ho2 := ho2.to hq
  replace hr := hr.to hq
  replace hg1 := grown_trans hg1 (grown_of_below hq (some g))
  clear hq
  cases hv : vTab a
  · go_wp2_with fail
    refine (c_one _ _ _ _ [0, 50, 10000, 10001, -1] _ (hr.alloc _) (by omega) (lit_ints _ rfl rfl) (by simp) (by simp) (lit_far hr rfl)).mono ?_
    rintro e w5 ⟨now, rfl, hx, hr, h5⟩
    replace hg1 := grown_trans (grown_alloc hg1 _) h5
    replace ho := (ho.alloc _).kept h5 hgl
    replace ho2 := (ho2.alloc _).kept h5 hgl
    have hxb : -1 ≤ now ∧ now ≤ 10001 := by
      simp only [List.mem_cons, List.not_mem_nil, or_false] at hx
      omega
    clear h5 hx
    go_wp2
    go_ret3
    exact ⟨D, _, d, a, E, _, d', b, now, rfl, rfl, hd, rfl, hd', ho.tm rfl, ho2.tm rfl, by omega, by omega, hxb.1, hxb.2, hb.trans (below_of_grown hg1 hb.size hg)⟩
  have HV := Lib.hid hv
  clear hv
  go_wp2_with fail
  refine (c_pick _ _ _ _ hr (by omega)).mono ?_
  rintro e w5 ⟨y1, rfl, a1, b1, -, hr, h⟩
  replace hg1 := grown_trans hg1 h
  replace ho := ho.kept h hgl
  replace ho2 := ho2.kept h hgl
  clear h b1
  by_cases hy : y1 = 0
  · subst hy
    go_wp2_with fail
    refine (c_pick _ _ _ _ hr (by omega)).mono ?_
    rintro e w6 ⟨y2, rfl, a2, b2, -, hr, h⟩
    replace b2 := b2 (by omega)
    replace hg1 := grown_trans hg1 h
    replace ho := ho.kept h hgl
    replace ho2 := ho2.kept h hgl
    clear h
    go_wp2_with fail
    refine (c_expire _ _ _ a y2 20 _ rfl (ho.tm rfl) (by omega) (fun k hk => by have := vTab_la HV.out hk; omega)).mono ?_
    rintro e w7 ⟨v7, rfl, ho7, hq⟩
    have hs6 := hg1.size
    have hlx := exM_len a y2 20 a.length
    generalize exM a y2 20 a.length = b2' at ho7 hlx
    obtain ⟨E2, d2, rfl, hd2, -, -⟩ := ho7.slice
    replace ho := ho.to hq
    replace hr := hr.to hq
    replace hg1 := grown_trans hg1 (grown_of_below hq (some g))
    replace ho7 := ho7.low (show w1.heap.size ≤ _ from hs6)
    clear hq ho2
    go_wp2_with fail
    refine (c_one _ _ _ _ [0, 50, 10000, 10001, -1] _ (hr.alloc _) (by omega) (lit_ints _ rfl rfl) (by simp) (by simp) (lit_far hr rfl)).mono ?_
    rintro e w8 ⟨now, rfl, hx, hr, h5⟩
    replace hg1 := grown_trans (grown_alloc hg1 _) h5
    replace ho := (ho.alloc _).kept h5 hgl
    replace ho7 := (ho7.alloc _).kept h5 hgl
    have hxb : -1 ≤ now ∧ now ≤ 10001 := by
      simp only [List.mem_cons, List.not_mem_nil, or_false] at hx
      omega
    clear h5 hx
    go_wp2
    go_ret3
    exact ⟨D, _, d, a, E2, _, d2, b2', now, rfl, rfl, hd, rfl, hd2, ho.tm rfl, ho7.tm rfl, by omega, by omega, hxb.1, hxb.2, hb.trans (below_of_grown hg1 hb.size hg)⟩
  · have hy' : (y1 == 0) = false := by rw [beq_eq_false_iff_ne]; exact hy
    go_wp2_with fail
    refine (c_one _ _ _ _ [0, 50, 10000, 10001, -1] _ (hr.alloc _) (by omega) (lit_ints _ rfl rfl) (by simp) (by simp) (lit_far hr rfl)).mono ?_
    rintro e w6 ⟨now, rfl, hx, hr, h5⟩
    replace hg1 := grown_trans (grown_alloc hg1 _) h5
    replace ho := (ho.alloc _).kept h5 hgl
    replace ho2 := (ho2.alloc _).kept h5 hgl
    have hxb : -1 ≤ now ∧ now ≤ 10001 := by
      simp only [List.mem_cons, List.not_mem_nil, or_false] at hx
      omega
    clear h5 hx
    go_wp2
    go_ret3
    exact ⟨D, _, d, a, E, _, d', b, now, rfl, rfl, hd, rfl, hd', ho.tm rfl, ho2.tm rfl, by omega, by omega, hxb.1, hxb.2, hb.trans (below_of_grown hg1 hb.size hg)⟩
end Go.Proofs.Ytaceadddggkkmaa
