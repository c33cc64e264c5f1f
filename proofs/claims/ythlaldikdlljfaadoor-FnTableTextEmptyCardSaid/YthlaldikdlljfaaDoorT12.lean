/- Contracts of the generators of tables: someTable, anyTable, DrawRecordsBetween; and of the laws' equalRecords. -/
import Derived.Test.YthlaldikdlljfaaDoorT11
import Derived.Test.YthlaldikdlljfaaDoorRE2
namespace Go.Proofs.YthlaldikdlljfaaDoor
open Go.RowKit

/-- What a generator of a table leaves. -/
def GenM (w : World) (g p k : Nat) (e : Ending) (w' : World) : Prop :=
  ∃ v l p', e = .returned v ∧ MO w' w.heap.size v l ∧ l.length ≤ 13 ∧ Rdr w' g p' ∧ p' ≤ p + k ∧ w.grownBy w' (some g)

set_option maxHeartbeats 1600000 in
theorem c_someTable (g p : Nat) (w : World) (hr : Rdr w g p) (hp : p ≤ 1099511625000) :
    Calls Tryd.prog 83 #[.pointer (some ⟨g, 0, none⟩)] w (GenM w g p 40) := by
  have hgl := hr.lt
  go_enter Tryd.func83, Tryd.ntmps83
  go_wp2_with fail
  have hg := grown_alloc (World.grownBy.refl w (some g)) (.cells #[] 48)
  have ho : MO (w.alloc (.cells #[] 48)) w.heap.size (.slice (some ⟨w.heap.size, 0, none⟩) 0 0) [] := MO.empty (Nat.le_refl _) rfl
  replace hr := hr.alloc (.cells #[] 48)
  refine (c_pick _ _ _ _ hr (by omega)).mono ?_
  rintro e w1 ⟨t0, rfl, ha, hb, -, hr, h⟩
  replace hb := hb (by omega)
  replace hg := grown_trans hg h
  replace ho := ho.kept h hgl
  clear h
  go_wp2_with fail
  refine (c_one _ _ _ _ [3, 4, 5, 2, 1, 0, 12] _ (hr.alloc _) (by omega) (lit_ints _ rfl rfl) (by simp) (by simp) (lit_far hr rfl)).mono ?_
  rintro e w2 ⟨n0, rfl, hx, hr, h⟩
  replace hg := grown_trans (grown_alloc hg _) h
  replace ho := (ho.alloc _).kept h hgl
  clear h
  have hbn : 0 ≤ n0 ∧ n0 ≤ 12 := by
    simp only [List.mem_cons, List.not_mem_nil, or_false] at hx
    omega
  clear hx
  obtain ⟨K, rfl⟩ := Int.eq_ofNat_of_zero_le hbn.1
  go_wp2
  go_loopw [3, 4, 5] (fun v tt i wr => ∃ (k pp : Nat) (l : List Mpg) (t : Int), k ≤ 12 ∧ i = .int .i64 k ∧ tt = .int .i64 t ∧ 0 ≤ t ∧ t + 20 * k ≤ 300 ∧ l.length + k ≤ 12 ∧ pp + 3 * k ≤ p + 38 ∧
      MO wr w.heap.size v l ∧ Rdr wr g pp ∧ w.grownBy wr (some g)) (fun _ _ i _ => (intOf i).toNat)
  case atStart => exact ⟨K, _, [], _, by omega, rfl, rfl, ha, by omega, by simp; omega, by omega, ho, hr, hg⟩
  case round =>
    clear ho hr hg hbn ha hb
    obtain ⟨k, pp, l, t, hk, rfl, rfl, ht0, ht1, hl, hpp, ho, hr, hg⟩ := hrel
    obtain ⟨D, d, rfl, hd, -, hD⟩ := ho.slice
    by_cases hk0 : 0 < k
    · go_wp2_with fail
      refine (c_pick _ _ _ _ hr (by omega)).mono ?_
      rintro e w3 ⟨y1, rfl, a1, b1, -, hr, h⟩
      replace b1 := b1 (by omega)
      replace hg := grown_trans hg h
      replace ho := ho.kept h hgl
      clear h
      go_wp2_with fail
      refine (c_one _ _ _ _ [1000, 1001, 80, 5000, 1003, 81] _ (hr.alloc _) (by omega) (lit_ints _ rfl rfl) (by simp) (by simp) (lit_far hr rfl)).mono ?_
      rintro e w4 ⟨y2, rfl, hx, hr, h⟩
      replace hg := grown_trans (grown_alloc hg _) h
      replace ho := (ho.alloc _).kept h hgl
      clear h hx
      go_wp2_with fail
      refine (c_MapEnd _ _ _ l (2560 + y1) y2 t _ rfl (ho.tm rfl) (by omega)).mono ?_
      intro e w5 hE
      rcases hq : mapE l (2560 + y1) y2 t with _ | ⟨l', q⟩
      · rw [hq] at hE
        clear hq
        obtain ⟨b, rfl⟩ := hE
        replace hg := grown_trans hg (grown_of_below b (some g))
        replace ho := ho.to b
        replace hr := hr.to b
        clear b
        go_wp2_with fail
        refine (c_pick _ _ _ _ hr (by omega)).mono ?_
        rintro e w6 ⟨y3, rfl, a3, b3, -, hr, h⟩
        replace b3 := b3 (by omega)
        replace hg := grown_trans hg h
        replace ho := ho.kept h hgl
        clear h
        go_wp2
        go_roundw
        case rel =>
          refine ⟨k - 1, _, l, t + y3, by omega, ?_, rfl, by omega, by omega, by omega, ?_, ho, hr, hg⟩
          · rw [Int.natCast_sub (by omega)]; rfl
          · omega
        case measure => simp [intOf]; omega
      · have hlen := mapE_len hq
        rw [hq] at hE
        clear hq
        obtain ⟨b, v', rfl, ho'⟩ := hE
        have hsz := hg.size
        replace hg := grown_trans hg (grown_of_below b (some g))
        replace ho := ho'.low hsz
        replace hr := hr.to b
        clear b ho'
        obtain ⟨D', d', rfl, -, -, -⟩ := ho.slice
        go_wp2_with fail
        refine (c_pick _ _ _ _ hr (by omega)).mono ?_
        rintro e w6 ⟨y3, rfl, a3, b3, -, hr, h⟩
        replace b3 := b3 (by omega)
        replace hg := grown_trans hg h
        replace ho := ho.kept h hgl
        clear h
        go_wp2
        go_roundw
        case rel =>
          refine ⟨k - 1, _, l', t + y3, by omega, ?_, rfl, by omega, by omega, by omega, ?_, ho, hr, hg⟩
          · rw [Int.natCast_sub (by omega)]; rfl
          · omega
        case measure => simp [intOf]; omega
    · go_wp2
      go_ret
      exact ⟨_, l, _, rfl, ho, by omega, hr, by omega, hg⟩

set_option maxHeartbeats 1600000 in
theorem c_anyTable (g p : Nat) (w : World) (hr : Rdr w g p) (hp : p ≤ 1099511624000) :
    Calls Tryd.prog 57 #[.pointer (some ⟨g, 0, none⟩)] w fun e w' => ∃ v l p', e = .returned v ∧ MO w' w.heap.size v l ∧ l.length ≤ 14 ∧ Rdr w' g p' ∧ p' ≤ p + 45 ∧ w.grownBy w' (some g) := by
  have hgl := hr.lt
  go_enter Tryd.func57, Tryd.ntmps57
  go_wp2_with fail
  refine (c_someTable _ _ _ hr (by omega)).mono ?_
  rintro e w1 ⟨v, l, p1, rfl, ho, hl, hr, hp1, hg⟩
  obtain ⟨D, d, rfl, -, -, -⟩ := ho.slice
  go_wp2_with fail
  refine (c_pick _ _ _ _ hr (by omega)).mono ?_
  rintro e w2 ⟨y1, rfl, a1, b1, -, hr, h⟩
  replace hg := grown_trans hg h
  replace ho := ho.kept h hgl
  clear h b1
  by_cases hy : y1 = 0
  · subst hy
    go_wp2_with fail
    refine (c_one _ _ _ _ [2560, 65536, 9] _ (hr.alloc _) (by omega) (lit_ints _ rfl rfl) (by simp) (by simp) (lit_far hr rfl)).mono ?_
    rintro e w3 ⟨x, rfl, -, hr, h⟩
    replace hg := grown_trans (grown_alloc hg _) h
    replace ho := (ho.alloc _).kept h hgl
    clear h
    go_wp2_with fail
    refine (c_one _ _ _ _ [1000, 7] _ (hr.alloc _) (by omega) (lit_ints _ rfl rfl) (by simp) (by simp) (lit_far hr rfl)).mono ?_
    rintro e w4 ⟨y, rfl, -, hr, h⟩
    replace hg := grown_trans (grown_alloc hg _) h
    replace ho := (ho.alloc _).kept h hgl
    clear h
    go_wp2_with fail
    refine (c_one _ _ _ _ [1000, 1008, 1007, 999] _ (hr.alloc _) (by omega) (lit_ints _ rfl rfl) (by simp) (by simp) (lit_far hr rfl)).mono ?_
    rintro e w5 ⟨p, rfl, -, hr, h⟩
    replace hg := grown_trans (grown_alloc hg _) h
    replace ho := (ho.alloc _).kept h hgl
    clear h
    go_wp2_with fail
    refine (c_one _ _ _ _ [0, 10001] _ (hr.alloc _) (by omega) (lit_ints _ rfl rfl) (by simp) (by simp) (lit_far hr rfl)).mono ?_
    rintro e w6 ⟨la, rfl, -, hr, h⟩
    replace hg := grown_trans (grown_alloc hg _) h
    replace ho := (ho.alloc _).kept h hgl
    clear h
    have hL : TM (w6.alloc (.cells #[.int .i64 x, .int .i64 y, .int .i64 p, .int .i64 la] 48)) (some ⟨w6.heap.size, 0, none⟩) [⟨x, y, p, la⟩] := lit_map (w := w6) ⟨x, y, p, la⟩ rfl rfl
    have hoR : (w6.alloc (.cells #[.int .i64 x, .int .i64 y, .int .i64 p, .int .i64 la] 48)).ownsRow w.heap.size 48 4 (.slice D l.length d) l.length (mapCs l) := World.ownsRow.alloc ho _
    have hnl2 := mapCs_len [(⟨x, y, p, la⟩ : Mpg)]
    have hnc2 := mapCs_one [(⟨x, y, p, la⟩ : Mpg)]
    unfold TM at hL
    generalize hnle2 : mapCs [(⟨x, y, p, la⟩ : Mpg)] = nl2 at hnl2 hnc2 hL
    have HNL2 := Lib.hid hnle2
    clear hnle2
    have hsz := hg.size
    have hr7 := hr.alloc (.cells #[.int .i64 x, .int .i64 y, .int .i64 p, .int .i64 la] 48)
    have hg7 := grown_alloc hg (.cells #[.int .i64 x, .int .i64 y, .int .i64 p, .int .i64 la] 48)
    go_wp2_with (at_builtin; go_must (obtain ⟨i0, hi, hz0, hz1, hz2⟩ := info_parts mapT_info; refine wpList_append_rd _ rfl _ _ 41 rfl w.heap.size 48 i0 _ 4 32 Tryd.underlying41 hi hz0 hz1 hz2 rfl (by omega) _ l.length (mapCs l) rfl hoR (some ⟨w6.heap.size, 0, none⟩) 1 1 nl2 rfl hL hnl2 hnc2 (by unfold maxLen; omega) (by omega) (by simp; omega) ?_; intro v2 w7 ho7 hg8 hat7; clear hi hz0 hz1 hz2 hat7))
    have hr8 := hr7.row hg8 (fun k hk => by have := (World.ownsRow.lt hoR k hk).1; omega)
    have hg9 := grown_own hg7 hg8 (fun k hk => (World.ownsRow.lt hoR k hk).1)
    go_ret
    refine ⟨v2, l ++ [⟨x, y, p, la⟩], _, rfl, ?_, by simp; omega, hr8, by omega, hg9⟩
    unfold MO
    rw [mapCs_app, HNL2.out, List.length_append]
    exact ho7
  · have hy' : (y1 == 0) = false := by rw [beq_eq_false_iff_ne]; exact hy
    go_wp2
    go_ret
    exact ⟨_, l, _, rfl, ho, by omega, hr, by omega, hg⟩

theorem vTab_la {l : List Mpg} (h : vTab l = true) {k : Nat} (hk : k < l.length) : 0 ≤ (mn l k).la ∧ (mn l k).la ≤ 10000 := (okM_iff.1 (tab_at h hk).1).2.2

end Go.Proofs.YthlaldikdlljfaaDoor
