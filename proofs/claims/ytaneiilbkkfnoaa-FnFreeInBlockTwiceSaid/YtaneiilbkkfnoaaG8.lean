/- Contract of the generator: ports of a block that are used. -/
import Derived.Test.YtaneiilbkkfnoaaG6
namespace Go.Proofs.Ytaneiilbkkfnoaa
open Go.RowKit

/-- What a generator of a list in new memory leaves. -/
def GenF (w : World) (g p m k : Nat) (e : Ending) (w' : World) : Prop :=
  ∃ A n c zs p', e = .returned (.slice A n c) ∧ zs.length = n ∧ n ≤ c ∧ RI w' A zs ∧ n ≤ m ∧ Rdr w' g p' ∧ p' ≤ p + k ∧ w.grownBy w' (some g) ∧ ∀ a, A = some a → w.heap.size ≤ a.block

set_option maxHeartbeats 800000 in
theorem c_someUsed (g p : Nat) (f : Int) (w : World) (hr : Rdr w g p) (hp : p ≤ 1099511626000) (hf0 : -1000000 ≤ f) (hf1 : f ≤ 1000000) :
    Calls Try.prog 56 #[.pointer (some ⟨g, 0, none⟩), .int .i64 f] w (GenF w g p 24 20) := by
  obtain ⟨i0, hi, hz0, hz1, hz2⟩ := info_parts int_info
  have hgl := hr.lt
  go_enter Try.func56, Try.ntmps56
  go_wp2_with fail
  have hg := grown_alloc (World.grownBy.refl w (some g)) (.cells #[] 3)
  have ho : (w.alloc (.cells #[] 3)).ownsRow w.heap.size 3 1 (.slice (some ⟨w.heap.size, 0, none⟩) 0 0) 0 [] := own_empty (Nat.le_refl _) rfl
  replace hr := hr.alloc (.cells #[] 3)
  refine (c_one _ _ _ _ [3, 5, 2, 8, 0, 1] _ (hr.alloc _) (by omega) (lit_ints _ (by simp) rfl) (by simp) (by simp) (lit_far hr (by simp))).mono ?_
  rintro e w2 ⟨x2, rfl, hx, hr, h⟩
  replace hg := grown_trans (grown_alloc hg _) h
  replace ho := own_kept (ho.alloc _) h hgl
  clear h
  have hb : 0 ≤ x2 ∧ x2 ≤ 8 := by
    simp only [List.mem_cons, List.not_mem_nil, or_false] at hx
    omega
  clear hx
  obtain ⟨K, rfl⟩ := Int.eq_ofNat_of_zero_le hb.1
  go_wp2
  go_loopw [5, 6] (fun v i wr => ∃ (k pp : Nat) (zs : List Int), k ≤ 8 ∧ i = .int .i64 k ∧ zs.length + k ≤ 8 ∧ pp + k ≤ p + 10 ∧
      wr.ownsRow w.heap.size 3 1 v zs.length (zs.map (Value.int .i64)) ∧ Rdr wr g pp ∧ w.grownBy wr (some g)) (fun _ i _ => (intOf i).toNat)
  case atStart => exact ⟨K, _, [], by omega, rfl, by simp; omega, by omega, ho, hr, hg⟩
  case round =>
    clear ho hr hg hb
    obtain ⟨k, pp, zs, hk, rfl, hl, hpp, ho, hr, hg⟩ := hrel
    by_cases hk0 : 0 < k
    · go_wp2_with fail
      refine (c_pick _ _ _ _ hr (by omega)).mono ?_
      rintro e w3 ⟨y1, rfl, a1, b1, -, hr, h⟩
      replace b1 := b1 (by omega)
      replace hg := grown_trans hg h
      replace ho := own_kept ho h hgl
      clear h
      have hsz := hg.size
      go_wp2_with (at_builtin; refine wpList_append_rd _ rfl _ _ 35 rfl w.heap.size 3 i0 _ 1 8 Try.underlying35 hi hz0 hz1 hz2 rfl (by omega) _ zs.length (zs.map (Value.int .i64)) rfl (ho.alloc _) (some ⟨w3.heap.size, 0, none⟩) 1 1 [.int .i64 (f + y1)] rfl (lit_ints [f + y1] rfl rfl) (by simp) (one_ints [f + y1]) (by unfold maxLen; omega) (by omega) (by simp; omega) ?_; intro v1 w7 ho3 hg3 hat3)
      have hr3 := (hr.alloc (.cells #[.int .i64 (f + y1)] 3)).row hg3 (fun k hk => by have := (ho.lt k hk).1; omega)
      have hg4 := grown_own (grown_alloc hg (.cells #[.int .i64 (f + y1)] 3)) hg3 (fun k hk => (ho.lt k hk).1)
      clear ho hr hg hg3 hat3
      go_roundw
      case rel =>
        refine ⟨k - 1, _, zs ++ [f + y1], by omega, ?_, by simp; omega, ?_, by simpa using ho3, hr3, hg4⟩
        · rw [Int.natCast_sub (by omega)]; rfl
        · omega
      case measure => simp [intOf]; omega
    · go_wp2_with fail
      refine (c_pick _ _ _ _ hr (by omega)).mono ?_
      rintro e w3 ⟨y1, rfl, a1, b1, -, hr, h⟩
      replace b1 := b1 (by omega)
      replace hg := grown_trans hg h
      replace ho := own_kept ho h hgl
      clear h
      cases hy : y1 == 0
      · obtain ⟨B, d, rfl, hd, hdm, hB⟩ := own_slice ho
        go_wp2
        go_ret
        exact ⟨B, _, d, zs, _, rfl, rfl, hd, (RI.ofOwn ho).1, by omega, hr, by omega, hg, fun a ha => (hB a ha).1⟩
      · go_wp2
        go_loopw [5, 7] (fun v i wr => ∃ (k : Nat) (zs : List Int), k ≤ 16 ∧ i = .int .i64 k ∧ zs.length ≤ 8 + k ∧
            wr.ownsRow w.heap.size 3 1 v zs.length (zs.map (Value.int .i64)) ∧ Rdr wr g (pp + 1) ∧ w.grownBy wr (some g)) (fun _ i _ => 16 - (intOf i).toNat)
        case atStart => exact ⟨0, zs, by omega, rfl, by omega, ho, hr, hg⟩
        case round =>
          clear ho hr hg hy hl
          obtain ⟨j, zs, hk, rfl, hl, ho, hr, hg⟩ := hrel
          by_cases hj : j < 16
          · have hsz := hg.size
            go_wp2_with (at_builtin; refine wpList_append_rd _ rfl _ _ 35 rfl w.heap.size 3 i0 _ 1 8 Try.underlying35 hi hz0 hz1 hz2 rfl (by omega) _ zs.length (zs.map (Value.int .i64)) rfl (ho.alloc _) (some ⟨wr.heap.size, 0, none⟩) 1 1 [.int .i64 (f + j)] rfl (lit_ints [f + j] rfl rfl) (by simp) (one_ints [f + j]) (by unfold maxLen; omega) (by omega) (by simp; omega) ?_; intro v1 w7 ho3 hg3 hat3)
            have hr3 := (hr.alloc (.cells #[.int .i64 (f + j)] 3)).row hg3 (fun k hk => by have := (ho.lt k hk).1; omega)
            have hg4 := grown_own (grown_alloc hg (.cells #[.int .i64 (f + j)] 3)) hg3 (fun k hk => (ho.lt k hk).1)
            clear ho hr hg hg3 hat3
            go_roundw
            case rel => exact ⟨j + 1, zs ++ [f + j], by omega, by go_num, by simp; omega, by simpa using ho3, hr3, hg4⟩
            case measure => simp [intOf]; omega
          · obtain ⟨B, d, rfl, hd, hdm, hB⟩ := own_slice ho
            go_wp2
            go_ret
            exact ⟨B, _, d, zs, _, rfl, rfl, hd, (RI.ofOwn ho).1, by omega, hr, by omega, hg, fun a ha => (hB a ha).1⟩
end Go.Proofs.Ytaneiilbkkfnoaa
