/- Contracts of the laws' own helpers on lists of numbers: copies, marks, comparisons. -/
import Derived.Test.YtcfleoobhgagoaaC1
namespace Go.Proofs.Ytcfleoobhgagoaa
open Go.RowKit

theorem int_info : (Try.prog.info? 3).map (fun i => (i.zero, i.size, i.bytes)) = some (some (.int .i64 0), 1, 8) := by kernel_rfl

theorem c_toIntS (A : Option Addr) (c : Nat) (zs : List Int) (w : World) (h : RI w A zs) (hl : zs.length ≤ 1099511627776) :
    Calls Try.prog 21 #[.slice A zs.length c] w fun e w' => ∃ g, e = .returned (.slice (some ⟨g, 0, none⟩) zs.length zs.length) ∧ Blk w' g 3 (ints zs) ∧ w.heap.size ≤ g ∧ Below w.heap.size w w' := by
  obtain ⟨i0, hi, hz0, hz1, hz2⟩ := info_parts int_info
  have hmk := fun W => run_make_ints (P := Try.prog) 22 3 i0 Try.underlying22 hi hz0 hz1 hz2 zs.length hl W
  go_enter Try.func21, Try.ntmps21
  go_wp2
  go_loopw [4] (fun i wr => ∃ (k : Nat) (cs : Array Value), k ≤ zs.length ∧ i = .int .i64 k ∧ Hid (cs.size = zs.length) ∧ Hid (∀ j, j < k → cs[j]? = some (.int .i64 (nth zs j))) ∧ wr = w.alloc (.cells cs 3)) (fun i _ => zs.length - (intOf i).toNat)
  case atStart => exact ⟨0, _, Nat.zero_le _, rfl, by simp [Hid], fun j hj => absurd hj (by omega), rfl⟩
  case round =>
    obtain ⟨k, cs, hk, rfl, hs, hP, rfl⟩ := hrel
    by_cases hlt : k < zs.length
    · obtain ⟨b, off, rfl, hb, hc⟩ := h.get hlt
      obtain ⟨old, hold⟩ : ∃ old, cs[k]? = some old := ⟨_, Array.getElem?_eq_getElem (by have := hs.out; omega)⟩
      go_wp2
      go_roundw
      case rel =>
        refine ⟨k + 1, _, by omega, by go_num, by simpa [Hid] using hs.out, upTo_succ (fun j hj => ?_) ?_, rfl⟩
        · rw [Array.getElem?_setIfInBounds_ne (by omega)]; exact hP.out j hj
        · rw [Array.getElem?_setIfInBounds_self_of_lt (by have := hs.out; omega)]
      case measure => simp [intOf]; omega
    · go_wp2
      go_ret
      have hcs : cs = ints zs := ints_ext hs.out (fun j hj => hP.out j (by omega))
      exact ⟨_, rfl, hcs ▸ Blk.new w _ cs, Nat.le_refl _, (Below.refl _ _).alloc (Nat.le_refl _) _⟩

theorem c_isIn (A : Option Addr) (c : Nat) (zs : List Int) (x : Int) (w : World) (h : RI w A zs) (hl : zs.length ≤ 1099511627776) :
    Calls Try.prog 32 #[.slice A zs.length c, .int .i64 x] w fun e w' => e = .returned (.bool (hasB zs x)) ∧ w = w' := by
  go_enter Try.func32, Try.ntmps32
  go_wp2
  go_loop [5] (fun i => ∃ k : Nat, k ≤ zs.length ∧ i = .int .i64 k ∧ Hid (∀ j, j < k → (nth zs j == x) = false)) (fun i => zs.length - (intOf i).toNat)
  case atStart => exact ⟨0, Nat.zero_le _, rfl, fun j hj => absurd hj (by omega)⟩
  case round =>
    obtain ⟨k, hk, rfl, hP⟩ := hrel
    by_cases hlt : k < zs.length
    · obtain ⟨b, off, rfl, hb, hc⟩ := h.get hlt
      cases hx : nth zs k == x
      · go_wp2
        go_round
        case rel => exact ⟨k + 1, by omega, by go_num, upTo_succ hP.out hx⟩
        case measure => simp [intOf]; omega
      · go_wp2
        go_ret
        exact ⟨ret_bool (by unfold hasB; rw [anyUp_true hlt hx]), rfl⟩
    · go_wp2
      go_ret
      exact ⟨ret_bool (by unfold hasB; rw [anyUp_false (fun j hj => hP.out j (by omega))]), rfl⟩

theorem c_iValidPoolN (A : Option Addr) (n c : Nat) (zs : List Int) (w : World) (hn : zs.length = n) (h : RI w A zs) (hl : n ≤ 1099511627776) :
    Calls Try.prog 22 #[.slice A n c] w fun e w' => e = .returned (.bool (vPool zs)) ∧ w = w' := by
  subst hn; exact c_iValidPool A c zs w h hl
theorem c_iPoolAddrN (A : Option Addr) (n c : Nat) (zs : List Int) (a : Int) (w : World) (hn : zs.length = n) (h : RI w A zs) (hl : n ≤ 1099511627776) :
    Calls Try.prog 25 #[.slice A n c, .int .i64 a] w fun e w' => e = .returned (.int .i64 (pAddr zs a)) ∧ w = w' := by
  subst hn; exact c_iPoolAddr A c zs a w h hl
end Go.Proofs.Ytcfleoobhgagoaa
