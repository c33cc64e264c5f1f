/- Contracts of the functions that only read numbers and lists of numbers. -/
import Derived.Test.YthlaldikdlljfaaDoorBase
import Derived.Test.YthlaldikdlljfaaDoorPlain
import Derived.Test.YthlaldikdlljfaaDoorPool
import Derived.Test.YthlaldikdlljfaaDoorProg
namespace Go.Proofs.YthlaldikdlljfaaDoor
open Go.RowKit

theorem c_in (n lo hi : Int) (w : World) : Calls Tryd.prog 71 #[.int .i64 n, .int .i64 lo, .int .i64 hi] w fun e w' => e = .returned (.bool (inB n lo hi)) ∧ w = w' := by
  go_enter Tryd.func71, Tryd.ntmps71
  go_wp2
  all_goals
    go_ret
    exact ⟨ret_bool (by unfold inB; simp; try omega), rfl⟩
theorem c_inRange (n lo hi : Int) (w : World) : Calls Tryd.prog 75 #[.int .i64 n, .int .i64 lo, .int .i64 hi] w fun e w' => e = .returned (.bool (inB n lo hi)) ∧ w = w' := by
  go_enter Tryd.func75, Tryd.ntmps75
  go_wp2
  all_goals
    go_ret
    exact ⟨ret_bool (by unfold inB; simp; try omega), rfl⟩
theorem c_isWord (n : Int) (w : World) : Calls Tryd.prog 72 #[.int .i64 n] w fun e w' => e = .returned (.bool (inB n 0 65535)) ∧ w = w' := by
  go_enter Tryd.func72, Tryd.ntmps72
  go_wp2_with (go_at_call 71; refine (c_in _ _ _ _).mono ?_; rintro e w' ⟨rfl, rfl⟩)
  go_ret
  exact ⟨rfl, rfl⟩
theorem c_validAddr (n : Int) (w : World) : Calls Tryd.prog 74 #[.int .i64 n] w fun e w' => e = .returned (.bool (inB n 0 65535)) ∧ w = w' := by
  go_enter Tryd.func74, Tryd.ntmps74
  go_wp2_with (go_at_call 75; refine (c_inRange _ _ _ _).mono ?_; rintro e w' ⟨rfl, rfl⟩)
  go_ret
  exact ⟨rfl, rfl⟩

theorem c_areWords (A : Option Addr) (c : Nat) (zs : List Int) (w : World) (h : RI w A zs) (hl : zs.length ≤ 1099511627776) :
    Calls Tryd.prog 76 #[.slice A zs.length c] w fun e w' => e = .returned (.bool (allIn zs 0 65535)) ∧ w = w' := by
  go_enter Tryd.func76, Tryd.ntmps76
  go_wp2
  go_loop [7] (fun i => ∃ k : Nat, k ≤ zs.length ∧ i = .int .i64 k ∧ Hid (∀ j, j < k → inB (nth zs j) 0 65535 = true)) (fun i => zs.length - (intOf i).toNat)
  case atStart => exact ⟨0, Nat.zero_le _, rfl, fun j hj => absurd hj (by omega)⟩
  case round =>
    obtain ⟨k, hk, rfl, hP⟩ := hrel
    by_cases hlt : k < zs.length
    · obtain ⟨b, off, rfl, hb, hc⟩ := h.get hlt
      cases hin : inB (nth zs k) 0 65535
      · go_wp2_with (go_at_call 72; refine (c_isWord _ _).mono ?_; rintro e w' ⟨rfl, rfl⟩)
        go_ret
        exact ⟨ret_bool (by unfold allIn; rw [allUp_false hlt hin]), rfl⟩
      · go_wp2_with (go_at_call 72; refine (c_isWord _ _).mono ?_; rintro e w' ⟨rfl, rfl⟩)
        go_round
        case rel => exact ⟨k + 1, by omega, by go_num, upTo_succ hP.out hin⟩
        case measure => simp [intOf]; omega
    · go_wp2
      go_ret
      exact ⟨ret_bool (by unfold allIn; rw [allUp_true (fun j hj => hP.out j (by omega))]), rfl⟩

end Go.Proofs.YthlaldikdlljfaaDoor
