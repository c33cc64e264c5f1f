/- Contracts of the functions that only read numbers and lists of numbers. -/
import Derived.Test.YtaceadddggkkmaaBase
import Derived.Test.YtaceadddggkkmaaPlain
import Derived.Test.YtaceadddggkkmaaPool
import Derived.Test.YtaceadddggkkmaaProg
namespace Go.Proofs.Ytaceadddggkkmaa
open Go.RowKit

theorem c_in (n lo hi : Int) (w : World) : Calls Try.prog 49 #[.int .i64 n, .int .i64 lo, .int .i64 hi] w fun e w' => e = .returned (.bool (inB n lo hi)) ∧ w = w' := by
  go_enter Try.func49, Try.ntmps49
  go_wp2
  all_goals
    go_ret
    exact ⟨ret_bool (by unfold inB; simp; try omega), rfl⟩
theorem c_inRange (n lo hi : Int) (w : World) : Calls Try.prog 68 #[.int .i64 n, .int .i64 lo, .int .i64 hi] w fun e w' => e = .returned (.bool (inB n lo hi)) ∧ w = w' := by
  go_enter Try.func68, Try.ntmps68
  go_wp2
  all_goals
    go_ret
    exact ⟨ret_bool (by unfold inB; simp; try omega), rfl⟩
theorem c_isWord (n : Int) (w : World) : Calls Try.prog 87 #[.int .i64 n] w fun e w' => e = .returned (.bool (inB n 0 65535)) ∧ w = w' := by
  go_enter Try.func87, Try.ntmps87
  go_wp2_with (go_at_call 49; refine (c_in _ _ _ _).mono ?_; rintro e w' ⟨rfl, rfl⟩)
  go_ret
  exact ⟨rfl, rfl⟩
theorem c_validAddr (n : Int) (w : World) : Calls Try.prog 88 #[.int .i64 n] w fun e w' => e = .returned (.bool (inB n 0 65535)) ∧ w = w' := by
  go_enter Try.func88, Try.ntmps88
  go_wp2_with (go_at_call 68; refine (c_inRange _ _ _ _).mono ?_; rintro e w' ⟨rfl, rfl⟩)
  go_ret
  exact ⟨rfl, rfl⟩

theorem c_areWords (A : Option Addr) (c : Nat) (zs : List Int) (w : World) (h : RI w A zs) (hl : zs.length ≤ 1099511627776) :
    Calls Try.prog 77 #[.slice A zs.length c] w fun e w' => e = .returned (.bool (allIn zs 0 65535)) ∧ w = w' := by
  go_enter Try.func77, Try.ntmps77
  go_wp2
  go_loop [7] (fun i => ∃ k : Nat, k ≤ zs.length ∧ i = .int .i64 k ∧ Hid (∀ j, j < k → inB (nth zs j) 0 65535 = true)) (fun i => zs.length - (intOf i).toNat)
  case atStart => exact ⟨0, Nat.zero_le _, rfl, fun j hj => absurd hj (by omega)⟩
  case round =>
    obtain ⟨k, hk, rfl, hP⟩ := hrel
    by_cases hlt : k < zs.length
    · obtain ⟨b, off, rfl, hb, hc⟩ := h.get hlt
      cases hin : inB (nth zs k) 0 65535
      · go_wp2_with (go_at_call 87; refine (c_isWord _ _).mono ?_; rintro e w' ⟨rfl, rfl⟩)
        go_ret
        exact ⟨ret_bool (by unfold allIn; rw [allUp_false hlt hin]), rfl⟩
      · go_wp2_with (go_at_call 87; refine (c_isWord _ _).mono ?_; rintro e w' ⟨rfl, rfl⟩)
        go_round
        case rel => exact ⟨k + 1, by omega, by go_num, upTo_succ hP.out hin⟩
        case measure => simp [intOf]; omega
    · go_wp2
      go_ret
      exact ⟨ret_bool (by unfold allIn; rw [allUp_true (fun j hj => hP.out j (by omega))]), rfl⟩

theorem c_eqIntS (A B : Option Addr) (c d : Nat) (xs ys : List Int) (w : World) (hA : RI w A xs) (hB : RI w B ys) (hl : xs.length ≤ 1099511627776) :
    Calls Try.prog 44 #[.slice A xs.length c, .slice B ys.length d] w fun e w' => e = .returned (.bool (eqL xs ys)) ∧ ∃ q, w' = w.drewN q := by
  by_cases hne : xs.length = ys.length
  · have HL := Lib.hid hne
    rw [← hne]
    clear hne
    go_enter Try.func44, Try.ntmps44
    go_wp2
    go_loopw [5] (fun i wr => ∃ k q : Nat, k ≤ xs.length ∧ i = .int .i64 k ∧ Hid (∀ j, j < k → nth xs j = nth ys j) ∧ wr = w.drewN q) (fun i _ => xs.length - (intOf i).toNat)
    case atStart => exact ⟨0, 0, by omega, rfl, fun j hj => absurd hj (by omega), rfl⟩
    case round =>
      obtain ⟨k, q, hk, rfl, hP, rfl⟩ := hrel
      by_cases hlt : k < xs.length
      · obtain ⟨b, off, rfl, hb, hc⟩ := hA.get hlt
        obtain ⟨b', off', rfl, hb', hc'⟩ := hB.get (k := k) (by rw [← HL.out]; exact hlt)
        by_cases he : nth xs k = nth ys k
        · have hq : (nth xs k != nth ys k) = false := by simp [he]
          have HE := Lib.hid he
          clear he
          go_wp2
          go_quiet (fail)
          go_wp2
          go_roundw
          case rel => exact ⟨k + 1, _, by omega, by go_num, upTo_succ hP.out HE.out, rfl⟩
          case measure => simp [intOf]; omega
        · have hq : (nth xs k != nth ys k) = true := by simp [he]
          go_wp2
          go_quiet (fail)
          go_wp2
          go_ret
          exact ⟨ret_bool (by rw [eqL_at he]), _, World.drewN_drewN _ _ _⟩
      · go_wp2
        go_ret
        exact ⟨ret_bool (by rw [eqL_all HL.out (fun j hj => hP.out j (by omega))]), _, rfl⟩
  · go_enter Try.func44, Try.ntmps44
    go_wp2
    go_ret
    exact ⟨ret_bool (by rw [eqL_len hne]), 0, rfl⟩
end Go.Proofs.Ytaceadddggkkmaa
