/- Contracts of the laws' own helpers on lists of numbers: copies, marks, comparisons. -/
import Derived.Test.YtaceadddggkkmaaC1
namespace Go.Proofs.Ytaceadddggkkmaa
open Go.RowKit

theorem int_info : (Try.prog.info? 3).map (fun i => (i.zero, i.size, i.bytes)) = some (some (.int .i64 0), 1, 8) := by kernel_rfl

theorem c_isIn (A : Option Addr) (c : Nat) (zs : List Int) (x : Int) (w : World) (h : RI w A zs) (hl : zs.length ≤ 1099511627776) :
    Calls Try.prog 43 #[.slice A zs.length c, .int .i64 x] w fun e w' => e = .returned (.bool (hasB zs x)) ∧ w = w' := by
  go_enter Try.func43, Try.ntmps43
  go_wp2
  go_loop [5] (fun i => ∃ k : Nat, k ≤ zs.length ∧ i = .int .i64 k ∧ Hid (∀ j, j < k → (nth zs j == x) = false)) (fun i => zs.length - (intOf i).toNat)
  case atStart => exact ⟨0, Nat.zero_le _, rfl, fun j hj => absurd hj (by omega)⟩
  case round =>
    obtain ⟨k, hk, rfl, hP⟩ := hrel
    by_cases hlt : k < zs.length
    · obtain ⟨b, off, rfl, hb, hc⟩ := h.get hlt
      cases hx : nth zs k == x
      · go_wp2
        go_round
        case rel => exact ⟨k + 1, by omega, by go_num, upTo_succ hP.out hx⟩
        case measure => simp [intOf]; omega
      · go_wp2
        go_ret
        exact ⟨ret_bool (by unfold hasB; rw [anyUp_true hlt hx]), rfl⟩
    · go_wp2
      go_ret
      exact ⟨ret_bool (by unfold hasB; rw [anyUp_false (fun j hj => hP.out j (by omega))]), rfl⟩

end Go.Proofs.Ytaceadddggkkmaa
