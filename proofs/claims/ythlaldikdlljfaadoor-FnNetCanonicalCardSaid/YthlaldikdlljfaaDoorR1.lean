/- Contracts of the functions on records: valid ends, who has which port. -/
import Derived.Test.YthlaldikdlljfaaDoorRC
import Derived.Test.YthlaldikdlljfaaDoorRM
import Derived.Test.YthlaldikdlljfaaDoorC1
namespace Go.Proofs.YthlaldikdlljfaaDoor
open Go.RowKit

theorem c_endValid (ad ep : Int) (w : World) : Calls Tryd.prog 44 #[.agg #[.int .i64 ad, .int .i64 ep]] w fun e w' => e = .returned (.bool (inB ad 0 65535 && inB ep 0 65535)) ∧ Below w.heap.size w w' := by
  go_enter Tryd.func44, Tryd.ntmps44
  go_wp2_with fail
  refine (c_areWords _ _ [ad, ep] _ (lit_ints _ (by simp) rfl) (by simp)).mono ?_
  rintro e w1 ⟨rfl, rfl⟩
  go_wp2
  go_ret
  exact ⟨ret_bool (by unfold allIn allUp; simp [List.range_succ, nth]), ((Below.refl _ _).alloc (Nat.le_refl _) _).alloc (by simp) _⟩

theorem c_validEnd (ad ep : Int) (w : World) : Calls Tryd.prog 41 #[.agg #[.int .i64 ad, .int .i64 ep]] w fun e w' => e = .returned (.bool (inB ad 0 65535 && inB ep 0 65535)) ∧ Below w.heap.size w w' := by
  cases h1 : inB ad 0 65535
  · go_enter Tryd.func41, Tryd.ntmps41
    go_wp2_with fail
    refine (c_validAddr _ _).mono ?_
    rw [h1]
    rintro e w1 ⟨rfl, rfl⟩
    go_wp2
    go_ret
    exact ⟨rfl, (Below.refl _ _).alloc (Nat.le_refl _) _⟩
  · go_enter Tryd.func41, Tryd.ntmps41
    go_wp2_with fail
    refine (c_validAddr _ _).mono ?_
    rw [h1]
    rintro e w1 ⟨rfl, rfl⟩
    go_wp2_with fail
    refine (c_inRange _ _ _ _).mono ?_
    rintro e w1 ⟨rfl, rfl⟩
    go_wp2
    go_ret
    exact ⟨rfl, (Below.refl _ _).alloc (Nat.le_refl _) _⟩
theorem c_isOutside (p : Int) (w : World) : Calls Tryd.prog 58 #[.int .i64 p] w fun e w' => e = .returned (.bool (inB p 1000 1007)) ∧ w = w' := by
  go_enter Tryd.func58, Tryd.ntmps58
  go_wp2_with (go_at_call 71; refine (c_in _ _ _ _).mono ?_; rintro e w' ⟨rfl, rfl⟩)
  go_ret
  exact ⟨rfl, rfl⟩

end Go.Proofs.YthlaldikdlljfaaDoor
