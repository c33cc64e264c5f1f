/- Contracts of the functions on records: valid ends, who has which port. -/
import Derived.Test.YtaceadddggkkmaaRC
import Derived.Test.YtaceadddggkkmaaRM
import Derived.Test.YtaceadddggkkmaaC1
namespace Go.Proofs.Ytaceadddggkkmaa
open Go.RowKit

theorem c_endValid (ad ep : Int) (w : World) : Calls Try.prog 51 #[.agg #[.int .i64 ad, .int .i64 ep]] w fun e w' => e = .returned (.bool (inB ad 0 65535 && inB ep 0 65535)) ∧ Below w.heap.size w w' := by
  go_enter Try.func51, Try.ntmps51
  go_wp2_with fail
  refine (c_areWords _ _ [ad, ep] _ (lit_ints _ (by simp) rfl) (by simp)).mono ?_
  rintro e w1 ⟨rfl, rfl⟩
  go_wp2
  go_ret
  exact ⟨ret_bool (by unfold allIn allUp; simp [List.range_succ, nth]), ((Below.refl _ _).alloc (Nat.le_refl _) _).alloc (by simp) _⟩

theorem c_validEnd (ad ep : Int) (w : World) : Calls Try.prog 78 #[.agg #[.int .i64 ad, .int .i64 ep]] w fun e w' => e = .returned (.bool (inB ad 0 65535 && inB ep 0 65535)) ∧ Below w.heap.size w w' := by
  cases h1 : inB ad 0 65535
  · go_enter Try.func78, Try.ntmps78
    go_wp2_with fail
    refine (c_validAddr _ _).mono ?_
    rw [h1]
    rintro e w1 ⟨rfl, rfl⟩
    go_wp2
    go_ret
    exact ⟨rfl, (Below.refl _ _).alloc (Nat.le_refl _) _⟩
  · go_enter Try.func78, Try.ntmps78
    go_wp2_with fail
    refine (c_validAddr _ _).mono ?_
    rw [h1]
    rintro e w1 ⟨rfl, rfl⟩
    go_wp2_with fail
    refine (c_inRange _ _ _ _).mono ?_
    rintro e w1 ⟨rfl, rfl⟩
    go_wp2
    go_ret
    exact ⟨rfl, (Below.refl _ _).alloc (Nat.le_refl _) _⟩
theorem c_isOutside (p : Int) (w : World) : Calls Try.prog 50 #[.int .i64 p] w fun e w' => e = .returned (.bool (inB p 1000 1007)) ∧ w = w' := by
  go_enter Try.func50, Try.ntmps50
  go_wp2_with (go_at_call 49; refine (c_in _ _ _ _).mono ?_; rintro e w' ⟨rfl, rfl⟩)
  go_ret
  exact ⟨rfl, rfl⟩

theorem c_holder (A : Option Addr) (n c m : Nat) (l : List Rec) (p : Int) (w : World) (hn : l.length = n) (h : RR w A l) (hl : n ≤ 1099511627776) (hm : m ≤ n) :
    Calls Try.prog 58 #[.slice A n c, .int .i64 (m : Int), .int .i64 p] w fun e w' => e = .returned (.int .i64 (hold l p m)) ∧ w = w' := by
  have HN := Lib.hid hn
  clear hn
  go_enter Try.func58, Try.ntmps58
  go_wp2
  go_loop [7, 8] (fun a i => ∃ k : Nat, k ≤ m ∧ i = .int .i64 k ∧ a = .int .i64 (hold l p k)) (fun _ i => m - (intOf i).toNat)
  case atStart => exact ⟨0, Nat.zero_le _, rfl, rfl⟩
  case round =>
    obtain ⟨k, hk, rfl, rfl⟩ := hrel
    by_cases hlt : k < m
    · obtain ⟨b, off, rfl, hb, c0, c1, c2, c3, c4⟩ := h.get (k := k) (by rw [HN.out]; omega)
      have hkn : k < n := by omega
      have HS : Hid (hold l p (k + 1) = if (rn l k).po = p then (if (rn l k).ov then -1 else (k : Int)) else hold l p k) := rfl
      by_cases hp : (rn l k).po = p
      · have hb1 : ((rn l k).po == p) = true := by rw [beq_iff_eq]; exact hp
        cases ho : (rn l k).ov
        · rw [ho] at c4
          have HP := Lib.hid hp
          have HO := Lib.hid ho
          clear hp ho
          go_wp2
          go_round
          case rel => exact ⟨k + 1, by omega, by go_num, by rw [HS.out, if_pos HP.out, HO.out]; rfl⟩
          case measure => simp [intOf]; omega
        · rw [ho] at c4
          have HP := Lib.hid hp
          have HO := Lib.hid ho
          clear hp ho
          go_wp2
          go_round
          case rel => exact ⟨k + 1, by omega, by go_num, by rw [HS.out, if_pos HP.out, HO.out]; rfl⟩
          case measure => simp [intOf]; omega
      · have hb1 : ((rn l k).po == p) = false := by rw [beq_eq_false_iff_ne]; exact hp
        have HP := Lib.hid hp
        clear hp
        go_wp2
        go_round
        case rel => exact ⟨k + 1, by omega, by go_num, by rw [HS.out, if_neg HP.out]⟩
        case measure => simp [intOf]; omega
    · obtain hkm : k = m := by omega
      subst hkm
      go_wp2
      go_ret
      exact ⟨rfl, rfl⟩

theorem c_upTo (A : Option Addr) (n c : Nat) (l : List Rec) (now : Int) (w : World) (hn : l.length = n) (h : RR w A l) (hl : n ≤ 1099511627776) :
    Calls Try.prog 59 #[.slice A n c, .int .i64 now] w fun e w' => e = .returned (.int .i64 (upTo l now : Nat)) ∧ w = w' := by
  have HN := Lib.hid hn
  clear hn
  go_enter Try.func59, Try.ntmps59
  go_wp2
  go_loop [5] (fun i => ∃ k : Nat, k ≤ n ∧ i = .int .i64 k ∧ Hid (∀ j, j < k → (rn l j).at_ ≤ now)) (fun i => n - (intOf i).toNat)
  case atStart => exact ⟨0, Nat.zero_le _, rfl, fun j hj => absurd hj (by omega)⟩
  case round =>
    obtain ⟨k, hk, rfl, hP⟩ := hrel
    by_cases hlt : k < n
    · obtain ⟨b, off, rfl, hb, c0, c1, c2, c3, c4⟩ := h.get (k := k) (by rw [HN.out]; omega)
      by_cases hle : (rn l k).at_ ≤ now
      · have t1 : decide ((rn l k).at_ ≤ now) = true := by rw [decide_eq_true_eq]; exact hle
        go_wp2
        go_round
        case rel => exact ⟨k + 1, by omega, by go_num, upTo_succ hP.out hle⟩
        case measure => simp [intOf]; omega
      · have t1 : decide ((rn l k).at_ ≤ now) = false := by rw [decide_eq_false_iff_not]; exact hle
        have HU : Hid (upTo l now = k) := upTo_eq (by rw [HN.out]; omega) hP.out (fun _ => by omega)
        go_wp2
        go_ret
        exact ⟨ret_int (by rw [HU.out]), rfl⟩
    · have HU : Hid (upTo l now = k) := upTo_eq (by rw [HN.out]; omega) hP.out (fun h => by rw [HN.out] at h; omega)
      go_wp2
      go_ret
      exact ⟨ret_int (by rw [HU.out]), rfl⟩
end Go.Proofs.Ytaceadddggkkmaa
