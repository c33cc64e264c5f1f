/- Contracts of the functions that only read numbers and lists of numbers. -/
import Derived.Test.YtcfleoobhgagoaaBase
import Derived.Test.YtcfleoobhgagoaaPlain
import Derived.Test.YtcfleoobhgagoaaPool
import Derived.Test.YtcfleoobhgagoaaProg
namespace Go.Proofs.Ytcfleoobhgagoaa
open Go.RowKit

theorem c_in (n lo hi : Int) (w : World) : Calls Try.prog 43 #[.int .i64 n, .int .i64 lo, .int .i64 hi] w fun e w' => e = .returned (.bool (inB n lo hi)) ∧ w = w' := by
  go_enter Try.func43, Try.ntmps43
  go_wp2
  all_goals
    go_ret
    exact ⟨ret_bool (by unfold inB; simp; try omega), rfl⟩
theorem c_inRange (n lo hi : Int) (w : World) : Calls Try.prog 61 #[.int .i64 n, .int .i64 lo, .int .i64 hi] w fun e w' => e = .returned (.bool (inB n lo hi)) ∧ w = w' := by
  go_enter Try.func61, Try.ntmps61
  go_wp2
  all_goals
    go_ret
    exact ⟨ret_bool (by unfold inB; simp; try omega), rfl⟩
theorem c_isWord (n : Int) (w : World) : Calls Try.prog 42 #[.int .i64 n] w fun e w' => e = .returned (.bool (inB n 0 65535)) ∧ w = w' := by
  go_enter Try.func42, Try.ntmps42
  go_wp2_with (go_at_call 43; refine (c_in _ _ _ _).mono ?_; rintro e w' ⟨rfl, rfl⟩)
  go_ret
  exact ⟨rfl, rfl⟩
theorem c_validAddr (n : Int) (w : World) : Calls Try.prog 44 #[.int .i64 n] w fun e w' => e = .returned (.bool (inB n 0 65535)) ∧ w = w' := by
  go_enter Try.func44, Try.ntmps44
  go_wp2_with (go_at_call 61; refine (c_inRange _ _ _ _).mono ?_; rintro e w' ⟨rfl, rfl⟩)
  go_ret
  exact ⟨rfl, rfl⟩

theorem c_iValidPool (A : Option Addr) (c : Nat) (zs : List Int) (w : World) (h : RI w A zs) (hl : zs.length ≤ 1099511627776) :
    Calls Try.prog 22 #[.slice A zs.length c] w fun e w' => e = .returned (.bool (vPool zs)) ∧ w = w' := by
  go_enter Try.func22, Try.ntmps22
  go_wp2
  go_loop [7] (fun i => ∃ k : Nat, k ≤ zs.length ∧ i = .int .i64 k ∧ Hid (∀ j, j < k → vPoolAt zs j = true)) (fun i => zs.length - (intOf i).toNat)
  case atStart => exact ⟨0, Nat.zero_le _, rfl, fun j hj => absurd hj (by omega)⟩
  case round =>
    obtain ⟨k, hk, rfl, hP⟩ := hrel
    by_cases hlt : k < zs.length
    · obtain ⟨b, off, rfl, hb, hc⟩ := h.get hlt
      have hp : 0 < k → w.cell? ⟨b, off + (k - 1), none⟩ = some (.int .i64 (nth zs (k - 1))) := fun h0 => by
        obtain ⟨b', off', e, _, hc'⟩ := h.get (k := k - 1) (by omega)
        cases e; exact hc'
      go_wp2_with (go_at_call 42; refine (c_isWord _ _).mono ?_; rintro e w' ⟨rfl, rfl⟩)
      all_goals first
        | (go_round
           case rel => exact ⟨k + 1, by omega, by go_num, upTo_succ hP.out (by simp [vPoolAt, *]; try omega)⟩
           case measure => simp [intOf]; omega)
        | (go_ret; exact ⟨ret_bool (by unfold vPool; rw [allUp_false hlt (by simp [vPoolAt, *]; try omega)]; rfl), rfl⟩)
    · go_wp2_with (go_at_call 43; refine (c_in _ _ _ _).mono ?_; rintro e w' ⟨rfl, rfl⟩)
      go_ret
      exact ⟨ret_bool (by unfold vPool; rw [allUp_true (fun j hj => hP.out j (by omega))]; rfl), rfl⟩

theorem c_areWords (A : Option Addr) (c : Nat) (zs : List Int) (w : World) (h : RI w A zs) (hl : zs.length ≤ 1099511627776) :
    Calls Try.prog 63 #[.slice A zs.length c] w fun e w' => e = .returned (.bool (allIn zs 0 65535)) ∧ w = w' := by
  go_enter Try.func63, Try.ntmps63
  go_wp2
  go_loop [7] (fun i => ∃ k : Nat, k ≤ zs.length ∧ i = .int .i64 k ∧ Hid (∀ j, j < k → inB (nth zs j) 0 65535 = true)) (fun i => zs.length - (intOf i).toNat)
  case atStart => exact ⟨0, Nat.zero_le _, rfl, fun j hj => absurd hj (by omega)⟩
  case round =>
    obtain ⟨k, hk, rfl, hP⟩ := hrel
    by_cases hlt : k < zs.length
    · obtain ⟨b, off, rfl, hb, hc⟩ := h.get hlt
      cases hin : inB (nth zs k) 0 65535
      · go_wp2_with (go_at_call 42; refine (c_isWord _ _).mono ?_; rintro e w' ⟨rfl, rfl⟩)
        go_ret
        exact ⟨ret_bool (by unfold allIn; rw [allUp_false hlt hin]), rfl⟩
      · go_wp2_with (go_at_call 42; refine (c_isWord _ _).mono ?_; rintro e w' ⟨rfl, rfl⟩)
        go_round
        case rel => exact ⟨k + 1, by omega, by go_num, upTo_succ hP.out hin⟩
        case measure => simp [intOf]; omega
    · go_wp2
      go_ret
      exact ⟨ret_bool (by unfold allIn; rw [allUp_true (fun j hj => hP.out j (by omega))]), rfl⟩

theorem c_allIn (A : Option Addr) (c : Nat) (zs : List Int) (lo hi : Int) (w : World) (h : RI w A zs) (hl : zs.length ≤ 1099511627776) :
    Calls Try.prog 49 #[.slice A zs.length c, .int .i64 lo, .int .i64 hi] w fun e w' => e = .returned (.bool (allIn zs lo hi)) ∧ w = w' := by
  go_enter Try.func49, Try.ntmps49
  go_wp2
  go_loop [7] (fun i => ∃ k : Nat, k ≤ zs.length ∧ i = .int .i64 k ∧ Hid (∀ j, j < k → inB (nth zs j) lo hi = true)) (fun i => zs.length - (intOf i).toNat)
  case atStart => exact ⟨0, Nat.zero_le _, rfl, fun j hj => absurd hj (by omega)⟩
  case round =>
    obtain ⟨k, hk, rfl, hP⟩ := hrel
    by_cases hlt : k < zs.length
    · obtain ⟨b, off, rfl, hb, hc⟩ := h.get hlt
      cases hin : inB (nth zs k) lo hi
      · go_wp2_with (go_at_call 61; refine (c_inRange _ _ _ _).mono ?_; rintro e w' ⟨rfl, rfl⟩)
        go_ret
        exact ⟨ret_bool (by unfold allIn; rw [allUp_false hlt hin]), rfl⟩
      · go_wp2_with (go_at_call 61; refine (c_inRange _ _ _ _).mono ?_; rintro e w' ⟨rfl, rfl⟩)
        go_round
        case rel => exact ⟨k + 1, by omega, by go_num, upTo_succ hP.out hin⟩
        case measure => simp [intOf]; omega
    · go_wp2
      go_ret
      exact ⟨ret_bool (by unfold allIn; rw [allUp_true (fun j hj => hP.out j (by omega))]), rfl⟩

theorem c_asked (A : Option Addr) (c : Nat) (zs : List Int) (w : World) (h : RI w A zs) (hl : zs.length ≤ 1099511627776) :
    Calls Try.prog 50 #[.slice A zs.length c] w fun e w' => e = .returned (.bool (askB zs)) ∧ w = w' := by
  go_enter Try.func50, Try.ntmps50
  go_wp2_with (go_at_call 63; refine (c_areWords _ _ _ _ h hl).mono ?_; rintro e w' ⟨rfl, rfl⟩)
  all_goals
    go_ret
    exact ⟨ret_bool (by unfold askB; simp; try omega), rfl⟩

theorem c_spread (a m : Int) (w : World) (h0 : 0 ≤ a) (h1 : a ≤ 65535) (hm : 1 ≤ m) :
    Calls Try.prog 45 #[.int .i64 a, .int .i64 m] w fun e w' => e = .returned (.int .i64 (spr a m)) ∧ w = w' := by
  go_enter Try.func45, Try.ntmps45
  go_wp2
  go_ret
  exact ⟨rfl, rfl⟩
theorem c_place (A : Option Addr) (n c : Nat) (a : Int) (w : World) (h0 : 0 ≤ a) (h1 : a ≤ 65535) (hm : 1 ≤ n) :
    Calls Try.prog 46 #[.slice A n c, .int .i64 a] w fun e w' => e = .returned (.int .i64 (spr a n)) ∧ w = w' := by
  go_enter Try.func46, Try.ntmps46
  go_wp2
  go_ret
  exact ⟨rfl, rfl⟩

theorem c_sValidPool' (A : Option Addr) (c : Nat) (zs : List Int) (w : World) (h : RI w A zs) (hl : zs.length ≤ 1099511627776) :
    Calls Try.prog 41 #[.slice A zs.length c] w fun e w' => e = .returned (.bool (vPool zs)) ∧ ∃ q, w' = w.drewN q := by
  go_enter Try.func41, Try.ntmps41
  go_wp2
  go_loopw [3] (fun i wr => ∃ k q : Nat, 1 ≤ k ∧ (k ≤ zs.length ∨ k = 1) ∧ i = .int .i64 k ∧ Hid (∀ j, j < k → (j == 0 || decide (nth zs (j - 1) < nth zs j)) = true) ∧ wr = w.drewN q) (fun i _ => zs.length - (intOf i).toNat)
  case atStart => exact ⟨1, 0, by omega, by omega, rfl, fun j hj => (by obtain rfl : j = 0 := (by omega); rfl), rfl⟩
  case round =>
    obtain ⟨k, q, hk1, hk, rfl, hP, rfl⟩ := hrel
    by_cases hlt : k < zs.length
    · obtain ⟨b, off, rfl, hb, hc⟩ := h.get hlt
      have hp : w.cell? ⟨b, off + (k - 1), none⟩ = some (.int .i64 (nth zs (k - 1))) := by
        obtain ⟨b', off', e, _, hc'⟩ := h.get (k := k - 1) (by omega)
        cases e; exact hc'
      go_wp2
      go_quiet (fail)
      go_wp2
      · go_ret
        exact ⟨ret_bool (by rw [vPool_split, allUp_false hlt (by simp; omega)]; rfl), _, World.drewN_drewN _ _ _⟩
      · go_roundw
        case rel => exact ⟨k + 1, _, by omega, by omega, by go_num, upTo_succ hP.out (by simp; omega), rfl⟩
        case measure => simp [intOf]; omega
    · have hs : vPool zs = (inB zs.length 1 5 && allIn zs 0 65535) := by
        rw [vPool_split, allUp_true (fun j hj => hP.out j (by omega))]; rfl
      cases hin : inB zs.length 1 5
      all_goals
        go_wp2_with (first | (go_at_call 61; refine (c_inRange _ _ _ _).mono ?_; rintro e w' ⟨rfl, rfl⟩) | (go_at_call 49; refine (c_allIn _ _ _ _ _ _ (h.drewN _) hl).mono ?_; rintro e w' ⟨rfl, rfl⟩))
        go_ret
        exact ⟨ret_bool (by rw [hs, hin]; rfl), _, rfl⟩
theorem c_sValidPool (A : Option Addr) (c : Nat) (zs : List Int) (w : World) (h : RI w A zs) (hl : zs.length ≤ 1099511627776) :
    Calls Try.prog 20 #[.slice A zs.length c] w fun e w' => e = .returned (.bool (vPool zs)) ∧ ∃ q, w' = w.drewN q := by
  go_enter Try.func20, Try.ntmps20
  go_wp2_with (go_at_call 41; refine (c_sValidPool' _ _ _ _ h hl).mono ?_; rintro e w' ⟨rfl, q, rfl⟩)
  go_ret
  exact ⟨rfl, _, rfl⟩

theorem c_iPoolAddr (A : Option Addr) (c : Nat) (zs : List Int) (a : Int) (w : World) (h : RI w A zs) (hl : zs.length ≤ 1099511627776) :
    Calls Try.prog 25 #[.slice A zs.length c, .int .i64 a] w fun e w' => e = .returned (.int .i64 (pAddr zs a)) ∧ w = w' := by
  cases hv : vPool zs
  · go_enter Try.func25, Try.ntmps25
    go_wp2_with (go_at_call 22; refine (c_iValidPool _ _ _ _ h hl).mono ?_; rintro e w' ⟨rfl, rfl⟩)
    go_ret
    exact ⟨ret_int (by simp [pAddr, hv]), rfl⟩
  · cases ha : inB a 0 65535
    · go_enter Try.func25, Try.ntmps25
      go_wp2_with (first | (go_at_call 22; refine (c_iValidPool _ _ _ _ h hl).mono ?_; rintro e w' ⟨rfl, rfl⟩) | (go_at_call 42; refine (c_isWord _ _).mono ?_; rintro e w' ⟨rfl, rfl⟩))
      go_ret
      exact ⟨ret_int (by simp [pAddr, ha]), rfl⟩
    · have hz := vPool_len hv
      have hb := inB_true ha
      have hs := spr_bd (a := a) (m := zs.length) (by omega)
      obtain ⟨b, off, rfl, _, hc⟩ := h.get (k := (spr a zs.length).toNat) (by omega)
      go_enter Try.func25, Try.ntmps25
      go_wp2_with (first | (go_at_call 22; refine (c_iValidPool _ _ _ _ h hl).mono ?_; rintro e w' ⟨rfl, rfl⟩) | (go_at_call 42; refine (c_isWord _ _).mono ?_; rintro e w' ⟨rfl, rfl⟩) | (go_at_call 46; refine (c_place _ _ _ _ _ (by omega) (by omega) (by omega)).mono ?_; rintro e w' ⟨rfl, rfl⟩))
      go_ret
      exact ⟨ret_int (by simp [pAddr, hv, ha]), rfl⟩
theorem c_sPoolAddr (A : Option Addr) (c : Nat) (zs : List Int) (a : Int) (w : World) (h : RI w A zs) (hl : zs.length ≤ 1099511627776) :
    Calls Try.prog 24 #[.slice A zs.length c, .int .i64 a] w fun e w' => e = .returned (.int .i64 (pAddr zs a)) ∧ ∃ q, w' = w.drewN q := by
  cases hv : vPool zs
  · go_enter Try.func24, Try.ntmps24
    go_wp2_with (go_at_call 41; refine (c_sValidPool' _ _ _ _ h hl).mono ?_; rintro e w' ⟨rfl, q, rfl⟩)
    go_ret
    exact ⟨ret_int (by simp [pAddr, hv]), _, rfl⟩
  · cases ha : inB a 0 65535
    · go_enter Try.func24, Try.ntmps24
      go_wp2_with (first | (go_at_call 41; refine (c_sValidPool' _ _ _ _ h hl).mono ?_; rintro e w' ⟨rfl, q, rfl⟩) | (go_at_call 44; refine (c_validAddr _ _).mono ?_; rintro e w' ⟨rfl, rfl⟩))
      go_ret
      exact ⟨ret_int (by simp [pAddr, ha]), _, rfl⟩
    · have hz := vPool_len hv
      have hb := inB_true ha
      have hs := spr_bd (a := a) (m := zs.length) (by omega)
      obtain ⟨b, off, rfl, _, hc⟩ := h.get (k := (spr a zs.length).toNat) (by omega)
      go_enter Try.func24, Try.ntmps24
      go_wp2_with (first | (go_at_call 41; refine (c_sValidPool' _ _ _ _ h hl).mono ?_; rintro e w' ⟨rfl, q, rfl⟩) | (go_at_call 44; refine (c_validAddr _ _).mono ?_; rintro e w' ⟨rfl, rfl⟩) | (go_at_call 45; refine (c_spread _ _ _ (by omega) (by omega) (by omega)).mono ?_; rintro e w' ⟨rfl, rfl⟩))
      go_ret
      exact ⟨ret_int (by simp [pAddr, hv, ha]), _, rfl⟩

theorem c_eqIntS (A B : Option Addr) (c d : Nat) (xs ys : List Int) (w : World) (hA : RI w A xs) (hB : RI w B ys) (hl : xs.length ≤ 1099511627776) :
    Calls Try.prog 23 #[.slice A xs.length c, .slice B ys.length d] w fun e w' => e = .returned (.bool (eqL xs ys)) ∧ ∃ q, w' = w.drewN q := by
  by_cases hne : xs.length = ys.length
  · have HL := Lib.hid hne
    rw [← hne]
    clear hne
    go_enter Try.func23, Try.ntmps23
    go_wp2
    go_loopw [5] (fun i wr => ∃ k q : Nat, k ≤ xs.length ∧ i = .int .i64 k ∧ Hid (∀ j, j < k → nth xs j = nth ys j) ∧ wr = w.drewN q) (fun i _ => xs.length - (intOf i).toNat)
    case atStart => exact ⟨0, 0, by omega, rfl, fun j hj => absurd hj (by omega), rfl⟩
    case round =>
      obtain ⟨k, q, hk, rfl, hP, rfl⟩ := hrel
      by_cases hlt : k < xs.length
      · obtain ⟨b, off, rfl, hb, hc⟩ := hA.get hlt
        obtain ⟨b', off', rfl, hb', hc'⟩ := hB.get (k := k) (by rw [← HL.out]; exact hlt)
        by_cases he : nth xs k = nth ys k
        · have hq : (nth xs k != nth ys k) = false := by simp [he]
          have HE := Lib.hid he
          clear he
          go_wp2
          go_quiet (fail)
          go_wp2
          go_roundw
          case rel => exact ⟨k + 1, _, by omega, by go_num, upTo_succ hP.out HE.out, rfl⟩
          case measure => simp [intOf]; omega
        · have hq : (nth xs k != nth ys k) = true := by simp [he]
          go_wp2
          go_quiet (fail)
          go_wp2
          go_ret
          exact ⟨ret_bool (by rw [eqL_at he]), _, World.drewN_drewN _ _ _⟩
      · go_wp2
        go_ret
        exact ⟨ret_bool (by rw [eqL_all HL.out (fun j hj => hP.out j (by omega))]), _, rfl⟩
  · go_enter Try.func23, Try.ntmps23
    go_wp2
    go_ret
    exact ⟨ret_bool (by rw [eqL_len hne]), 0, rfl⟩
end Go.Proofs.Ytcfleoobhgagoaa
