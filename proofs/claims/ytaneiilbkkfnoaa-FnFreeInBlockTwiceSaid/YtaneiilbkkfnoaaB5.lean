/- Contracts of the functions on plans: ports of a block. -/
import Derived.Test.YtaneiilbkkfnoaaB4
namespace Go.Proofs.Ytaneiilbkkfnoaa
open Go.RowKit

theorem c_Index (A : Option Addr) (c : Nat) (zs : List Int) (x : Int) (w : World) (h : RI w A zs) (hl : zs.length ≤ 1099511627776) :
    Calls Try.prog 59 #[.slice A zs.length c, .int .i64 x] w fun e w' => (∃ r : Int, e = .returned (.int .i64 r) ∧ decide (0 ≤ r) = hasB zs x) ∧ w = w' := by
  go_enter Try.func59, Try.ntmps59
  go_wp2
  go_loop [8] (fun i => ∃ k : Nat, k ≤ zs.length ∧ i = .int .i64 k ∧ Hid (∀ j, j < k → (nth zs j == x) = false)) (fun i => zs.length - (intOf i).toNat)
  case atStart => exact ⟨0, Nat.zero_le _, rfl, fun j hj => absurd hj (by omega)⟩
  case round =>
    obtain ⟨k, hk, rfl, hP⟩ := hrel
    by_cases hlt : k < zs.length
    · obtain ⟨b, off, rfl, hb, hc⟩ := h.get hlt
      cases hx : x == nth zs k
      · go_wp2
        go_round
        case rel => exact ⟨k + 1, by omega, by go_num, upTo_succ hP.out (by rw [beq_eq_false_iff_ne] at hx ⊢; omega)⟩
        case measure => simp [intOf]; omega
      · go_wp2
        go_ret
        exact ⟨⟨k, rfl, by unfold hasB; rw [anyUp_true hlt (by rw [beq_iff_eq] at hx ⊢; omega)]; simp⟩, rfl⟩
    · go_wp2
      go_ret
      exact ⟨⟨-1, rfl, by unfold hasB; rw [anyUp_false (fun j hj => hP.out j (by omega))]; rfl⟩, rfl⟩

theorem c_Contains (A : Option Addr) (n c : Nat) (zs : List Int) (x : Int) (b : Bool) (w : World) (hn : zs.length = n) (h : RI w A zs) (hl : n ≤ 1099511627776) (hb : hasB zs x = b) :
    Calls Try.prog 51 #[.slice A n c, .int .i64 x] w fun e w' => e = .returned (.bool b) ∧ w = w' := by
  subst hn hb
  go_enter Try.func51, Try.ntmps51
  go_wp2_with (go_at_call 59; refine (c_Index _ _ _ _ _ h hl).mono ?_; rintro e w' ⟨⟨r, rfl, hr⟩, rfl⟩)
  go_ret
  exact ⟨ret_bool (by simp), rfl⟩

theorem c_sIsIn (A : Option Addr) (n c : Nat) (zs : List Int) (x : Int) (b : Bool) (w : World) (hn : zs.length = n) (h : RI w A zs) (hl : n ≤ 1099511627776) (hb : hasB zs x = b) :
    Calls Try.prog 48 #[.slice A n c, .int .i64 x] w fun e w' => e = .returned (.bool b) ∧ w = w' := by
  subst hn hb
  go_enter Try.func48, Try.ntmps48
  go_wp2
  go_loop [5] (fun i => ∃ k : Nat, k ≤ zs.length ∧ i = .int .i64 k ∧ Hid (∀ j, j < k → (nth zs j == x) = false)) (fun i => zs.length - (intOf i).toNat)
  case atStart => exact ⟨0, Nat.zero_le _, rfl, fun j hj => absurd hj (by omega)⟩
  case round =>
    obtain ⟨k, hk, rfl, hP⟩ := hrel
    by_cases hlt : k < zs.length
    · obtain ⟨b, off, rfl, hb, hc⟩ := h.get hlt
      cases hx : nth zs k == x
      · go_wp2
        go_round
        case rel => exact ⟨k + 1, by omega, by go_num, upTo_succ hP.out hx⟩
        case measure => simp [intOf]; omega
      · go_wp2
        go_ret
        exact ⟨ret_bool (by unfold hasB; rw [anyUp_true hlt hx]), rfl⟩
    · go_wp2
      go_ret
      exact ⟨ret_bool (by unfold hasB; rw [anyUp_false (fun j hj => hP.out j (by omega))]), rfl⟩

theorem c_sToInt (b : Bool) (w : World) : Calls Try.prog 54 #[.bool b] w fun e w' => e = .returned (.int .i64 (if b then 1 else 0)) ∧ w = w' := by
  cases b
  · go_enter Try.func54, Try.ntmps54
    go_wp2
    go_ret
    exact ⟨rfl, rfl⟩
  · go_enter Try.func54, Try.ntmps54
    go_wp2
    go_ret
    exact ⟨rfl, rfl⟩

/-- The first number below n with P. -/
def firstUp (P : Nat → Bool) (n : Nat) : Option Nat := (List.range n).find? P
theorem firstUp_some {P : Nat → Bool} {n k : Nat} (hk : k < n) (h : P k = true) (hl : ∀ j, j < k → P j = false) : firstUp P n = some k := by
  unfold firstUp
  rw [List.find?_range_eq_some]
  exact ⟨h, by simpa using hk, fun j hj => by simp [hl j hj]⟩
theorem firstUp_none {P : Nat → Bool} {n : Nat} (h : ∀ j, j < n → P j = false) : firstUp P n = none := by
  unfold firstUp
  rw [List.find?_range_eq_none]
  intro j hj
  simp [h j hj]
/-- How many numbers below n have P. -/
def cntUp (P : Nat → Bool) (n : Nat) : Nat := (List.range n).countP P
theorem cntUp_zero (P : Nat → Bool) : cntUp P 0 = 0 := rfl
theorem cntUp_succ (P : Nat → Bool) (n : Nat) : cntUp P (n + 1) = cntUp P n + if P n then 1 else 0 := by
  unfold cntUp
  rw [List.range_succ, List.countP_append]
  simp [List.countP_cons]
theorem cntUp_le (P : Nat → Bool) (n : Nat) : cntUp P n ≤ n := by
  unfold cntUp
  exact Nat.le_trans List.countP_le_length (by simp)

/-- The k-th port of a block from the wanted place on. -/
def pAt (ba fi si a want : Int) (k : Nat) : Int := fi + (a - ba) * si + (want + k).tmod si
/-- The port of a block for a wanted port; -1 if there is none. -/
def pib (ba bi fi si a want : Int) (zs : List Int) : Int :=
  if ownB ba bi fi si a && inB want 0 65535 then (match firstUp (fun k => !hasB zs (pAt ba fi si a want k)) si.toNat with | some k => pAt ba fi si a want k | none => -1) else -1
/-- How many ports of a block are free; -1 if there is no block. -/
def fib (ba bi fi si a : Int) (zs : List Int) : Int :=
  if ownB ba bi fi si a then (cntUp (fun k => !hasB zs (fi + (a - ba) * si + k)) si.toNat : Nat) else -1
end Go.Proofs.Ytaneiilbkkfnoaa
