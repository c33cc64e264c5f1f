/- Plain words (no program): the numbers and lists that the pool functions compute. No conditions. -/
import Derived.WalkKit
namespace Go.Proofs.YthlaldikdlljfaaDoor

/-- n lies in lo .. hi. -/
def inB (n lo hi : Int) : Bool := decide (lo ≤ n) && decide (n ≤ hi)
theorem inB_true {n lo hi : Int} (h : inB n lo hi = true) : lo ≤ n ∧ n ≤ hi := by unfold inB at h; simpa using h
theorem inB_mk {n lo hi : Int} (h1 : lo ≤ n) (h2 : n ≤ hi) : inB n lo hi = true := by unfold inB; simp [h1, h2]
theorem inB_no {n lo hi : Int} (h : ¬ (lo ≤ n ∧ n ≤ hi)) : inB n lo hi = false := by unfold inB; rw [Bool.and_eq_false_iff]; simp only [decide_eq_false_iff_not]; omega
theorem inB_false {n lo hi : Int} (h : inB n lo hi = false) : n < lo ∨ hi < n := by unfold inB at h; rw [Bool.and_eq_false_iff] at h; simp only [decide_eq_false_iff_not] at h; omega

/-- P holds of all numbers below n. -/
def allUp (P : Nat → Bool) (n : Nat) : Bool := (List.range n).all P
theorem allUp_true {P : Nat → Bool} {n : Nat} (h : ∀ j, j < n → P j = true) : allUp P n = true := by unfold allUp; simpa using h
theorem allUp_false {P : Nat → Bool} {n k : Nat} (hk : k < n) (h : P k = false) : allUp P n = false := by
  unfold allUp; rw [List.all_eq_false]; exact ⟨k, by simpa using hk, by simp [h]⟩
theorem allUp_at {P : Nat → Bool} {n k : Nat} (h : allUp P n = true) (hk : k < n) : P k = true := by
  unfold allUp at h; rw [List.all_eq_true] at h; exact h k (by simpa using hk)
theorem allUp_iff {P : Nat → Bool} {n : Nat} : allUp P n = true ↔ ∀ j, j < n → P j = true := ⟨fun h _ hj => allUp_at h hj, allUp_true⟩
/-- P holds of some number below n. -/
def anyUp (P : Nat → Bool) (n : Nat) : Bool := (List.range n).any P
theorem anyUp_true {P : Nat → Bool} {n k : Nat} (hk : k < n) (h : P k = true) : anyUp P n = true := by
  unfold anyUp; rw [List.any_eq_true]; exact ⟨k, by simpa using hk, h⟩
theorem anyUp_false {P : Nat → Bool} {n : Nat} (h : ∀ j, j < n → P j = false) : anyUp P n = false := by
  unfold anyUp; rw [List.any_eq_false]; intro x hx; simp [h x (by simpa using hx)]
theorem upTo_succ {Q : Nat → Prop} {k : Nat} (h : ∀ j, j < k → Q j) (hk : Q k) : ∀ j, j < k + 1 → Q j := fun j hj => by
  rcases Nat.lt_or_ge j k with h1 | h1
  · exact h j h1
  · obtain rfl : j = k := by omega
    exact hk

end Go.Proofs.YthlaldikdlljfaaDoor
