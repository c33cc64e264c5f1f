/- Plain words on pools of addresses (no program). No conditions. -/
import Derived.Test.YthlaldikdlljfaaDoorPlain
import Derived.Test.YthlaldikdlljfaaDoorBase
namespace Go.Proofs.YthlaldikdlljfaaDoor

/-- All numbers lie in lo .. hi. -/
def allIn (zs : List Int) (lo hi : Int) : Bool := allUp (fun k => inB (nth zs k) lo hi) zs.length
/-- The list has the number x. -/
def hasB (zs : List Int) (x : Int) : Bool := anyUp (fun k => nth zs k == x) zs.length
/-- Two lists are one. -/
def eqL (xs ys : List Int) : Bool := decide (xs = ys)
def vPoolAt (zs : List Int) (k : Nat) : Bool := inB (nth zs k) 0 65535 && (k == 0 || decide (nth zs (k - 1) < nth zs k))
/-- The pool is valid. -/
def vPool (zs : List Int) : Bool := allUp (vPoolAt zs) zs.length && inB zs.length 1 5
/-- The place of an address in a pool of m. -/
def spr (a m : Int) : Int := (a * 37 + 11) % 251 % m
def pAddr (zs : List Int) (a : Int) : Int := if vPool zs && inB a 0 65535 then nth zs (spr a zs.length).toNat else -1
/-- May be asked for. -/
def askB (as : List Int) : Bool := decide (as.length ≤ 12) && allIn as 0 65535

theorem spr_bd {a m : Int} (hm : 1 ≤ m) : 0 ≤ spr a m ∧ spr a m < m := ⟨Int.emod_nonneg _ (by omega), Int.emod_lt_of_pos _ (by omega)⟩
theorem vPool_len {zs : List Int} (h : vPool zs = true) : 1 ≤ zs.length ∧ zs.length ≤ 5 := by
  unfold vPool at h
  rw [Bool.and_eq_true] at h
  have := inB_true h.2
  omega
theorem nth_ext {xs ys : List Int} (hl : xs.length = ys.length) (h : ∀ k, k < xs.length → nth xs k = nth ys k) : xs = ys := by
  apply List.ext_getElem hl
  intro k h1 h2
  have := h k h1
  simpa [nth, h1, h2] using this
theorem eqL_same (xs : List Int) : eqL xs xs = true := by simp [eqL]
theorem eqL_len {xs ys : List Int} (h : xs.length ≠ ys.length) : eqL xs ys = false := by
  simp only [eqL, decide_eq_false_iff_not]; intro e; exact h (by rw [e])
theorem eqL_at {xs ys : List Int} {k : Nat} (h : nth xs k ≠ nth ys k) : eqL xs ys = false := by
  simp only [eqL, decide_eq_false_iff_not]; intro e; exact h (by rw [e])
theorem eqL_all {xs ys : List Int} (hl : xs.length = ys.length) (h : ∀ k, k < xs.length → nth xs k = nth ys k) : eqL xs ys = true := by
  simp only [eqL, decide_eq_true_eq]; exact nth_ext hl h
theorem vPool_split {zs : List Int} : vPool zs = (allUp (fun k => k == 0 || decide (nth zs (k - 1) < nth zs k)) zs.length && (inB zs.length 1 5 && allIn zs 0 65535)) := by
  rw [Bool.eq_iff_iff]
  unfold vPool allIn
  simp only [Bool.and_eq_true, allUp_iff, vPoolAt]
  constructor
  · rintro ⟨h1, h2⟩; exact ⟨fun j hj => (h1 j hj).2, h2, fun j hj => (h1 j hj).1⟩
  · rintro ⟨h1, h2, h3⟩; exact ⟨fun j hj => ⟨h3 j hj, h1 j hj⟩, h2⟩

theorem nth_take {zs : List Int} {k j : Nat} (h : j < k) : nth (zs.take k) j = nth zs j := by simp [nth, h]
theorem nth_drop {zs : List Int} {k j : Nat} : nth (zs.drop k) j = nth zs (k + j) := by simp [nth]
theorem vPool_iff {zs : List Int} : vPool zs = true ↔ (∀ j, j < zs.length → (0 ≤ nth zs j ∧ nth zs j ≤ 65535) ∧ (0 < j → nth zs (j - 1) < nth zs j)) ∧ 1 ≤ zs.length ∧ zs.length ≤ 5 := by
  unfold vPool
  rw [Bool.and_eq_true, allUp_iff]
  constructor
  · rintro ⟨h1, h2⟩
    have h3 := inB_true h2
    refine ⟨fun j hj => ?_, by omega, by omega⟩
    have h4 := h1 j hj
    unfold vPoolAt at h4
    rw [Bool.and_eq_true] at h4
    refine ⟨inB_true h4.1, fun h0 => ?_⟩
    have h5 := h4.2
    simp at h5
    rcases h5 with h5 | h5
    · omega
    · exact h5
  · rintro ⟨h1, h2, h3⟩
    refine ⟨fun j hj => ?_, inB_mk (by omega) (by omega)⟩
    unfold vPoolAt
    rw [Bool.and_eq_true]
    refine ⟨inB_mk (h1 j hj).1.1 (h1 j hj).1.2, ?_⟩
    simp
    rcases Nat.eq_zero_or_pos j with h0 | h0
    · exact .inl h0
    · exact .inr ((h1 j hj).2 h0)
theorem vPool_take {zs : List Int} {k : Nat} (h : vPool zs = true) (h1 : 1 ≤ k) (h2 : k ≤ zs.length) : vPool (zs.take k) = true := by
  rw [vPool_iff] at h ⊢
  have hl : (zs.take k).length = k := by simp; omega
  rw [hl]
  refine ⟨fun j hj => ?_, h1, by omega⟩
  rw [nth_take hj]
  refine ⟨(h.1 j (by omega)).1, fun h0 => ?_⟩
  rw [nth_take (by omega)]
  exact (h.1 j (by omega)).2 h0
theorem vPool_drop {zs : List Int} {k : Nat} (h : vPool zs = true) (h2 : k < zs.length) : vPool (zs.drop k) = true := by
  rw [vPool_iff] at h ⊢
  have hl : (zs.drop k).length = zs.length - k := by simp
  rw [hl]
  refine ⟨fun j hj => ?_, by omega, by omega⟩
  rw [nth_drop]
  refine ⟨(h.1 _ (by omega)).1, fun h0 => ?_⟩
  rw [nth_drop, show k + (j - 1) = k + j - 1 from by omega]
  exact (h.1 _ (by omega)).2 (by omega)
theorem pAddr_pos {zs : List Int} {a : Int} (h : ¬ pAddr zs a < 0) : vPool zs = true ∧ inB a 0 65535 = true := by
  unfold pAddr at h
  split at h
  · rename_i h1; exact Bool.and_eq_true_iff.1 h1
  · omega
theorem pAddr_eq {zs : List Int} {a : Int} (h : vPool zs = true) (ha : inB a 0 65535 = true) : pAddr zs a = nth zs (spr a zs.length).toNat := by
  unfold pAddr; rw [h, ha]; rfl
theorem pAddr_cycle {zs : List Int} {a : Int} (h : ¬ pAddr zs a < 0) (h2 : a + 251 ≤ 65535) : pAddr zs (a + 251) = pAddr zs a := by
  obtain ⟨h1, ha⟩ := pAddr_pos h
  have := inB_true ha
  rw [pAddr_eq h1 ha, pAddr_eq h1 (inB_mk (by omega) h2)]
  have e : spr (a + 251) zs.length = spr a zs.length := by unfold spr; rw [show ((a + 251) * 37 + 11) % 251 = (a * 37 + 11) % 251 from by omega]
  rw [e]
theorem pAddr_many {zs : List Int} {a : Int} (h : ¬ pAddr zs a < 0) : pAddr zs (a % 251) = pAddr zs a := by
  obtain ⟨h1, ha⟩ := pAddr_pos h
  have := inB_true ha
  rw [pAddr_eq h1 ha, pAddr_eq h1 (inB_mk (by omega) (by omega))]
  have e : spr (a % 251) zs.length = spr a zs.length := by unfold spr; rw [show (a % 251 * 37 + 11) % 251 = (a * 37 + 11) % 251 from by omega]
  rw [e]
theorem pAddr_first {zs : List Int} {a : Int} (h : ¬ pAddr zs a < 0) : pAddr (zs.take 1) a = nth zs 0 := by
  obtain ⟨h1, ha⟩ := pAddr_pos h
  have hl := vPool_len h1
  rw [pAddr_eq (vPool_take h1 (Nat.le_refl 1) hl.1) ha, show ((zs.take 1).length : Int) = 1 from by simp; omega]
  have e : spr a 1 = 0 := by unfold spr; omega
  rw [e]
  exact nth_take (by decide)
theorem pAddr_in {zs : List Int} {a : Int} (h : ¬ pAddr zs a < 0) : hasB zs (pAddr zs a) = true := by
  obtain ⟨h1, ha⟩ := pAddr_pos h
  have hl := vPool_len h1
  have hs := spr_bd (a := a) (m := zs.length) (by omega)
  unfold hasB
  exact anyUp_true (k := (spr a zs.length).toNat) (by omega) (by rw [pAddr_eq h1 ha]; simp)

/-- For how many of the addresses the j-th of the pool stands. -/
def cnt (zs qs : List Int) (j : Nat) : Int := ((qs.filter (fun a => spr a zs.length == (j : Int))).length : Int)
def pcs (zs qs : List Int) : List Int := (List.range zs.length).map (cnt zs qs)
theorem pcs_len (zs qs : List Int) : (pcs zs qs).length = zs.length := by simp [pcs]
theorem pcs_nth {zs qs : List Int} {j : Nat} (h : j < zs.length) : nth (pcs zs qs) j = cnt zs qs j := by simp [pcs, nth, h]
theorem cnt_snoc (zs qs : List Int) (a : Int) (j : Nat) : cnt zs (qs ++ [a]) j = cnt zs qs j + if spr a zs.length = (j : Int) then 1 else 0 := by
  unfold cnt
  rw [List.filter_append]
  by_cases h : spr a zs.length = (j : Int)
  · simp [h]
  · have : (spr a zs.length == (j : Int)) = false := by simpa using h
    simp [this, h]
theorem take_succ_nth {qs : List Int} {k : Nat} (h : k < qs.length) : qs.take (k + 1) = qs.take k ++ [nth qs k] := by
  rw [List.take_succ_eq_append_getElem h]
  simp [nth, h]
theorem cnt_bd (zs qs : List Int) (j : Nat) : 0 ≤ cnt zs qs j ∧ cnt zs qs j ≤ qs.length := by
  unfold cnt
  have := List.length_filter_le (fun a => spr a zs.length == (j : Int)) qs
  omega
theorem ask_at {qs : List Int} (h : askB qs = true) : qs.length ≤ 12 ∧ ∀ k, k < qs.length → 0 ≤ nth qs k ∧ nth qs k ≤ 65535 := by
  unfold askB at h
  rw [Bool.and_eq_true] at h
  refine ⟨by simpa using h.1, fun k hk => ?_⟩
  have := allUp_at h.2 hk
  exact inB_true this

/-- The place of the greatest of the first n numbers, of several the first one. -/
def amaxUp (cs : List Int) : Nat → Nat
  | 0 => 0
  | n + 1 => if nth cs (amaxUp cs n) < nth cs n then n else amaxUp cs n
theorem amaxUp_le (cs : List Int) (n : Nat) : amaxUp cs n ≤ n - 1 ∨ amaxUp cs n = 0 := by
  induction n with
  | zero => exact .inr rfl
  | succ n ih =>
    unfold amaxUp
    split
    · left; omega
    · omega
theorem amaxUp_ge {cs : List Int} {n j : Nat} (h : j < n) : nth cs j ≤ nth cs (amaxUp cs n) := by
  induction n with
  | zero => omega
  | succ n ih =>
    unfold amaxUp
    rcases Nat.lt_or_ge j n with h1 | h1
    · have := ih h1
      split <;> omega
    · obtain rfl : j = n := by omega
      split <;> omega
theorem amaxUp_first {cs : List Int} {n j : Nat} (h : j < amaxUp cs n) : nth cs j < nth cs (amaxUp cs n) := by
  induction n with
  | zero => simp [amaxUp] at h
  | succ n ih =>
    unfold amaxUp at h ⊢
    split
    · rename_i h1
      rw [if_pos h1] at h
      have := amaxUp_ge (cs := cs) h
      omega
    · rename_i h1
      rw [if_neg h1] at h
      exact ih h
theorem amaxUp_lt {cs : List Int} {n : Nat} (h : 0 < n) : amaxUp cs n < n := by
  have := amaxUp_le cs n
  omega
theorem amaxUp_one (cs : List Int) : amaxUp cs 1 = 0 := by
  unfold amaxUp
  split
  · rfl
  · rfl
/-- The address that stands for the most. -/
def full (zs qs : List Int) : Int := if vPool zs && askB qs then nth zs (amaxUp (pcs zs qs) zs.length) else -1
end Go.Proofs.YthlaldikdlljfaaDoor
