/- Plain laws of the ports of a block: no program in sight. -/
import Derived.Test.YtaneiilbkkfnoaaBP2
namespace Go.Proofs.Ytaneiilbkkfnoaa

theorem hasB_mem {zs : List Int} {x : Int} : hasB zs x = true ↔ x ∈ zs := by
  unfold hasB anyUp
  rw [List.any_eq_true]
  constructor
  · rintro ⟨k, hk, he⟩
    have hk' : k < zs.length := by simpa using hk
    rw [beq_iff_eq] at he
    rw [← he]
    simp [nth, hk']
  · intro h
    obtain ⟨k, hk, he⟩ := List.getElem_of_mem h
    exact ⟨k, by simpa using hk, by simp [nth, hk, he]⟩
theorem hasB_app {xs ys : List Int} {x : Int} : hasB (xs ++ ys) x = (hasB xs x || hasB ys x) := by
  rw [Bool.eq_iff_iff, Bool.or_eq_true, hasB_mem, hasB_mem, hasB_mem, List.mem_append]
theorem hasB_nil (x : Int) : hasB [] x = false := by rfl
theorem hasB_not {zs : List Int} {x : Int} (h : x ∉ zs) : hasB zs x = false := by
  cases hb : hasB zs x
  · rfl
  · exact absurd (hasB_mem.1 hb) h

theorem firstUp_cases (P : Nat → Bool) (n : Nat) : (∃ k, k < n ∧ P k = true ∧ (∀ j, j < k → P j = false) ∧ firstUp P n = some k) ∨ ((∀ j, j < n → P j = false) ∧ firstUp P n = none) := by
  cases h : firstUp P n with
  | none =>
    refine .inr ⟨fun j hj => ?_, rfl⟩
    unfold firstUp at h
    rw [List.find?_range_eq_none] at h
    simpa using h j hj
  | some k =>
    unfold firstUp at h
    rw [List.find?_range_eq_some] at h
    obtain ⟨h1, h2, h3⟩ := h
    exact .inl ⟨k, by simpa using h2, h1, fun j hj => by simpa using h3 j hj, rfl⟩

section
variable {ba bi fi si a want : Int} {zs : List Int}
theorem pAt_bd (ho : ownB ba bi fi si a = true) (hw : 0 ≤ want) (k : Nat) :
    ∃ r : Int, pAt ba fi si a want k = fi + (a - ba) * si + r ∧ 0 ≤ r ∧ r < si ∧ r = (want + k) % si := by
  have hb := own_bd ho
  refine ⟨(want + k) % si, ?_, Int.emod_nonneg _ (by omega), Int.emod_lt_of_pos _ (by omega), rfl⟩
  unfold pAt
  rw [Int.tmod_eq_emod_of_nonneg (by omega)]
theorem pib_cases (ho : ownB ba bi fi si a = true) (hw : inB want 0 65535 = true) :
    (∃ k : Nat, (k : Int) < si ∧ hasB zs (pAt ba fi si a want k) = false ∧ (∀ j, j < k → hasB zs (pAt ba fi si a want j) = true) ∧ pib ba bi fi si a want zs = pAt ba fi si a want k) ∨
    ((∀ j : Nat, (j : Int) < si → hasB zs (pAt ba fi si a want j) = true) ∧ pib ba bi fi si a want zs = -1) := by
  have hb := own_bd ho
  rcases firstUp_cases (fun k => !hasB zs (pAt ba fi si a want k)) si.toNat with ⟨k, h1, h2, h3, _⟩ | ⟨h1, _⟩
  · refine .inl ⟨k, by omega, by simpa using h2, fun j hj => by simpa using h3 j hj, pib_some ho hw h1 (fun j hj => by simpa using h3 j hj) (by simpa using h2)⟩
  · exact .inr ⟨fun j hj => by simpa using h1 j (by omega), pib_none ho hw (fun j hj => by simpa using h1 j hj)⟩
theorem pib_out (h : (ownB ba bi fi si a && inB want 0 65535) = false) : pib ba bi fi si a want zs = -1 := by unfold pib; rw [h]; rfl
theorem pib_pos (h : ¬ pib ba bi fi si a want zs < 0) : ownB ba bi fi si a = true ∧ inB want 0 65535 = true := by
  rw [← Bool.and_eq_true]
  cases hc : ownB ba bi fi si a && inB want 0 65535
  · rw [pib_out hc] at h; omega
  · rfl
/-- FnPortInBlock. -/
theorem pib_owner (h : ¬ pib ba bi fi si a want zs < 0) : ownOf ba bi fi si (pib ba bi fi si a want zs) = a ∧ hasB zs (pib ba bi fi si a want zs) = false := by
  obtain ⟨ho, hw⟩ := pib_pos h
  have hww := inB_true hw
  rcases pib_cases (zs := zs) ho hw with ⟨k, hk, hx, _, he⟩ | ⟨_, he⟩
  · rw [he]
    obtain ⟨r, hr, r0, r1, _⟩ := pAt_bd ho hww.1 k
    exact ⟨by rw [hr]; exact ownOf_block ho r0 r1, hx⟩
  · rw [he] at h; omega
theorem pib_nil (ho : ownB ba bi fi si a = true) (hw : inB want 0 65535 = true) : pib ba bi fi si a want [] = fi + (a - ba) * si + want % si := by
  have hb := own_bd ho
  have hww := inB_true hw
  have e := pib_some (zs := []) (k := 0) ho hw (by omega) (fun j hj => absurd hj (by omega)) (hasB_nil _)
  obtain ⟨r, hr, _, _, hr2⟩ := pAt_bd ho hww.1 0
  rw [e, hr, hr2]; simp
/-- FnPortInBlockWant. -/
theorem pib_want (ho : ownB ba bi fi si a = true) (hw : inB want 0 65535 = true) :
    (pib ba bi fi si a want zs == fi + (a - ba) * si + want % si) = !hasB zs (fi + (a - ba) * si + want % si) := by
  have hb := own_bd ho
  have hww := inB_true hw
  obtain ⟨r, hr, r0, _, hr2⟩ := pAt_bd ho hww.1 0
  have e0 : fi + (a - ba) * si + want % si = pAt ba fi si a want 0 := by rw [hr, hr2]; simp
  rw [e0]
  cases hx : hasB zs (pAt ba fi si a want 0)
  · rw [pib_some ho hw (by omega) (fun j hj => absurd hj (by omega)) hx]; simp
  · rw [Bool.not_true, beq_eq_false_iff_ne]
    rcases pib_cases (zs := zs) ho hw with ⟨k, hk, hy, _, he⟩ | ⟨_, he⟩
    · rw [he]; intro e; rw [e, hx] at hy; cases hy
    · rw [he, hr]; omega
/-- FnPortInBlockOther. -/
theorem pib_other (ho : ownB ba bi fi si a = true) (hw : inB want 0 65535 = true) :
    pib ba bi fi si a want [fi + (a - ba) * si - 1, fi + (a - ba) * si + si, 0] = pib ba bi fi si a want [] := by
  have hb := own_bd ho
  have hww := inB_true hw
  have h0 : hasB [fi + (a - ba) * si - 1, fi + (a - ba) * si + si, 0] (pAt ba fi si a want 0) = false := by
    obtain ⟨r, hr, r0, r1, _⟩ := pAt_bd ho hww.1 0
    rw [hr]
    apply hasB_not
    simp only [List.mem_cons, List.not_mem_nil, or_false]
    omega
  rw [pib_some (k := 0) ho hw (by omega) (fun j hj => absurd hj (by omega)) h0, pib_some (k := 0) (zs := []) ho hw (by omega) (fun j hj => absurd hj (by omega)) (hasB_nil _)]
theorem cntUp_zero_iff {P : Nat → Bool} {n : Nat} : cntUp P n = 0 ↔ ∀ j, j < n → P j = false := by
  unfold cntUp
  rw [List.countP_eq_zero]
  simp
theorem all_at (ho : ownB ba bi fi si a = true) (hw : 0 ≤ want) : (∀ j : Nat, (j : Int) < si → hasB zs (pAt ba fi si a want j) = true) ↔ ∀ j : Nat, (j : Int) < si → hasB zs (fi + (a - ba) * si + j) = true := by
  have hb := own_bd ho
  constructor
  · intro h j hj
    have hm := Int.emod_nonneg ((j : Int) - want) (b := si) (by omega)
    have hl := Int.emod_lt_of_pos ((j : Int) - want) (b := si) (by omega)
    have hk := h (((j : Int) - want) % si).toNat (by omega)
    obtain ⟨r, hr, _, _, hr2⟩ := pAt_bd ho hw (((j : Int) - want) % si).toNat
    have e : r = j := by
      rw [hr2, Int.toNat_of_nonneg hm, Int.add_emod_emod, show want + ((j : Int) - want) = j by omega]
      exact Int.emod_eq_of_lt (by omega) hj
    rw [hr, e] at hk
    exact hk
  · intro h j hj
    obtain ⟨r, hr, r0, r1, _⟩ := pAt_bd ho hw j
    rw [hr]
    have := h r.toNat (by omega)
    rwa [Int.toNat_of_nonneg r0] at this
/-- FnPortInBlockNone. -/
theorem pib_full (ho : ownB ba bi fi si a = true) (hw : inB want 0 65535 = true) : (pib ba bi fi si a want zs == -1) = (fib ba bi fi si a zs == 0) := by
  have hb := own_bd ho
  have hww := inB_true hw
  rw [Bool.eq_iff_iff, beq_iff_eq, beq_iff_eq, fib_eq ho]
  have hz : ((cntUp (fAt ba fi si a zs) si.toNat : Nat) : Int) = 0 ↔ cntUp (fAt ba fi si a zs) si.toNat = 0 := by omega
  rw [hz, cntUp_zero_iff]
  constructor
  · intro h
    rcases pib_cases (zs := zs) ho hw with ⟨k, hk, hy, _, he⟩ | ⟨ha, _⟩
    · obtain ⟨r, hr, r0, _, _⟩ := pAt_bd ho hww.1 k
      rw [he, hr] at h; omega
    · intro j hj
      have := (all_at ho hww.1).1 ha j (by omega)
      simp [fAt, this]
  · intro h
    refine pib_none ho hw (fun j hj => ?_)
    refine (all_at ho hww.1).2 (fun i hi => ?_) j (by omega)
    simpa [fAt] using h i (by omega)
theorem fib_pos (h : ¬ fib ba bi fi si a zs < 0) : ownB ba bi fi si a = true := by
  cases ho : ownB ba bi fi si a
  · exfalso; apply h; unfold fib; rw [ho, if_neg (by decide)]; decide
  · rfl
theorem fib_bd (ho : ownB ba bi fi si a = true) : 0 ≤ fib ba bi fi si a zs ∧ fib ba bi fi si a zs ≤ si := by
  have hb := own_bd ho
  rw [fib_eq ho]
  have := cntUp_le (fAt ba fi si a zs) si.toNat
  omega
theorem cntUp_congr {P Q : Nat → Bool} {n : Nat} (h : ∀ j, j < n → P j = Q j) : cntUp P n = cntUp Q n := by
  unfold cntUp
  exact List.countP_congr (fun j hj => by rw [h j (by simpa using hj)])
theorem cntUp_all (n : Nat) : cntUp (fun _ => true) n = n := by unfold cntUp; simp
theorem fib_nil (ho : ownB ba bi fi si a = true) : fib ba bi fi si a [] = si := by
  have hb := own_bd ho
  rw [fib_eq ho, cntUp_congr (Q := fun _ => true) (fun j _ => by simp [fAt, hasB_nil]), cntUp_all]
  omega
theorem cntUp_drop {P Q : Nat → Bool} {k : Nat} (hk : P k = true) (hq : Q k = false) (h : ∀ j, j ≠ k → P j = Q j) : ∀ n, cntUp P n = cntUp Q n + if k < n then 1 else 0
  | 0 => by simp [cntUp_zero]
  | n + 1 => by
    have ih := cntUp_drop hk hq h n
    rw [cntUp_succ, cntUp_succ]
    rcases Nat.lt_trichotomy n k with h1 | h1 | h1
    · rw [if_neg (show ¬ k < n by omega)] at ih
      rw [h n (by omega), if_neg (show ¬ k < n + 1 by omega)]; omega
    · subst h1
      rw [if_neg (Nat.lt_irrefl _)] at ih
      rw [hk, hq, if_pos (Nat.lt_succ_self _)]; simp; omega
    · rw [if_pos h1] at ih
      rw [h n (by omega), if_pos (show k < n + 1 by omega)]; omega
/-- FnFreeInBlock. -/
theorem fib_less (ho : ownB ba bi fi si a = true) (hp : ¬ pib ba bi fi si a 0 zs < 0) : fib ba bi fi si a (zs ++ [pib ba bi fi si a 0 zs]) = fib ba bi fi si a zs - 1 := by
  have hb := own_bd ho
  rcases pib_cases (zs := zs) ho (pib_pos hp).2 with ⟨k, hk, hy, _, he⟩ | ⟨_, he⟩
  · obtain ⟨r, hr, r0, r1, hr2⟩ := pAt_bd (want := 0) ho (by omega) k
    have hrk : r = k := by rw [hr2, Int.zero_add]; exact Int.emod_eq_of_lt (by omega) hk
    subst hrk
    rw [he, hr, fib_eq ho, fib_eq ho]
    rw [hr] at hy
    have := cntUp_drop (P := fAt ba fi si a zs) (Q := fAt ba fi si a (zs ++ [fi + (a - ba) * si + k])) (k := k) (by simp [fAt, hy]) (by simp [fAt, hasB_app, hasB_mem])
      (fun j hj => by
        have : hasB [fi + (a - ba) * si + (k : Int)] (fi + (a - ba) * si + j) = false := hasB_not (by simp; omega)
        simp [fAt, hasB_app, this]) si.toNat
    rw [if_pos (by omega)] at this
    omega
  · rw [he] at hp; omega
theorem cntUp_or (P Q : Nat → Bool) : ∀ n, cntUp (fun k => P k || Q k) n ≤ cntUp P n + cntUp Q n
  | 0 => by simp [cntUp_zero]
  | n + 1 => by
    have ih := cntUp_or P Q n
    rw [cntUp_succ, cntUp_succ, cntUp_succ]
    cases P n <;> cases Q n <;> simp <;> omega
theorem cntUp_one (f x : Int) : ∀ n, cntUp (fun k => f + (k : Nat) == x) n ≤ 1 := by
  intro n
  by_cases h : ∃ k : Nat, f + k = x
  · obtain ⟨k, hk⟩ := h
    have := cntUp_drop (P := fun k => f + (k : Nat) == x) (Q := fun _ => false) (k := k) (by simp [hk]) rfl (fun j hj => by simp; omega) n
    rw [this]
    have hz : cntUp (fun _ => false) n = 0 := cntUp_zero_iff.2 (fun _ _ => rfl)
    rw [hz]
    split <;> omega
  · have : cntUp (fun k => f + (k : Nat) == x) n = 0 := cntUp_zero_iff.2 (fun j _ => by simp; intro e; exact h ⟨j, e⟩)
    omega
theorem cntUp_has (f : Int) (n : Nat) : ∀ zs : List Int, cntUp (fun k => hasB zs (f + (k : Nat))) n ≤ zs.length
  | [] => by rw [cntUp_zero_iff.2 (fun j _ => hasB_nil _)]; simp
  | x :: zs => by
    have ih := cntUp_has f n zs
    have h1 := cntUp_or (fun k => f + (k : Nat) == x) (fun k => hasB zs (f + (k : Nat))) n
    have h2 := cntUp_one f x n
    rw [cntUp_congr (Q := fun k => (f + (k : Nat) == x) || hasB zs (f + (k : Nat))) (fun j _ => by
      rw [Bool.eq_iff_iff, Bool.or_eq_true, hasB_mem, hasB_mem, List.mem_cons, beq_iff_eq])]
    simp only [List.length_cons]
    omega
theorem cntUp_not (P : Nat → Bool) : ∀ n, cntUp P n + cntUp (fun k => !P k) n = n
  | 0 => by simp [cntUp_zero]
  | n + 1 => by
    have ih := cntUp_not P n
    rw [cntUp_succ, cntUp_succ]
    cases P n <;> simp <;> omega
/-- FnFreeInBlockTwice. -/
theorem fib_twice (ho : ownB ba bi fi si a = true) : fib ba bi fi si a (zs ++ zs) = fib ba bi fi si a zs := by
  rw [fib_eq ho, fib_eq ho, cntUp_congr (Q := fAt ba fi si a zs) (fun j _ => by unfold fAt; rw [hasB_app, Bool.or_self])]
theorem fib_len (ho : ownB ba bi fi si a = true) : si ≤ fib ba bi fi si a zs + zs.length := by
  have hb := own_bd ho
  rw [fib_eq ho]
  have h1 := cntUp_not (fAt ba fi si a zs) si.toNat
  have h2 := cntUp_has (fi + (a - ba) * si) si.toNat zs
  rw [cntUp_congr (P := fun k => !fAt ba fi si a zs k) (Q := fun k => hasB zs (fi + (a - ba) * si + (k : Nat))) (fun j _ => by simp [fAt])] at h1
  omega
end
end Go.Proofs.Ytaneiilbkkfnoaa
