/- Plain words on tables of mappings (no program). No conditions. -/
import Derived.Test.YthlaldikdlljfaaDoorPlain
import Derived.Test.YthlaldikdlljfaaDoorBase
import Derived.Test.YthlaldikdlljfaaDoorRP
namespace Go.Proofs.YthlaldikdlljfaaDoor

/-- A mapping: the end inside (address, port), the port outside, when it was used last. -/
structure Mpg where
  ad : Int
  ep : Int
  po : Int
  la : Int
def mpg0 : Mpg := ⟨0, 0, 0, 0⟩
/-- The k-th mapping. -/
def mn (l : List Mpg) (k : Nat) : Mpg := l[k]?.getD mpg0
theorem mn_take {l : List Mpg} {k j : Nat} (h : j < k) : mn (l.take k) j = mn l j := by simp [mn, h]
theorem mn_app_lt {l m : List Mpg} {j : Nat} (h : j < l.length) : mn (l ++ m) j = mn l j := by simp [mn, List.getElem?_append_left h]
theorem mn_app_at {l : List Mpg} {r : Mpg} : mn (l ++ [r]) l.length = r := by simp [mn]
theorem mn_mem {l : List Mpg} {k : Nat} (h : k < l.length) : mn l k ∈ l := by simp [mn, h]
theorem mem_mn {l : List Mpg} {m : Mpg} (h : m ∈ l) : ∃ k, k < l.length ∧ mn l k = m := by
  obtain ⟨k, hk, he⟩ := List.getElem_of_mem h
  exact ⟨k, hk, by simp [mn, hk, he]⟩
/-- The first number below n with P, -1 for none. -/
def idx (P : Nat → Bool) (n : Nat) : Int := match (List.range n).find? P with | some k => (k : Int) | none => -1
theorem idx_some {P : Nat → Bool} {n k : Nat} (hk : k < n) (h : P k = true) (hl : ∀ j, j < k → P j = false) : idx P n = k := by
  unfold idx
  have : (List.range n).find? P = some k := by
    rw [List.find?_range_eq_some]
    exact ⟨h, by simpa using hk, fun j hj => by simp [hl j hj]⟩
  rw [this]
theorem idx_none {P : Nat → Bool} {n : Nat} (h : ∀ j, j < n → P j = false) : idx P n = -1 := by
  unfold idx
  have : (List.range n).find? P = none := by
    rw [List.find?_range_eq_none]
    intro j hj
    simp [h j hj]
  rw [this]
theorem idx_cases (P : Nat → Bool) (n : Nat) : (∃ k, k < n ∧ P k = true ∧ (∀ j, j < k → P j = false) ∧ idx P n = k) ∨ ((∀ j, j < n → P j = false) ∧ idx P n = -1) := by
  cases h : (List.range n).find? P with
  | none =>
    rw [List.find?_range_eq_none] at h
    exact .inr ⟨fun j hj => by simpa using h j hj, idx_none (fun j hj => by simpa using h j hj)⟩
  | some k =>
    rw [List.find?_range_eq_some] at h
    obtain ⟨h1, h2, h3⟩ := h
    exact .inl ⟨k, by simpa using h2, h1, fun j hj => by simpa using h3 j hj, idx_some (by simpa using h2) h1 (fun j hj => by simpa using h3 j hj)⟩
theorem idx_bd (P : Nat → Bool) (n : Nat) : -1 ≤ idx P n ∧ idx P n < n := by
  rcases idx_cases P n with ⟨k, hk, _, _, e⟩ | ⟨_, e⟩ <;> omega
theorem idx_neg {P : Nat → Bool} {n : Nat} : idx P n < 0 ↔ ∀ j, j < n → P j = false := by
  rcases idx_cases P n with ⟨k, hk, h1, _, e⟩ | ⟨h1, e⟩
  · constructor
    · intro h; omega
    · intro h; rw [h k hk] at h1; cases h1
  · exact ⟨fun _ => h1, fun _ => by omega⟩
def isE (m : Mpg) (a p : Int) : Bool := decide (m.ad = a) && decide (m.ep = p)
def isP (m : Mpg) (p : Int) : Bool := decide (m.po = p)
theorem isE_iff {m : Mpg} {a p : Int} : isE m a p = true ↔ m.ad = a ∧ m.ep = p := by unfold isE; simp
theorem isP_iff {m : Mpg} {p : Int} : isP m p = true ↔ m.po = p := by unfold isP; simp
/-- The place of the mapping of an end, of the first n. -/
def byE (l : List Mpg) (a p : Int) (n : Nat) : Int := idx (fun k => isE (mn l k) a p) n
/-- The place of the mapping of a port, of the first n. -/
def byP (l : List Mpg) (p : Int) (n : Nat) : Int := idx (fun k => isP (mn l k) p) n
def okM (m : Mpg) : Bool := (inB m.ad 0 65535 && inB m.ep 0 65535) && (inB m.po 1000 1007 && inB m.la 0 10000)
/-- The i-th mapping is fine, and is none of those before it. -/
def tabI (l : List Mpg) (i : Nat) : Bool := okM (mn l i) && (decide (byE l (mn l i).ad (mn l i).ep i < 0) && decide (byP l (mn l i).po i < 0))
/-- A valid table. -/
def vTab (l : List Mpg) : Bool := allUp (tabI l) l.length && decide (l.length ≤ 8)
theorem vTab_iff {l : List Mpg} : vTab l = true ↔ (∀ i, i < l.length → tabI l i = true) ∧ l.length ≤ 8 := by
  unfold vTab; simp only [Bool.and_eq_true, allUp_iff, decide_eq_true_eq]
theorem okM_iff {m : Mpg} : okM m = true ↔ ((0 ≤ m.ad ∧ m.ad ≤ 65535) ∧ (0 ≤ m.ep ∧ m.ep ≤ 65535)) ∧ (1000 ≤ m.po ∧ m.po ≤ 1007) ∧ 0 ≤ m.la ∧ m.la ≤ 10000 := by
  unfold okM
  simp only [Bool.and_eq_true]
  constructor
  · rintro ⟨⟨h1, h2⟩, h3, h4⟩; exact ⟨⟨inB_true h1, inB_true h2⟩, inB_true h3, inB_true h4⟩
  · rintro ⟨⟨h1, h2⟩, h3, h4⟩; exact ⟨⟨inB_mk h1.1 h1.2, inB_mk h2.1 h2.2⟩, inB_mk h3.1 h3.2, inB_mk h4.1 h4.2⟩
section
variable {l : List Mpg}
theorem tab_at (h : vTab l = true) {i : Nat} (hi : i < l.length) : okM (mn l i) = true ∧ (∀ j, j < i → ¬ ((mn l j).ad = (mn l i).ad ∧ (mn l j).ep = (mn l i).ep)) ∧ ∀ j, j < i → (mn l j).po ≠ (mn l i).po := by
  have := (vTab_iff.1 h).1 i hi
  unfold tabI byE byP at this
  simp only [Bool.and_eq_true, decide_eq_true_eq, idx_neg] at this
  refine ⟨this.1, fun j hj e => ?_, fun j hj e => ?_⟩
  · have h1 := this.2.1 j hj
    rw [isE_iff.2 e] at h1; cases h1
  · have h1 := this.2.2 j hj
    rw [isP_iff.2 e] at h1; cases h1
/-- In a valid table each port stands once. -/
theorem tab_port (h : vTab l = true) {i j : Nat} (hi : i < l.length) (hj : j < l.length) (e : (mn l i).po = (mn l j).po) : i = j := by
  rcases Nat.lt_trichotomy i j with h1 | h1 | h1
  · exact absurd e ((tab_at h hj).2.2 i h1)
  · exact h1
  · exact absurd e.symm ((tab_at h hi).2.2 j h1)
theorem tab_end (h : vTab l = true) {i j : Nat} (hi : i < l.length) (hj : j < l.length) (e : (mn l i).ad = (mn l j).ad ∧ (mn l i).ep = (mn l j).ep) : i = j := by
  rcases Nat.lt_trichotomy i j with h1 | h1 | h1
  · exact absurd e ((tab_at h hj).2.1 i h1)
  · exact h1
  · exact absurd ⟨e.1.symm, e.2.symm⟩ ((tab_at h hi).2.1 j h1)
end
/-- The table has a mapping of this end and port. -/
def hasM (l : List Mpg) (m : Mpg) : Bool := l.any (fun n => decide (n.ad = m.ad) && (decide (n.ep = m.ep) && decide (n.po = m.po)))
theorem hasM_iff {l : List Mpg} {m : Mpg} : hasM l m = true ↔ ∃ k, k < l.length ∧ (mn l k).ad = m.ad ∧ (mn l k).ep = m.ep ∧ (mn l k).po = m.po := by
  unfold hasM
  rw [List.any_eq_true]
  constructor
  · rintro ⟨x, hx, he⟩
    obtain ⟨k, hk, rfl⟩ := mem_mn hx
    simp only [Bool.and_eq_true, decide_eq_true_eq] at he
    exact ⟨k, hk, he⟩
  · rintro ⟨k, hk, he⟩
    exact ⟨mn l k, mn_mem hk, by simpa using he⟩
/-- What the reference asks: the place of the port, and the end there. -/
def hasAt (l : List Mpg) (m : Mpg) : Bool := if byP l m.po l.length < 0 then false else isE (mn l (byP l m.po l.length).toNat) m.ad m.ep
theorem hasM_at {l : List Mpg} (h : vTab l = true) (m : Mpg) : hasM l m = hasAt l m := by
  unfold hasAt
  rcases idx_cases (fun k => isP (mn l k) m.po) l.length with ⟨k, hk, h1, _, e⟩ | ⟨h1, e⟩
  · have e' : byP l m.po l.length = k := e
    rw [e', if_neg (by omega), Int.toNat_natCast, Bool.eq_iff_iff, hasM_iff, isE_iff]
    constructor
    · rintro ⟨j, hj, e1, e2, e3⟩
      have hp := isP_iff.1 h1
      obtain rfl : j = k := tab_port h hj hk (e3.trans hp.symm)
      exact ⟨e1, e2⟩
    · rintro ⟨e1, e2⟩
      exact ⟨k, hk, e1, e2, isP_iff.1 h1⟩
  · have e' : byP l m.po l.length = -1 := e
    rw [e', if_pos (by omega)]
    cases hh : hasM l m
    · rfl
    · obtain ⟨k, hk, _, _, e3⟩ := hasM_iff.1 hh
      have := h1 k hk
      rw [isP_iff.2 e3] at this
      cases this
/-- The record that a mapping ends, or begins, at a time. -/
def recOf (now : Int) (ov : Bool) (m : Mpg) : Rec := ⟨now, m.po, m.ad, m.ep, ov⟩
/-- The records that lead from one table to another. -/
def between (a b : List Mpg) (now : Int) : List Rec :=
  if vTab a && (vTab b && inB now 0 10000) then (a.filter (fun m => !hasM b m)).map (recOf now true) ++ (b.filter (fun m => !hasM a m)).map (recOf now false) else []
end Go.Proofs.YthlaldikdlljfaaDoor
