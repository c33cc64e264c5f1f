/- Plain words on records (no program): who has a port, which records are valid. No conditions. -/
import Derived.Test.YthlaldikdlljfaaDoorPlain
import Derived.Test.YthlaldikdlljfaaDoorBase
namespace Go.Proofs.YthlaldikdlljfaaDoor

/-- A record: its time, its port, the end's address and port, whether the port is taken. -/
structure Rec where
  at_ : Int
  po : Int
  ad : Int
  ep : Int
  ov : Bool
def rec0 : Rec := ⟨0, 0, 0, 0, false⟩
/-- The k-th record. -/
def rn (l : List Rec) (k : Nat) : Rec := l[k]?.getD rec0
theorem rn_take {l : List Rec} {k j : Nat} (h : j < k) : rn (l.take k) j = rn l j := by simp [rn, h]
theorem rn_app_lt {l m : List Rec} {j : Nat} (h : j < l.length) : rn (l ++ m) j = rn l j := by simp [rn, List.getElem?_append_left h]
theorem rn_app_at {l : List Rec} {r : Rec} : rn (l ++ [r]) l.length = r := by simp [rn]
theorem rn_mem {l : List Rec} {k : Nat} (h : k < l.length) : rn l k ∈ l := by simp [rn, h]

/-- The place of the record that gives a port, of the first n; -1 for none. -/
def hold (l : List Rec) (port : Int) : Nat → Int
  | 0 => -1
  | n + 1 => if (rn l n).po = port then (if (rn l n).ov then -1 else (n : Int)) else hold l port n
/-- Who has a port behind the first n records. -/
def ownP (l : List Rec) (port : Int) : Nat → Option (Int × Int)
  | 0 => none
  | n + 1 => if (rn l n).po = port then (if (rn l n).ov then none else some ((rn l n).ad, (rn l n).ep)) else ownP l port n
theorem hold_bd (l : List Rec) (port : Int) : ∀ n, -1 ≤ hold l port n ∧ hold l port n < n
  | 0 => by unfold hold; omega
  | n + 1 => by
    have ih := hold_bd l port n
    unfold hold
    split
    · split <;> omega
    · omega
theorem own_hold (l : List Rec) (port : Int) : ∀ n, ownP l port n = if hold l port n < 0 then none else some ((rn l (hold l port n).toNat).ad, (rn l (hold l port n).toNat).ep)
  | 0 => by unfold ownP hold; rw [if_pos (by omega)]
  | n + 1 => by
    unfold ownP hold
    split
    · split
      · rw [if_pos (by omega)]
      · rw [if_neg (by omega), Int.toNat_natCast]
    · exact own_hold l port n
theorem own_none_iff {l : List Rec} {port : Int} {n : Nat} : ownP l port n = none ↔ hold l port n < 0 := by
  rw [own_hold]; split <;> simp_all
theorem own_at {l : List Rec} {n : Nat} : ownP l (rn l n).po (n + 1) = if (rn l n).ov then none else some ((rn l n).ad, (rn l n).ep) := by
  unfold ownP; rw [if_pos rfl]
theorem own_same {l m : List Rec} {port : Int} : ∀ n, (∀ j, j < n → rn l j = rn m j) → ownP l port n = ownP m port n
  | 0, _ => rfl
  | n + 1, h => by
    unfold ownP
    rw [h n (by omega), own_same n (fun j hj => h j (by omega))]
theorem own_take {l : List Rec} {port : Int} {k n : Nat} (h : n ≤ k) : ownP (l.take k) port n = ownP l port n := own_same n (fun _ hj => rn_take (by omega))

/-- Whether the i-th record fits what is before it. -/
def fit (l : List Rec) (i : Nat) : Bool :=
  if (rn l i).ov then ownP l (rn l i).po i == some ((rn l i).ad, (rn l i).ep) else (ownP l (rn l i).po i).isNone
/-- The time of the record before. -/
def pat (l : List Rec) (i : Nat) : Int := if i = 0 then 0 else (rn l (i - 1)).at_
def stat (r : Rec) (last : Int) : Bool := inB r.at_ last 10000 && (inB r.po 1000 1007 && (inB r.ad 0 65535 && inB r.ep 0 65535))
def statI (l : List Rec) (i : Nat) : Bool := stat (rn l i) (pat l i)
/-- Valid records. -/
def vRec (l : List Rec) : Bool := allUp (statI l) l.length && (allUp (fit l) l.length && decide (l.length ≤ 16))
/-- What the reference asks of the i-th record. -/
def sAt (l : List Rec) (i : Nat) : Bool := stat (rn l i) 0 && (decide (pat l i ≤ (rn l i).at_) && fit l i)
theorem stat_iff {r : Rec} {last : Int} : stat r last = true ↔ (last ≤ r.at_ ∧ r.at_ ≤ 10000) ∧ (1000 ≤ r.po ∧ r.po ≤ 1007) ∧ (0 ≤ r.ad ∧ r.ad ≤ 65535) ∧ (0 ≤ r.ep ∧ r.ep ≤ 65535) := by
  unfold stat
  simp only [Bool.and_eq_true]
  constructor
  · rintro ⟨h1, h2, h3, h4⟩; exact ⟨inB_true h1, inB_true h2, inB_true h3, inB_true h4⟩
  · rintro ⟨h1, h2, h3, h4⟩; exact ⟨inB_mk h1.1 h1.2, inB_mk h2.1 h2.2, inB_mk h3.1 h3.2, inB_mk h4.1 h4.2⟩
theorem pat_nonneg {l : List Rec} {n : Nat} (h : ∀ i, i < n → statI l i = true) : ∀ i, i ≤ n → 0 ≤ pat l i
  | 0, _ => by unfold pat; simp
  | i + 1, hi => by
    have h1 := (stat_iff.1 (h i (by omega))).1.1
    have h2 := pat_nonneg h i (by omega)
    unfold pat
    simp
    omega
theorem allUp_sAt (l : List Rec) (n : Nat) : allUp (sAt l) n = (allUp (statI l) n && allUp (fit l) n) := by
  rw [Bool.eq_iff_iff, Bool.and_eq_true]
  simp only [allUp_iff]
  constructor
  · intro h
    refine ⟨fun j hj => ?_, fun j hj => ?_⟩
    · have := h j hj
      unfold sAt at this
      simp only [Bool.and_eq_true, decide_eq_true_eq] at this
      obtain ⟨h1, h2, _⟩ := this
      rw [stat_iff] at h1
      exact stat_iff.2 ⟨⟨h2, h1.1.2⟩, h1.2⟩
    · have := h j hj
      unfold sAt at this
      simp only [Bool.and_eq_true] at this
      exact this.2.2
  · rintro ⟨h1, h2⟩ j hj
    have hp := pat_nonneg h1 j (by omega)
    have hs := stat_iff.1 (h1 j hj)
    unfold sAt
    simp only [Bool.and_eq_true, decide_eq_true_eq]
    exact ⟨stat_iff.2 ⟨⟨by omega, hs.1.2⟩, hs.2⟩, hs.1.1, h2 j hj⟩
theorem vRec_spec (l : List Rec) : vRec l = (allUp (sAt l) l.length && decide (l.length ≤ 16)) := by
  unfold vRec; rw [allUp_sAt, Bool.and_assoc]
theorem vRec_iff {l : List Rec} : vRec l = true ↔ (∀ i, i < l.length → statI l i = true) ∧ (∀ i, i < l.length → fit l i = true) ∧ l.length ≤ 16 := by
  unfold vRec; simp only [Bool.and_eq_true, allUp_iff, decide_eq_true_eq]

/-- How many records are not later than a time. -/
def upTo (l : List Rec) (now : Int) : Nat := ((List.range l.length).find? (fun k => decide (now < (rn l k).at_))).getD l.length
theorem upTo_eq {l : List Rec} {now : Int} {n : Nat} (hn : n ≤ l.length) (h : ∀ j, j < n → (rn l j).at_ ≤ now) (he : n < l.length → now < (rn l n).at_) : upTo l now = n := by
  unfold upTo
  rcases Nat.lt_or_ge n l.length with h1 | h1
  · have : (List.range l.length).find? (fun k => decide (now < (rn l k).at_)) = some n := by
      rw [List.find?_range_eq_some]
      exact ⟨by simpa using he h1, by simpa using h1, fun j hj => by have := h j hj; simp; omega⟩
    rw [this]; rfl
  · have : (List.range l.length).find? (fun k => decide (now < (rn l k).at_)) = none := by
      rw [List.find?_range_eq_none]
      intro j hj
      have := h j (by omega)
      simp; omega
    rw [this]; simp; omega
theorem upTo_spec (l : List Rec) (now : Int) : upTo l now ≤ l.length ∧ (∀ j, j < upTo l now → (rn l j).at_ ≤ now) ∧ (upTo l now < l.length → now < (rn l (upTo l now)).at_) := by
  unfold upTo
  cases h : (List.range l.length).find? (fun k => decide (now < (rn l k).at_)) with
  | none =>
    rw [List.find?_range_eq_none] at h
    refine ⟨Nat.le_refl _, fun j hj => ?_, fun hlt => absurd hlt (Nat.lt_irrefl _)⟩
    have := h j hj
    simpa using this
  | some k =>
    rw [List.find?_range_eq_some] at h
    obtain ⟨h1, h2, h3⟩ := h
    have hk : k < l.length := by simpa using h2
    refine ⟨Nat.le_of_lt hk, fun j hj => ?_, fun _ => by simpa using h1⟩
    have := h3 j hj
    simpa using this
/-- Who has a port at a time. -/
def who (l : List Rec) (port now : Int) : Option (Int × Int) := if vRec l then ownP l port (upTo l now) else none

section
variable {l : List Rec}
theorem mono_at (h : vRec l = true) : ∀ {i j : Nat}, i ≤ j → j < l.length → (rn l i).at_ ≤ (rn l j).at_ := by
  intro i j hij hj
  induction j with
  | zero => obtain rfl : i = 0 := by omega
            exact Int.le_refl _
  | succ j ih =>
    rcases Nat.lt_or_ge i (j + 1) with h1 | h1
    · have h2 := ih (by omega) (by omega)
      have h3 := (stat_iff.1 ((vRec_iff.1 h).1 (j + 1) hj)).1.1
      unfold pat at h3
      simp at h3
      omega
    · obtain rfl : i = j + 1 := by omega
      exact Int.le_refl _
theorem fit_take {k i : Nat} (h : i < k) : fit (l.take k) i = fit l i := by
  unfold fit; rw [rn_take h, own_take (by omega)]
theorem statI_take {k i : Nat} (h : i < k) : statI (l.take k) i = statI l i := by
  unfold statI pat
  rw [rn_take h]
  split
  · rfl
  · rw [rn_take (by omega)]
theorem vRec_take (h : vRec l = true) (k : Nat) : vRec (l.take k) = true := by
  rw [vRec_iff] at h ⊢
  rw [List.length_take]
  refine ⟨fun i hi => ?_, fun i hi => ?_, by omega⟩
  · rw [statI_take (by omega)]; exact h.1 i (by omega)
  · rw [fit_take (by omega)]; exact h.2.1 i (by omega)
theorem vRec_nil : vRec [] = true := by rfl
/-- FnValidRecords. -/
theorem first_not_over (h : vRec l = true) (h0 : 0 < l.length) : (rn l 0).ov = false := by
  have := (vRec_iff.1 h).2.1 0 h0
  unfold fit at this
  cases ho : (rn l 0).ov
  · rfl
  · rw [ho, if_pos rfl] at this; simp [ownP] at this
/-- FnValidRecordsTwice. -/
theorem twice_bad (h0 : 0 < l.length) : vRec (l ++ [rn l (l.length - 1)]) = false := by
  cases hv : vRec (l ++ [rn l (l.length - 1)])
  · rfl
  · exfalso
    have hf := (vRec_iff.1 hv).2.1 l.length (by simp)
    unfold fit at hf
    rw [rn_app_at] at hf
    have ho : ownP (l ++ [rn l (l.length - 1)]) (rn l (l.length - 1)).po l.length = if (rn l (l.length - 1)).ov then none else some ((rn l (l.length - 1)).ad, (rn l (l.length - 1)).ep) := by
      rw [own_same (m := l) l.length (fun j hj => rn_app_lt hj)]
      obtain ⟨k, hk⟩ : ∃ k, l.length = k + 1 := ⟨l.length - 1, by omega⟩
      rw [hk]
      exact own_at
    rw [ho] at hf
    cases hx : (rn l (l.length - 1)).ov
    · rw [hx] at hf; simp at hf
    · rw [hx] at hf; simp at hf
theorem upTo_all (_ : vRec l = true) {now : Int} (h1 : ∀ j, j < l.length → (rn l j).at_ ≤ now) : upTo l now = l.length :=
  upTo_eq (Nat.le_refl _) h1 (fun h => absurd h (Nat.lt_irrefl _))
theorem upTo_clock (h : vRec l = true) : upTo l 10000 = l.length := upTo_all h (fun j hj => (stat_iff.1 ((vRec_iff.1 h).1 j hj)).1.2)
/-- FnWhoHad. -/
theorem who_last (h : vRec l = true) (h0 : 0 < l.length) :
    who l (rn l (l.length - 1)).po (rn l (l.length - 1)).at_ = if (rn l (l.length - 1)).ov then none else some ((rn l (l.length - 1)).ad, (rn l (l.length - 1)).ep) := by
  unfold who
  rw [h, if_pos rfl, upTo_all h (fun j hj => mono_at h (by omega) (by omega))]
  obtain ⟨k, hk⟩ : ∃ k, l.length = k + 1 := ⟨l.length - 1, by omega⟩
  rw [hk]
  exact own_at
/-- FnWhoHadEnd. -/
theorem who_end (h : vRec l = true) {i : Nat} (hi : i < l.length) : who (l.take (i + 1)) (rn l i).po 10000 = if (rn l i).ov then none else some ((rn l i).ad, (rn l i).ep) := by
  have hv := vRec_take h (i + 1)
  unfold who
  rw [hv, if_pos rfl, upTo_clock hv, List.length_take, Nat.min_eq_left (by omega), own_take (Nat.le_refl _)]
  exact own_at
theorem own_skip {port : Int} {m : Nat} : ∀ n, m ≤ n → (∀ j, m ≤ j → j < n → (rn l j).po ≠ port) → ownP l port n = ownP l port m
  | 0, h, _ => by obtain rfl : m = 0 := by omega
                  rfl
  | n + 1, h, hp => by
    rcases Nat.lt_or_ge m (n + 1) with h1 | h1
    · conv => lhs; unfold ownP
      rw [if_neg (hp n (by omega) (by omega))]
      exact own_skip n (by omega) (fun j h2 h3 => hp j h2 (by omega))
    · obtain rfl : m = n + 1 := by omega
      rfl
/-- FnWhoHadStay. -/
theorem who_stay {port now : Int} (h : vRec l = true) (hp : ∀ j, j < l.length → ¬ ((rn l j).po = port ∧ (rn l j).at_ = now)) : who l port (now - 1) = who l port now := by
  unfold who
  rw [h, if_pos rfl, if_pos rfl]
  obtain ⟨a1, a2, a3⟩ := upTo_spec l now
  obtain ⟨b1, b2, b3⟩ := upTo_spec l (now - 1)
  have hle : upTo l (now - 1) ≤ upTo l now := by
    rcases Nat.lt_or_ge (upTo l now) (upTo l (now - 1)) with h1 | h1
    · have h2 := b2 _ h1
      have h3 := a3 (by omega)
      omega
    · exact h1
  refine (own_skip _ hle (fun j h1 h2 e => ?_)).symm
  refine hp j (by omega) ⟨e, ?_⟩
  have h3 := a2 j h2
  have h4 := b3 (by omega)
  have h5 := mono_at h h1 (by omega)
  omega

/-- The ports that somebody has at a time. -/
def ports (l : List Rec) (now : Int) : List Int := if vRec l then ((List.range 8).map (fun k => (1000 : Int) + (k : Nat))).filter (fun p => (ownP l p (upTo l now)).isSome) else []
theorem who_out {port now : Int} (h : vRec l = true) (hp : port < 1000 ∨ 1007 < port) : ownP l port (upTo l now) = none := by
  obtain ⟨a1, _, _⟩ := upTo_spec l now
  have := own_skip (l := l) (port := port) (m := 0) (upTo l now) (by omega) (fun j _ hj e => by
    have := (stat_iff.1 ((vRec_iff.1 h).1 j (by omega))).2.1
    omega)
  rw [this]; rfl
theorem mem_ports {now p : Int} : p ∈ ports l now ↔ (who l p now).isSome = true := by
  unfold ports who
  cases h : vRec l
  · simp
  · rw [if_pos rfl, if_pos rfl, List.mem_filter, List.mem_map]
    constructor
    · exact fun h => h.2
    · intro hs
      refine ⟨?_, hs⟩
      have hp : ¬ (p < 1000 ∨ 1007 < p) := fun e => by rw [who_out h e] at hs; cases hs
      exact ⟨(p - 1000).toNat, by simp; omega, by omega⟩
/-- FnPortsAt. -/
theorem ports_early : ports l (-1) = [] ∨ vRec l = false := by
  cases h : vRec l
  · exact .inr rfl
  · left
    have : upTo l (-1) = 0 := upTo_eq (by omega) (fun j hj => absurd hj (by omega)) (fun h0 => by
      have := (stat_iff.1 ((vRec_iff.1 h).1 0 h0)).1.1
      unfold pat at this
      simp at this
      omega)
    unfold ports
    rw [h, if_pos rfl, this]
    simp [ownP]
theorem ports_no (h : vRec l = false) (now : Int) : ports l now = [] := by unfold ports; rw [h]; rfl
/-- FnPortsAtShort. -/
theorem ports_short {now : Int} (h : vRec l = true) (_ : 0 < l.length) (hn : now < (rn l (l.length - 1)).at_) : ports (l.take (l.length - 1)) now = ports l now := by
  have hv := vRec_take h (l.length - 1)
  obtain ⟨a1, a2, a3⟩ := upTo_spec l now
  have hlt : upTo l now ≤ l.length - 1 := by
    rcases Nat.lt_or_ge (l.length - 1) (upTo l now) with h1 | h1
    · have := a2 _ h1; omega
    · exact h1
  have hu : upTo (l.take (l.length - 1)) now = upTo l now := by
    refine upTo_eq (by rw [List.length_take]; omega) (fun j hj => by rw [rn_take (by omega)]; exact a2 j hj) (fun h1 => ?_)
    rw [List.length_take] at h1
    rw [rn_take (by omega)]
    exact a3 (by omega)
  unfold ports
  rw [h, hv, if_pos rfl, if_pos rfl, hu]
  congr 1
  funext p
  rw [own_take hlt]
/-- How many ports are had behind the first n records. -/
def held (l : List Rec) (n : Nat) : Nat := ((List.range 8).map (fun k => (1000 : Int) + (k : Nat))).countP (fun p => (ownP l p n).isSome)
/-- Given, less taken, of the first n. -/
def bal (l : List Rec) : Nat → Int
  | 0 => 0
  | n + 1 => if (rn l n).ov then bal l n - 1 else bal l n + 1
theorem countP_turn {P Q : Nat → Bool} {k : Nat} : ∀ n, k < n → (∀ j, j ≠ k → P j = Q j) → P k = true → Q k = false → (List.range n).countP P = (List.range n).countP Q + 1
  | 0, h, _, _, _ => by omega
  | n + 1, h, he, hp, hq => by
    rw [List.range_succ, List.countP_append, List.countP_append, List.countP_singleton, List.countP_singleton]
    rcases Nat.lt_or_ge k n with h1 | h1
    · rw [countP_turn n h1 he hp hq, he n (by omega)]; omega
    · obtain rfl : k = n := by omega
      have : (List.range k).countP P = (List.range k).countP Q := List.countP_congr (fun j hj => by rw [he j (by have := List.mem_range.1 hj; omega)])
      rw [this, hp, hq]; simp
theorem held_bal (h : vRec l = true) : ∀ n, n ≤ l.length → (held l n : Int) = bal l n
  | 0, _ => by unfold held bal; simp [ownP]
  | n + 1, hn => by
    have ih := held_bal h n (by omega)
    have hs := (stat_iff.1 ((vRec_iff.1 h).1 n (by omega))).2.1
    have hf := (vRec_iff.1 h).2.1 n (by omega)
    unfold fit at hf
    unfold held at ih ⊢
    rw [List.countP_map] at ih ⊢
    have hoth : ∀ j : Nat, j ≠ ((rn l n).po - 1000).toNat → (ownP l ((1000 : Int) + (j : Nat)) (n + 1)) = ownP l ((1000 : Int) + (j : Nat)) n := fun j hj => by
      conv => lhs; unfold ownP
      rw [if_neg (by omega)]
    have hat : (1000 : Int) + ((((rn l n).po - 1000).toNat : Nat) : Int) = (rn l n).po := by omega
    conv => rhs; unfold bal
    cases ho : (rn l n).ov
    · rw [ho] at hf
      rw [if_neg (by decide)] at hf ⊢
      have := countP_turn (P := (fun p => (ownP l p (n + 1)).isSome) ∘ (fun k => (1000 : Int) + (k : Nat))) (Q := (fun p => (ownP l p n).isSome) ∘ (fun k => (1000 : Int) + (k : Nat))) (k := ((rn l n).po - 1000).toNat) 8 (by omega)
        (fun j hj => by simp only [Function.comp]; rw [hoth j hj]) (by simp only [Function.comp]; rw [hat, own_at, ho]; rfl) (by
          simp only [Function.comp]; rw [hat]
          cases hx : ownP l (rn l n).po n with
          | none => rfl
          | some y => rw [hx] at hf; cases hf)
      omega
    · rw [ho, if_pos rfl] at hf
      rw [if_pos rfl]
      have := countP_turn (Q := (fun p => (ownP l p (n + 1)).isSome) ∘ (fun k => (1000 : Int) + (k : Nat))) (P := (fun p => (ownP l p n).isSome) ∘ (fun k => (1000 : Int) + (k : Nat))) (k := ((rn l n).po - 1000).toNat) 8 (by omega)
        (fun j hj => by simp only [Function.comp]; rw [hoth j hj]) (by simp only [Function.comp]; rw [hat]; rw [beq_iff_eq] at hf; rw [hf]; rfl) (by simp only [Function.comp]; rw [hat, own_at, ho]; rfl)
      omega
/-- FnPortsAtCount. -/
theorem ports_count (h : vRec l = true) : ((ports l 10000).length : Int) = bal l l.length := by
  rw [← held_bal h l.length (Nat.le_refl _)]
  unfold ports held
  rw [h, if_pos rfl, upTo_clock h, List.countP_eq_length_filter]
end
end Go.Proofs.YthlaldikdlljfaaDoor
