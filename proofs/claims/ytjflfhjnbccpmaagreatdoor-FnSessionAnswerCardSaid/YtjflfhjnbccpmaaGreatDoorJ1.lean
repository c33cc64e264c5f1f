/- Joined: Plain, Base, RP, TP, Pool, C1, C2, B1, Row, TC, RE, Gen, T1, RC, App, RM, R1, R4. -/
import Derived.WalkKit
import Derived.Deep.AppendLies
import Derived.Deep.Draws
import Derived.Deep.QuietTactic
import Derived.BigQuiet
import Derived.Lib.Hide
import Derived.WalkSpells
import Derived.WalkLawsBesides
import Derived.Test.YtjflfhjnbccpmaaGreatDoorProg
import Derived.Deep.RegionHeld3
import Derived.IntWalk
import Derived.OpenShut
import Derived.Laws.StructEq
import Derived.Laws.BitsAllLaws
import Derived.Laws.BitsLemmas
import Derived.Lib.SliceRun
import Derived.Shelf.Abstract
import Derived.Maps.AppendAt
import Derived.Laws.MakeOwn
import Derived.Maps.OwnSet
set_option linter.unusedVariables false
set_option linter.unusedSimpArgs false
namespace Go.Proofs.YtjflfhjnbccpmaaGreatDoor
/-- n lies in lo .. hi. -/
def inB (n lo hi : Int) : Bool := decide (lo ≤ n) && decide (n ≤ hi)
theorem inB_true {n lo hi : Int} (h : inB n lo hi = true) : lo ≤ n ∧ n ≤ hi := by unfold inB at h; simpa using h
theorem inB_mk {n lo hi : Int} (h1 : lo ≤ n) (h2 : n ≤ hi) : inB n lo hi = true := by unfold inB; simp [h1, h2]
/-- P holds of all numbers below n. -/
def allUp (P : Nat → Bool) (n : Nat) : Bool := (List.range n).all P
theorem allUp_true {P : Nat → Bool} {n : Nat} (h : ∀ j, j < n → P j = true) : allUp P n = true := by unfold allUp; simpa using h
theorem allUp_false {P : Nat → Bool} {n k : Nat} (hk : k < n) (h : P k = false) : allUp P n = false := by
  unfold allUp; rw [List.all_eq_false]; exact ⟨k, by simpa using hk, by simp [h]⟩
theorem allUp_at {P : Nat → Bool} {n k : Nat} (h : allUp P n = true) (hk : k < n) : P k = true := by
  unfold allUp at h; rw [List.all_eq_true] at h; exact h k (by simpa using hk)
theorem allUp_iff {P : Nat → Bool} {n : Nat} : allUp P n = true ↔ ∀ j, j < n → P j = true := ⟨fun h _ hj => allUp_at h hj, allUp_true⟩
/-- P holds of some number below n. -/
def anyUp (P : Nat → Bool) (n : Nat) : Bool := (List.range n).any P
theorem anyUp_true {P : Nat → Bool} {n k : Nat} (hk : k < n) (h : P k = true) : anyUp P n = true := by
  unfold anyUp; rw [List.any_eq_true]; exact ⟨k, by simpa using hk, h⟩
theorem anyUp_false {P : Nat → Bool} {n : Nat} (h : ∀ j, j < n → P j = false) : anyUp P n = false := by
  unfold anyUp; rw [List.any_eq_false]; intro x hx; simp [h x (by simpa using hx)]
theorem upTo_succ {Q : Nat → Prop} {k : Nat} (h : ∀ j, j < k → Q j) (hk : Q k) : ∀ j, j < k + 1 → Q j := fun j hj => by
  rcases Nat.lt_or_ge j k with h1 | h1
  · exact h j h1
  · obtain rfl : j = k := by omega
    exact hk
end Go.Proofs.YtjflfhjnbccpmaaGreatDoor
namespace Go.Proofs.YtjflfhjnbccpmaaGreatDoor
open Go.RowKit
/-- The cells behind the address A begin with vs (one value a cell). -/
def Rd (w : World) (A : Option Addr) (vs : List Value) : Prop :=
  ∀ k v, vs[k]? = some v → ∃ b off, A = some ⟨b, off, none⟩ ∧ b < w.heap.size ∧ w.cell? ⟨b, off + k, none⟩ = some v
section
variable {w w' : World} {A : Option Addr} {vs us : List Value}
theorem Rd.nil (w : World) (A : Option Addr) : Rd w A [] := fun k v h => by simp at h
theorem Rd.below {B : Nat} (h : Rd w A vs) (hb : Below B w w') (hB : w.heap.size ≤ B) : Rd w' A vs := fun k v hk => by
  obtain ⟨b, off, rfl, hlt, hc⟩ := h k v hk
  exact ⟨b, off, rfl, Nat.lt_of_lt_of_le hlt hb.size, (hb.cell (p := ⟨b, off + k, none⟩) (by show b < B; omega)).trans hc⟩
theorem Rd.to (h : Rd w A vs) (hb : Below w.heap.size w w') : Rd w' A vs := h.below hb (Nat.le_refl _)
theorem Rd.drewN (h : Rd w A vs) (n : Nat) : Rd (w.drewN n) A vs := h
theorem Rd.drew (h : Rd w A vs) : Rd w.drew A vs := h
theorem Rd.alloc (h : Rd w A vs) (o : Obj) : Rd (w.alloc o) A vs := h.to ((Below.refl _ _).alloc (Nat.le_refl _) o)
theorem Rd.take (h : Rd w A vs) (n : Nat) : Rd w A (vs.take n) := fun k v hk => h k v (by
  rw [List.getElem?_take] at hk
  split at hk
  · exact hk
  · cases hk)
theorem Rd.of_own {base e n c : Nat} (h : w.ownsRow base e 1 (.slice A n c) n vs) : Rd w A vs := fun k v hk => by
  have hl : vs.length = n := by have := h.1; omega
  have hk' : k < vs.length := by
    rcases Nat.lt_or_ge k vs.length with h1 | h1
    · exact h1
    · rw [List.getElem?_eq_none h1] at hk; cases hk
  obtain ⟨g, cap, hv, _, hlt⟩ := h.form (by omega)
  have hA : A = some ⟨g, 0, none⟩ := by injection hv
  subst hA
  refine ⟨g, 0, rfl, hlt, ?_⟩
  have := h.cells (g := g) rfl k v hk
  unfold Addr.add at this
  split at this
  · rename_i h0; subst h0; simpa using this
  · simpa using this
end
/-- The k-th number of a list (0 behind its end). -/
def nth (zs : List Int) (k : Nat) : Int := zs[k]?.getD 0
/-- The cells behind A begin with the numbers zs. -/
def RI (w : World) (A : Option Addr) (zs : List Int) : Prop := Rd w A (zs.map (Value.int .i64))
section
variable {w w' : World} {A : Option Addr} {zs : List Int}
theorem RI.nil (w : World) (A : Option Addr) : RI w A [] := Rd.nil w A
theorem RI.to (h : RI w A zs) (hb : Below w.heap.size w w') : RI w' A zs := Rd.to h hb
theorem RI.below {B : Nat} (h : RI w A zs) (hb : Below B w w') (hB : w.heap.size ≤ B) : RI w' A zs := Rd.below h hb hB
theorem RI.drewN (h : RI w A zs) (n : Nat) : RI (w.drewN n) A zs := h
theorem RI.alloc (h : RI w A zs) (o : Obj) : RI (w.alloc o) A zs := Rd.alloc h o
theorem RI.get (h : RI w A zs) {k : Nat} (hk : k < zs.length) :
    ∃ b off, A = some ⟨b, off, none⟩ ∧ b < w.heap.size ∧ w.cell? ⟨b, off + k, none⟩ = some (.int .i64 (nth zs k)) := by
  have hz : (zs.map (Value.int .i64))[k]? = some (.int .i64 (nth zs k)) := by
    simp [nth, hk]
  exact h k _ hz
theorem RI.take (h : RI w A zs) (n : Nat) : RI w A (zs.take n) := by
  unfold RI
  rw [List.map_take]
  exact Rd.take h n
theorem RI.of_own {base e n c : Nat} (h : w.ownsRow base e 1 (.slice A n c) n (zs.map (Value.int .i64))) : RI w A zs := Rd.of_own h
end
/-- Block g is just these cells of type t, none frozen. -/
def Blk (w : World) (g : Nat) (t : TypeId) (cs : Array Value) : Prop := w.heap[g]? = some (.cells cs t (0, 0))
section
variable {w w' : World} {g : Nat} {t : TypeId} {cs : Array Value}
theorem Blk.lt (h : Blk w g t cs) : g < w.heap.size := by
  rcases Nat.lt_or_ge g w.heap.size with hlt | hge
  · exact hlt
  · unfold Blk at h; rw [Array.getElem?_eq_none hge] at h; cases h
theorem Blk.cell (h : Blk w g t cs) (i : Nat) : w.cell? ⟨g, i, none⟩ = cs[i]? := cell_of_row w g i cs t (0, 0) h
theorem Blk.frozen (h : Blk w g t cs) (i : Nat) : w.frozen? ⟨g, i, none⟩ = false := by
  unfold Blk at h
  simp [World.frozen?, h]
theorem Blk.new (w : World) (t : TypeId) (cs : Array Value) : Blk (w.alloc (.cells cs t)) w.heap.size t cs := heap_alloc_new w _
theorem Blk.drewN (h : Blk w g t cs) (n : Nat) : Blk (w.drewN n) g t cs := h
theorem Blk.alloc (h : Blk w g t cs) (o : Obj) : Blk (w.alloc o) g t cs := (Below.heap_alloc w o g h.lt).trans h
theorem Blk.set_ (h : Blk w g t cs) (i : Nat) (u : Value) : Blk (w.setCell ⟨g, i, none⟩ u) g t (cs.setIfInBounds i u) := by
  unfold Blk at h ⊢
  simp [World.setCell, Array.getElem?_modify, h]
theorem Blk.far (h : Blk w g t cs) {p : Addr} (hp : g ≠ p.block) (u : Value) : Blk (w.setCell p u) g t cs := (Below.heap_setCell w p u g hp).trans h
theorem Blk.below {B : Nat} (h : Blk w g t cs) (hb : Below B w w') (hg : g < B) : Blk w' g t cs := (hb.block g hg).trans h
theorem Blk.to (h : Blk w g t cs) (hb : Below w.heap.size w w') : Blk w' g t cs := (hb.block g h.lt).trans h
theorem Blk.grown {row : Option Nat} (h : Blk w g t cs) (hb : w.grownBy w' row) (hg : some g ≠ row) : Blk w' g t cs := (hb.block g h.lt hg).trans h
theorem Blk.rd (h : Blk w g t cs) : Rd w (some ⟨g, 0, none⟩) cs.toList := fun k v hk => ⟨g, 0, rfl, h.lt, by
  rw [Nat.zero_add, h.cell k, ← hk, Array.getElem?_toList]⟩
theorem Blk.own (h : Blk w g t cs) {base n size : Nat} (hb : base ≤ g) (hs : cs.size = n * size) (hm : n ≤ maxLen) : w.ownsRow base t size (.slice (some ⟨g, 0, none⟩) n n) n cs.toList :=
  ⟨by simpa using hs, .inr ⟨g, n, cs, rfl, hb, h, Nat.le_refl _, hm, hs, List.take_of_length_le (by rw [Array.length_toList, hs]; exact Nat.le_refl _)⟩⟩
end
/-- The cells of a list of numbers. -/
def ints (zs : List Int) : Array Value := (zs.map (Value.int .i64)).toArray
theorem size_ints (zs : List Int) : (ints zs).size = zs.length := by simp [ints]
theorem RI.of_blk {w : World} {g : Nat} {t : TypeId} {zs : List Int} (h : Blk w g t (ints zs)) : RI w (some ⟨g, 0, none⟩) zs := by
  have := h.rd
  simpa [ints, RI] using this
theorem Bl.drewN {B : Nat} {a w : World} (h : Below B a w) (n : Nat) : Below B a (w.drewN n) := ⟨h.os, h.tape, h.output, h.size, h.block⟩
theorem Bl.of_drewN {B : Nat} (w : World) (n : Nat) : Below B w (w.drewN n) := Bl.drewN (Below.refl _ _) n
/-- Two calls in a row: what the first left stands behind the second. -/
theorem Bl.then {a b c : World} (h : Below a.heap.size a b) (k : Below b.heap.size b c) : Below a.heap.size a c := h.trans (k.mono h.size)
theorem wrap64_id {n : Int} (h1 : -9223372036854775808 ≤ n) (h2 : n ≤ 9223372036854775807) : wrap64 n = n := IntWalk.wrap64_in n ⟨h1, h2⟩
theorem quiet_eq {P : Program} {f : FuncId} {args : Array Value} {w : World} {n : Nat} {v : Value} (h : ∀ W : World, W = w.drewN n → Calls P f args W fun e w' => e = .returned v ∧ W = w') :
    Calls P f args (w.drewN n) fun e w'' => e = .returned v ∧ ∃ m, w'' = w.drewN m :=
  (h _ rfl).mono fun _ _ ⟨he, hm⟩ => ⟨he, n, hm.symm⟩
theorem ret_int {k : IntKind} {a b : Int} (h : a = b) : Ending.returned (.int k a) = .returned (.int k b) := by rw [h]
theorem ret_bool {a b : Bool} (h : a = b) : Ending.returned (.bool a) = .returned (.bool b) := by rw [h]
end Go.Proofs.YtjflfhjnbccpmaaGreatDoor
namespace Go.Proofs.YtjflfhjnbccpmaaGreatDoor
/-- A record: its time, its port, the end's address and port, whether the port is taken. -/
structure Rec where
  at_ : Int
  po : Int
  ad : Int
  ep : Int
  ov : Bool
def rec0 : Rec := ⟨0, 0, 0, 0, false⟩
/-- The k-th record. -/
def rn (l : List Rec) (k : Nat) : Rec := l[k]?.getD rec0
/-- The place of the record that gives a port, of the first n; -1 for none. -/
def hold (l : List Rec) (port : Int) : Nat → Int
  | 0 => -1
  | n + 1 => if (rn l n).po = port then (if (rn l n).ov then -1 else (n : Int)) else hold l port n
/-- Who has a port behind the first n records. -/
def ownP (l : List Rec) (port : Int) : Nat → Option (Int × Int)
  | 0 => none
  | n + 1 => if (rn l n).po = port then (if (rn l n).ov then none else some ((rn l n).ad, (rn l n).ep)) else ownP l port n
/-- Whether the i-th record fits what is before it. -/
def fit (l : List Rec) (i : Nat) : Bool :=
  if (rn l i).ov then ownP l (rn l i).po i == some ((rn l i).ad, (rn l i).ep) else (ownP l (rn l i).po i).isNone
/-- The time of the record before. -/
def pat (l : List Rec) (i : Nat) : Int := if i = 0 then 0 else (rn l (i - 1)).at_
def stat (r : Rec) (last : Int) : Bool := inB r.at_ last 10000 && (inB r.po 1000 1007 && (inB r.ad 0 65535 && inB r.ep 0 65535))
def statI (l : List Rec) (i : Nat) : Bool := stat (rn l i) (pat l i)
/-- Valid records. -/
def vRec (l : List Rec) : Bool := allUp (statI l) l.length && (allUp (fit l) l.length && decide (l.length ≤ 16))
/-- How many records are not later than a time. -/
def upTo (l : List Rec) (now : Int) : Nat := ((List.range l.length).find? (fun k => decide (now < (rn l k).at_))).getD l.length
section
variable {l : List Rec}
/-- The ports that somebody has at a time. -/
def ports (l : List Rec) (now : Int) : List Int := if vRec l then ((List.range 8).map (fun k => (1000 : Int) + (k : Nat))).filter (fun p => (ownP l p (upTo l now)).isSome) else []
/-- How many ports are had behind the first n records. -/
def held (l : List Rec) (n : Nat) : Nat := ((List.range 8).map (fun k => (1000 : Int) + (k : Nat))).countP (fun p => (ownP l p n).isSome)
end
end Go.Proofs.YtjflfhjnbccpmaaGreatDoor
namespace Go.Proofs.YtjflfhjnbccpmaaGreatDoor
/-- A mapping: the end inside (address, port), the port outside, when it was used last. -/
structure Mpg where
  ad : Int
  ep : Int
  po : Int
  la : Int
def mpg0 : Mpg := ⟨0, 0, 0, 0⟩
/-- The k-th mapping. -/
def mn (l : List Mpg) (k : Nat) : Mpg := l[k]?.getD mpg0
theorem mn_take {l : List Mpg} {k j : Nat} (h : j < k) : mn (l.take k) j = mn l j := by simp [mn, h]
theorem mn_mem {l : List Mpg} {k : Nat} (h : k < l.length) : mn l k ∈ l := by simp [mn, h]
theorem mem_mn {l : List Mpg} {m : Mpg} (h : m ∈ l) : ∃ k, k < l.length ∧ mn l k = m := by
  obtain ⟨k, hk, he⟩ := List.getElem_of_mem h
  exact ⟨k, hk, by simp [mn, hk, he]⟩
/-- The first number below n with P, -1 for none. -/
def idx (P : Nat → Bool) (n : Nat) : Int := match (List.range n).find? P with | some k => (k : Int) | none => -1
theorem idx_some {P : Nat → Bool} {n k : Nat} (hk : k < n) (h : P k = true) (hl : ∀ j, j < k → P j = false) : idx P n = k := by
  unfold idx
  have : (List.range n).find? P = some k := by
    rw [List.find?_range_eq_some]
    exact ⟨h, by simpa using hk, fun j hj => by simp [hl j hj]⟩
  rw [this]
theorem idx_none {P : Nat → Bool} {n : Nat} (h : ∀ j, j < n → P j = false) : idx P n = -1 := by
  unfold idx
  have : (List.range n).find? P = none := by
    rw [List.find?_range_eq_none]
    intro j hj
    simp [h j hj]
  rw [this]
theorem idx_cases (P : Nat → Bool) (n : Nat) : (∃ k, k < n ∧ P k = true ∧ (∀ j, j < k → P j = false) ∧ idx P n = k) ∨ ((∀ j, j < n → P j = false) ∧ idx P n = -1) := by
  cases h : (List.range n).find? P with
  | none =>
    rw [List.find?_range_eq_none] at h
    exact .inr ⟨fun j hj => by simpa using h j hj, idx_none (fun j hj => by simpa using h j hj)⟩
  | some k =>
    rw [List.find?_range_eq_some] at h
    obtain ⟨h1, h2, h3⟩ := h
    exact .inl ⟨k, by simpa using h2, h1, fun j hj => by simpa using h3 j hj, idx_some (by simpa using h2) h1 (fun j hj => by simpa using h3 j hj)⟩
theorem idx_bd (P : Nat → Bool) (n : Nat) : -1 ≤ idx P n ∧ idx P n < n := by
  rcases idx_cases P n with ⟨k, hk, _, _, e⟩ | ⟨_, e⟩ <;> omega
theorem idx_neg {P : Nat → Bool} {n : Nat} : idx P n < 0 ↔ ∀ j, j < n → P j = false := by
  rcases idx_cases P n with ⟨k, hk, h1, _, e⟩ | ⟨h1, e⟩
  · constructor
    · intro h; omega
    · intro h; rw [h k hk] at h1; cases h1
  · exact ⟨fun _ => h1, fun _ => by omega⟩
def isE (m : Mpg) (a p : Int) : Bool := decide (m.ad = a) && decide (m.ep = p)
def isP (m : Mpg) (p : Int) : Bool := decide (m.po = p)
theorem isE_iff {m : Mpg} {a p : Int} : isE m a p = true ↔ m.ad = a ∧ m.ep = p := by unfold isE; simp
theorem isP_iff {m : Mpg} {p : Int} : isP m p = true ↔ m.po = p := by unfold isP; simp
/-- The place of the mapping of an end, of the first n. -/
def byE (l : List Mpg) (a p : Int) (n : Nat) : Int := idx (fun k => isE (mn l k) a p) n
/-- The place of the mapping of a port, of the first n. -/
def byP (l : List Mpg) (p : Int) (n : Nat) : Int := idx (fun k => isP (mn l k) p) n
def okM (m : Mpg) : Bool := (inB m.ad 0 65535 && inB m.ep 0 65535) && (inB m.po 1000 1007 && inB m.la 0 10000)
/-- The i-th mapping is fine, and is none of those before it. -/
def tabI (l : List Mpg) (i : Nat) : Bool := okM (mn l i) && (decide (byE l (mn l i).ad (mn l i).ep i < 0) && decide (byP l (mn l i).po i < 0))
/-- A valid table. -/
def vTab (l : List Mpg) : Bool := allUp (tabI l) l.length && decide (l.length ≤ 8)
theorem vTab_iff {l : List Mpg} : vTab l = true ↔ (∀ i, i < l.length → tabI l i = true) ∧ l.length ≤ 8 := by
  unfold vTab; simp only [Bool.and_eq_true, allUp_iff, decide_eq_true_eq]
theorem okM_iff {m : Mpg} : okM m = true ↔ ((0 ≤ m.ad ∧ m.ad ≤ 65535) ∧ (0 ≤ m.ep ∧ m.ep ≤ 65535)) ∧ (1000 ≤ m.po ∧ m.po ≤ 1007) ∧ 0 ≤ m.la ∧ m.la ≤ 10000 := by
  unfold okM
  simp only [Bool.and_eq_true]
  constructor
  · rintro ⟨⟨h1, h2⟩, h3, h4⟩; exact ⟨⟨inB_true h1, inB_true h2⟩, inB_true h3, inB_true h4⟩
  · rintro ⟨⟨h1, h2⟩, h3, h4⟩; exact ⟨⟨inB_mk h1.1 h1.2, inB_mk h2.1 h2.2⟩, inB_mk h3.1 h3.2, inB_mk h4.1 h4.2⟩
section
variable {l : List Mpg}
theorem tab_at (h : vTab l = true) {i : Nat} (hi : i < l.length) : okM (mn l i) = true ∧ (∀ j, j < i → ¬ ((mn l j).ad = (mn l i).ad ∧ (mn l j).ep = (mn l i).ep)) ∧ ∀ j, j < i → (mn l j).po ≠ (mn l i).po := by
  have := (vTab_iff.1 h).1 i hi
  unfold tabI byE byP at this
  simp only [Bool.and_eq_true, decide_eq_true_eq, idx_neg] at this
  refine ⟨this.1, fun j hj e => ?_, fun j hj e => ?_⟩
  · have h1 := this.2.1 j hj
    rw [isE_iff.2 e] at h1; cases h1
  · have h1 := this.2.2 j hj
    rw [isP_iff.2 e] at h1; cases h1
end
/-- The table has a mapping of this end and port. -/
def hasM (l : List Mpg) (m : Mpg) : Bool := l.any (fun n => decide (n.ad = m.ad) && (decide (n.ep = m.ep) && decide (n.po = m.po)))
/-- The record that a mapping ends, or begins, at a time. -/
def recOf (now : Int) (ov : Bool) (m : Mpg) : Rec := ⟨now, m.po, m.ad, m.ep, ov⟩
/-- The records that lead from one table to another. -/
def between (a b : List Mpg) (now : Int) : List Rec :=
  if vTab a && (vTab b && inB now 0 10000) then (a.filter (fun m => !hasM b m)).map (recOf now true) ++ (b.filter (fun m => !hasM a m)).map (recOf now false) else []
end Go.Proofs.YtjflfhjnbccpmaaGreatDoor
namespace Go.Proofs.YtjflfhjnbccpmaaGreatDoor
/-- All numbers lie in lo .. hi. -/
def allIn (zs : List Int) (lo hi : Int) : Bool := allUp (fun k => inB (nth zs k) lo hi) zs.length
def vPoolAt (zs : List Int) (k : Nat) : Bool := inB (nth zs k) 0 65535 && (k == 0 || decide (nth zs (k - 1) < nth zs k))
/-- The pool is valid. -/
def vPool (zs : List Int) : Bool := allUp (vPoolAt zs) zs.length && inB zs.length 1 5
/-- The place of an address in a pool of m. -/
def spr (a m : Int) : Int := (a * 37 + 11) % 251 % m
/-- May be asked for. -/
def askB (as1 : List Int) : Bool := decide (as1.length ≤ 12) && allIn as1 0 65535
/-- For how many of the addresses the j-th of the pool stands. -/
def cnt (zs qs : List Int) (j : Nat) : Int := ((qs.filter (fun a => spr a zs.length == (j : Int))).length : Int)
def pcs (zs qs : List Int) : List Int := (List.range zs.length).map (cnt zs qs)
theorem pcs_len (zs qs : List Int) : (pcs zs qs).length = zs.length := by simp [pcs]
theorem take_succ_nth {qs : List Int} {k : Nat} (h : k < qs.length) : qs.take (k + 1) = qs.take k ++ [nth qs k] := by
  rw [List.take_succ_eq_append_getElem h]
  simp [nth, h]
end Go.Proofs.YtjflfhjnbccpmaaGreatDoor
namespace Go.Proofs.YtjflfhjnbccpmaaGreatDoor
open Go.RowKit
theorem c_in (n lo hi : Int) (w : World) : Calls Tryz.prog 44 #[.int .i64 n, .int .i64 lo, .int .i64 hi] w fun e w' => e = .returned (.bool (inB n lo hi)) ∧ w = w' := by
  go_enter Tryz.func44, Tryz.ntmps44
  go_wp2
  all_goals
    go_ret
    exact ⟨ret_bool (by unfold inB; simp; try omega), rfl⟩
theorem c_inRange (n lo hi : Int) (w : World) : Calls Tryz.prog 54 #[.int .i64 n, .int .i64 lo, .int .i64 hi] w fun e w' => e = .returned (.bool (inB n lo hi)) ∧ w = w' := by
  go_enter Tryz.func54, Tryz.ntmps54
  go_wp2
  all_goals
    go_ret
    exact ⟨ret_bool (by unfold inB; simp; try omega), rfl⟩
theorem c_isWord (n : Int) (w : World) : Calls Tryz.prog 108 #[.int .i64 n] w fun e w' => e = .returned (.bool (inB n 0 65535)) ∧ w = w' := by
  go_enter Tryz.func108, Tryz.ntmps108
  go_wp2_with (go_at_call 44; refine (c_in _ _ _ _).mono ?_; rintro e w' ⟨rfl, rfl⟩)
  go_ret
  exact ⟨rfl, rfl⟩
theorem c_validAddr (n : Int) (w : World) : Calls Tryz.prog 135 #[.int .i64 n] w fun e w' => e = .returned (.bool (inB n 0 65535)) ∧ w = w' := by
  go_enter Tryz.func135, Tryz.ntmps135
  go_wp2_with (go_at_call 54; refine (c_inRange _ _ _ _).mono ?_; rintro e w' ⟨rfl, rfl⟩)
  go_ret
  exact ⟨rfl, rfl⟩
theorem c_areWords (A : Option Addr) (c : Nat) (zs : List Int) (w : World) (h : RI w A zs) (hl : zs.length ≤ 1099511627776) :
    Calls Tryz.prog 106 #[.slice A zs.length c] w fun e w' => e = .returned (.bool (allIn zs 0 65535)) ∧ w = w' := by
  go_enter Tryz.func106, Tryz.ntmps106
  go_wp2
  go_loop [7] (fun i => ∃ k : Nat, k ≤ zs.length ∧ i = .int .i64 k ∧ Hid (∀ j, j < k → inB (nth zs j) 0 65535 = true)) (fun i => zs.length - (intOf i).toNat)
  case atStart => exact ⟨0, Nat.zero_le _, rfl, fun j hj => absurd hj (by omega)⟩
  case round =>
    obtain ⟨k, hk, rfl, hP⟩ := hrel
    by_cases hlt : k < zs.length
    · obtain ⟨b, off, rfl, hb, hc⟩ := h.get hlt
      cases hin : inB (nth zs k) 0 65535
      · go_wp2_with (go_at_call 108; refine (c_isWord _ _).mono ?_; rintro e w' ⟨rfl, rfl⟩)
        go_ret
        exact ⟨ret_bool (by unfold allIn; rw [allUp_false hlt hin]), rfl⟩
      · go_wp2_with (go_at_call 108; refine (c_isWord _ _).mono ?_; rintro e w' ⟨rfl, rfl⟩)
        go_round
        case rel => exact ⟨k + 1, by omega, by go_num, upTo_succ hP.out hin⟩
        case measure => simp [intOf]; omega
    · go_wp2
      go_ret
      exact ⟨ret_bool (by unfold allIn; rw [allUp_true (fun j hj => hP.out j (by omega))]), rfl⟩
theorem c_allIn (A : Option Addr) (c : Nat) (zs : List Int) (lo hi : Int) (w : World) (h : RI w A zs) (hl : zs.length ≤ 1099511627776) :
    Calls Tryz.prog 174 #[.slice A zs.length c, .int .i64 lo, .int .i64 hi] w fun e w' => e = .returned (.bool (allIn zs lo hi)) ∧ w = w' := by
  go_enter Tryz.func174, Tryz.ntmps174
  go_wp2
  go_loop [7] (fun i => ∃ k : Nat, k ≤ zs.length ∧ i = .int .i64 k ∧ Hid (∀ j, j < k → inB (nth zs j) lo hi = true)) (fun i => zs.length - (intOf i).toNat)
  case atStart => exact ⟨0, Nat.zero_le _, rfl, fun j hj => absurd hj (by omega)⟩
  case round =>
    obtain ⟨k, hk, rfl, hP⟩ := hrel
    by_cases hlt : k < zs.length
    · obtain ⟨b, off, rfl, hb, hc⟩ := h.get hlt
      cases hin : inB (nth zs k) lo hi
      · go_wp2_with (go_at_call 54; refine (c_inRange _ _ _ _).mono ?_; rintro e w' ⟨rfl, rfl⟩)
        go_ret
        exact ⟨ret_bool (by unfold allIn; rw [allUp_false hlt hin]), rfl⟩
      · go_wp2_with (go_at_call 54; refine (c_inRange _ _ _ _).mono ?_; rintro e w' ⟨rfl, rfl⟩)
        go_round
        case rel => exact ⟨k + 1, by omega, by go_num, upTo_succ hP.out hin⟩
        case measure => simp [intOf]; omega
    · go_wp2
      go_ret
      exact ⟨ret_bool (by unfold allIn; rw [allUp_true (fun j hj => hP.out j (by omega))]), rfl⟩
end Go.Proofs.YtjflfhjnbccpmaaGreatDoor
namespace Go.Proofs.YtjflfhjnbccpmaaGreatDoor
open Go.RowKit
theorem int_info : (Tryz.prog.info? 3).map (fun i => (i.zero, i.size, i.bytes)) = some (some (.int .i64 0), 1, 8) := by kernel_rfl
end Go.Proofs.YtjflfhjnbccpmaaGreatDoor
namespace Go.Proofs.YtjflfhjnbccpmaaGreatDoor
open Go.RowKit
/-- The number of addresses of a net of these bits. -/
def sz (bi : Int) : Int := 2 ^ (16 - bi).toNat
theorem sz_bd {bi : Int} (h : inB bi 0 16 = true) : 1 ≤ sz bi ∧ sz bi ≤ 65536 := by
  have := inB_true h
  obtain ⟨k, rfl⟩ : ∃ k : Nat, bi = k := ⟨bi.toNat, by omega⟩
  have hk : k ≤ 16 := by omega
  have h17 : ∀ k : Fin 17, (1 : Int) ≤ 2 ^ (16 - (k.val : Int)).toNat ∧ (2 : Int) ^ (16 - (k.val : Int)).toNat ≤ 65536 := by decide
  exact h17 ⟨k, by omega⟩
/-- A valid net. -/
def vNet (ba bi : Int) : Bool := inB bi 0 16 && (inB ba 0 65535 && (ba.tmod (sz bi) == 0))
/-- An address within a net. -/
def inN (ba bi a : Int) : Bool := inB a ba (ba + sz bi - 1)
theorem vNet_bits {ba bi : Int} (h : vNet ba bi = true) : inB bi 0 16 = true := by unfold vNet at h; simp only [Bool.and_eq_true] at h; exact h.1
theorem vNet_base {ba bi : Int} (h : vNet ba bi = true) : inB ba 0 65535 = true := by unfold vNet at h; simp only [Bool.and_eq_true] at h; exact h.2.1
theorem keep2 {w w1 w2 : World} {v0 v1 : Value} (hq : Below w1.heap.size w1 w2) (h0 : w1.cell? ⟨w.heap.size, 0, none⟩ = some v0) (h1 : w1.cell? ⟨w.heap.size, 1, none⟩ = some v1)
    (hB : Below w.heap.size w w1) (hl : w.heap.size < w1.heap.size) :
    w2.cell? ⟨w.heap.size, 0, none⟩ = some v0 ∧ w2.cell? ⟨w.heap.size, 1, none⟩ = some v1 ∧ Below w.heap.size w w2 ∧ w.heap.size < w2.heap.size :=
  ⟨(hq.cell hl).trans h0, (hq.cell hl).trans h1, Bl.then hB hq, Nat.lt_of_lt_of_le hl hq.size⟩
theorem c_size (ba bi : Int) (w : World) (hb : inB bi 0 16 = true) :
    Calls Tryz.prog 160 #[.agg #[.int .i64 ba, .int .i64 bi]] w fun e w' => e = .returned (.int .i64 (sz bi)) ∧ Below w.heap.size w w' := by
  have hbb := inB_true hb
  have hsb := sz_bd hb
  go_enter Tryz.func160, Tryz.ntmps160
  go_wp2
  go_ret
  exact ⟨ret_int (by unfold sz at hsb ⊢; exact wrap64_id (by omega) (by omega)), (Below.refl _ _).alloc (Nat.le_refl _) _⟩
theorem c_ssize (ba bi : Int) (w : World) (hb : inB bi 0 16 = true) :
    Calls Tryz.prog 175 #[.agg #[.int .i64 ba, .int .i64 bi]] w fun e w' => e = .returned (.int .i64 (sz bi)) ∧ Below w.heap.size w w' := by
  have hbb := inB_true hb
  go_enter Tryz.func175, Tryz.ntmps175
  go_wp2
  go_loopw [3, 4] (fun o i wr => ∃ k : Nat, bi + k ≤ 16 ∧ i = .int .i64 (bi + k) ∧ o = .int .i64 (2 ^ k) ∧ wr = w.alloc (.cells #[.int .i64 ba, .int .i64 bi] 40)) (fun o i _ => 17 - (intOf i).toNat)
  case atStart => exact ⟨0, by omega, by simp, by simp, by simp⟩
  case round =>
    obtain ⟨k, hk, rfl, rfl, rfl⟩ := hrel
    have hp : (2 : Int) ^ k ≤ 65536 ∧ 1 ≤ (2 : Int) ^ k := by
      have h17 : ∀ k : Fin 17, (2 : Int) ^ k.val ≤ 65536 ∧ 1 ≤ (2 : Int) ^ k.val := by decide
      exact h17 ⟨k, by omega⟩
    by_cases hlt : bi + k < 16
    · go_wp2
      go_roundw
      case rel => exact ⟨k + 1, by omega, by go_num, by rw [Int.pow_succ]; go_num, by simp⟩
      case measure => simp [intOf]; omega
    · go_wp2
      go_ret
      exact ⟨ret_int (by unfold sz; rw [show (16 - bi).toNat = k by omega]), (Below.refl _ _).alloc (Nat.le_refl _) _⟩
theorem c_has (ba bi a : Int) (w : World) (hv : vNet ba bi = true) :
    Calls Tryz.prog 102 #[.agg #[.int .i64 ba, .int .i64 bi], .int .i64 a] w fun e w' => e = .returned (.bool (inN ba bi a)) ∧ Below w.heap.size w w' := by
  have hb := vNet_bits hv
  have hbb := inB_true hb
  have hsb := sz_bd hb
  have hba := inB_true (vNet_base hv)
  have e1 : IntKind.i64.wrap (ba + sz bi) = ba + sz bi := IntWalk.i64_in _ (by omega)
  have e2 : IntKind.i64.wrap (ba + sz bi - 1) = ba + sz bi - 1 := IntWalk.i64_in _ (by omega)
  go_enter Tryz.func102, Tryz.ntmps102
  go_wp2
  go_region_held3 (fun w' => w'.cell? ⟨w.heap.size, 0, none⟩ = some (.int .i64 ba) ∧ w'.cell? ⟨w.heap.size, 1, none⟩ = some (.int .i64 bi) ∧ Below w.heap.size w w' ∧ w.heap.size < w'.heap.size) (first | exact ⟨by simp [go_sem], by simp [go_sem], Bl.drewN ((Below.refl _ _).alloc (Nat.le_refl _) _) 1, (Blk.new w _ _).lt⟩ | exact keep2 (by assumption) (by first | assumption | simp [go_sem]) (by first | assumption | simp [go_sem]) (by first | assumption | exact Bl.drewN ((Below.refl _ _).alloc (Nat.le_refl _) _) 1) (by first | assumption | exact (Blk.new w _ _).lt))
    (first
      | (go_at_call 160; refine (c_size _ _ _ hb).mono ?_; rintro e w' ⟨rfl, hq⟩)
      | (go_at_call 44; refine (c_in _ _ _ _).mono ?_; rintro e w' ⟨rfl, rfl⟩))
  rename_i hH
  go_wp2
  go_ret
  exact ⟨ret_bool rfl, hH.2.2.1⟩
theorem c_inNet (ba bi a : Int) (w : World) (hv : vNet ba bi = true) :
    Calls Tryz.prog 139 #[.agg #[.int .i64 ba, .int .i64 bi], .int .i64 a] w fun e w' => e = .returned (.bool (inN ba bi a)) ∧ Below w.heap.size w w' := by
  have hb := vNet_bits hv
  have hbb := inB_true hb
  have hsb := sz_bd hb
  have hba := inB_true (vNet_base hv)
  have e1 : IntKind.i64.wrap (ba + sz bi) = ba + sz bi := IntWalk.i64_in _ (by omega)
  have e2 : IntKind.i64.wrap (ba + sz bi - 1) = ba + sz bi - 1 := IntWalk.i64_in _ (by omega)
  go_enter Tryz.func139, Tryz.ntmps139
  go_wp2
  go_region_held3 (fun w' => w'.cell? ⟨w.heap.size, 0, none⟩ = some (.int .i64 ba) ∧ w'.cell? ⟨w.heap.size, 1, none⟩ = some (.int .i64 bi) ∧ Below w.heap.size w w' ∧ w.heap.size < w'.heap.size) (first | exact ⟨by simp [go_sem], by simp [go_sem], Bl.drewN ((Below.refl _ _).alloc (Nat.le_refl _) _) 1, (Blk.new w _ _).lt⟩ | exact keep2 (by assumption) (by first | assumption | simp [go_sem]) (by first | assumption | simp [go_sem]) (by first | assumption | exact Bl.drewN ((Below.refl _ _).alloc (Nat.le_refl _) _) 1) (by first | assumption | exact (Blk.new w _ _).lt))
    (first
      | (go_at_call 175; refine (c_ssize _ _ _ hb).mono ?_; rintro e w' ⟨rfl, hq⟩)
      | (go_at_call 54; refine (c_inRange _ _ _ _).mono ?_; rintro e w' ⟨rfl, rfl⟩))
  rename_i hH
  go_wp2
  go_ret
  exact ⟨ret_bool rfl, hH.2.2.1⟩
theorem c_inV (n lo hi : Int) (b : Bool) (w : World) (h : inB n lo hi = b) : Calls Tryz.prog 44 #[.int .i64 n, .int .i64 lo, .int .i64 hi] w fun e w' => e = .returned (.bool b) ∧ w = w' := by subst h; exact c_in n lo hi w
theorem c_inRangeV (n lo hi : Int) (b : Bool) (w : World) (h : inB n lo hi = b) : Calls Tryz.prog 54 #[.int .i64 n, .int .i64 lo, .int .i64 hi] w fun e w' => e = .returned (.bool b) ∧ w = w' := by subst h; exact c_inRange n lo hi w
theorem c_isWordV (n : Int) (b : Bool) (w : World) (h : inB n 0 65535 = b) : Calls Tryz.prog 108 #[.int .i64 n] w fun e w' => e = .returned (.bool b) ∧ w = w' := by subst h; exact c_isWord n w
theorem c_validAddrV (n : Int) (b : Bool) (w : World) (h : inB n 0 65535 = b) : Calls Tryz.prog 135 #[.int .i64 n] w fun e w' => e = .returned (.bool b) ∧ w = w' := by subst h; exact c_validAddr n w
theorem c_ValidNet (ba bi : Int) (w : World) :
    Calls Tryz.prog 107 #[.agg #[.int .i64 ba, .int .i64 bi]] w fun e w' => e = .returned (.bool (vNet ba bi)) ∧ Below w.heap.size w w' := by
  cases hb : inB bi 0 16
  · go_enter Tryz.func107, Tryz.ntmps107
    go_wp2
    go_quiet ((go_at_call 44; exact quiet_eq (fun W _ => c_inV _ _ _ _ W hb)))
    go_wp2
    go_ret
    exact ⟨ret_bool (by unfold vNet; rw [hb]; rfl), Bl.drewN ((Below.refl _ _).alloc (Nat.le_refl _) _) _⟩
  cases ha : inB ba 0 65535
  · go_enter Tryz.func107, Tryz.ntmps107
    go_wp2
    go_quiet (first | (go_at_call 44; exact quiet_eq (fun W _ => c_inV _ _ _ _ W hb)) | (go_at_call 108; exact quiet_eq (fun W _ => c_isWordV _ _ W ha)))
    go_wp2
    go_ret
    exact ⟨ret_bool (by unfold vNet; rw [hb, ha]; rfl), Bl.drewN ((Below.refl _ _).alloc (Nat.le_refl _) _) _⟩
  have hsb := sz_bd hb
  have hz : sz bi ≠ 0 := by omega
  cases ht : ba.tmod (sz bi) == 0
  all_goals
    go_enter Tryz.func107, Tryz.ntmps107
    go_wp2
    go_region_held3 (fun w' => w'.cell? ⟨w.heap.size, 0, none⟩ = some (.int .i64 ba) ∧ w'.cell? ⟨w.heap.size, 1, none⟩ = some (.int .i64 bi) ∧ Below w.heap.size w w' ∧ w.heap.size < w'.heap.size) (first | exact ⟨by simp [go_sem], by simp [go_sem], Bl.drewN ((Below.refl _ _).alloc (Nat.le_refl _) _) 1, (Blk.new w _ _).lt⟩ | exact keep2 (by assumption) (by first | assumption | simp [go_sem]) (by first | assumption | simp [go_sem]) (by first | assumption | exact Bl.drewN ((Below.refl _ _).alloc (Nat.le_refl _) _) 1) (by first | assumption | exact (Blk.new w _ _).lt))
      (first
        | (go_at_call 160; refine (c_size _ _ _ hb).mono ?_; rintro e w' ⟨rfl, hq⟩)
        | (go_at_call 108; refine (c_isWord _ _).mono ?_; rw [ha]; rintro e w' ⟨rfl, rfl⟩)
        | (go_at_call 44; refine (c_in _ _ _ _).mono ?_; rw [hb]; rintro e w' ⟨rfl, rfl⟩))
    rename_i hH
    go_wp2
    go_ret
    exact ⟨ret_bool (by unfold vNet; rw [hb, ha, ht]; rfl), hH.2.2.1⟩
theorem c_validNet (ba bi : Int) (w : World) :
    Calls Tryz.prog 146 #[.agg #[.int .i64 ba, .int .i64 bi]] w fun e w' => e = .returned (.bool (vNet ba bi)) ∧ Below w.heap.size w w' := by
  cases hb : inB bi 0 16
  · go_enter Tryz.func146, Tryz.ntmps146
    go_wp2
    go_quiet ((go_at_call 54; exact quiet_eq (fun W _ => c_inRangeV _ _ _ _ W hb)))
    go_wp2
    go_ret
    exact ⟨ret_bool (by unfold vNet; rw [hb]; rfl), Bl.drewN ((Below.refl _ _).alloc (Nat.le_refl _) _) _⟩
  cases ha : inB ba 0 65535
  · go_enter Tryz.func146, Tryz.ntmps146
    go_wp2
    go_quiet (first | (go_at_call 54; exact quiet_eq (fun W _ => c_inRangeV _ _ _ _ W hb)) | (go_at_call 135; exact quiet_eq (fun W _ => c_validAddrV _ _ W ha)))
    go_wp2
    go_ret
    exact ⟨ret_bool (by unfold vNet; rw [hb, ha]; rfl), Bl.drewN ((Below.refl _ _).alloc (Nat.le_refl _) _) _⟩
  have hsb := sz_bd hb
  have hz : sz bi ≠ 0 := by omega
  cases ht : ba.tmod (sz bi) == 0
  all_goals
    go_enter Tryz.func146, Tryz.ntmps146
    go_wp2
    go_region_held3 (fun w' => w'.cell? ⟨w.heap.size, 0, none⟩ = some (.int .i64 ba) ∧ w'.cell? ⟨w.heap.size, 1, none⟩ = some (.int .i64 bi) ∧ Below w.heap.size w w' ∧ w.heap.size < w'.heap.size) (first | exact ⟨by simp [go_sem], by simp [go_sem], Bl.drewN ((Below.refl _ _).alloc (Nat.le_refl _) _) 1, (Blk.new w _ _).lt⟩ | exact keep2 (by assumption) (by first | assumption | simp [go_sem]) (by first | assumption | simp [go_sem]) (by first | assumption | exact Bl.drewN ((Below.refl _ _).alloc (Nat.le_refl _) _) 1) (by first | assumption | exact (Blk.new w _ _).lt))
      (first
        | (go_at_call 175; refine (c_ssize _ _ _ hb).mono ?_; rintro e w' ⟨rfl, hq⟩)
        | (go_at_call 135; refine (c_validAddr _ _).mono ?_; rw [ha]; rintro e w' ⟨rfl, rfl⟩)
        | (go_at_call 54; refine (c_inRange _ _ _ _).mono ?_; rw [hb]; rintro e w' ⟨rfl, rfl⟩))
    rename_i hH
    go_wp2
    go_ret
    exact ⟨ret_bool (by unfold vNet; rw [hb, ha, ht]; rfl), hH.2.2.1⟩
end Go.Proofs.YtjflfhjnbccpmaaGreatDoor
namespace Go.Proofs.YtjflfhjnbccpmaaGreatDoor
open Go.RowKit
/-- The n cells behind A are bytes. -/
def RB (w : World) (A : Option Addr) (n : Nat) : Prop :=
  ∀ k, k < n → ∃ b off x, A = some ⟨b, off, none⟩ ∧ b < w.heap.size ∧ w.cell? ⟨b, off + k, none⟩ = some (.int .u8 x) ∧ 0 ≤ x ∧ x ≤ 255
theorem RB.to {w w' : World} {A : Option Addr} {n : Nat} (h : RB w A n) (hb : Below w.heap.size w w') : RB w' A n := fun k hk => by
  obtain ⟨b, off, x, rfl, hlt, hc, hx⟩ := h k hk
  exact ⟨b, off, x, rfl, Nat.lt_of_lt_of_le hlt hb.size, (hb.cell (p := ⟨b, off + k, none⟩) hlt).trans hc, hx⟩
theorem RB.le {w : World} {A : Option Addr} {n m : Nat} (h : RB w A n) (hm : m ≤ n) : RB w A m := fun k hk => h k (by omega)
theorem cell_of_add {w : World} {x : Addr} {i : Nat} {v : Value} (h : w.cell? (x.add i) = some v) (h0 : x.spot = none) :
    ∃ b off, x = ⟨b, off, none⟩ ∧ b < w.heap.size ∧ w.cell? ⟨b, off + i, none⟩ = some v := by
  obtain ⟨b, off, spot⟩ := x
  obtain rfl : spot = none := h0
  have hc : w.cell? ⟨b, off + i, none⟩ = some v := by
    unfold Addr.add at h
    split at h
    · rename_i h1; subst h1; simpa using h
    · simpa using h
  exact ⟨b, off, rfl, World.block_lt_of_cell? w ⟨b, off + i, none⟩ hc, hc⟩
theorem spot_of_cell0 {w : World} {x : Addr} {v : Value} (h : w.cell? (x.add 0) = some v) : x.spot = none := by
  have : w.cell? x = some v := by simpa [Addr.add] using h
  exact World.cell?_spot this
theorem row_bytes {w : World} {a : Option Addr} {len cap : Nat} {zs : List Int}
    (h : (a = none ∧ len = 0 ∧ cap = 0 ∧ zs = []) ∨ ∃ x, a = some x ∧ len ≤ cap ∧ cap ≤ maxLen ∧ zs.length = cap ∧ (∀ i, i < zs.length → w.cell? (x.add i) = some (.int .u8 (zs.getD i 0))) ∧ ∀ n ∈ zs, (Lit.int .u8 n).wf = true) :
    RB w a len ∧ len ≤ cap ∧ cap ≤ maxLen := by
  rcases h with ⟨rfl, rfl, rfl, rfl⟩ | ⟨x, rfl, hl, hm, hz, hc, hw⟩
  · exact ⟨fun k hk => absurd hk (by omega), Nat.le_refl _, by unfold maxLen; omega⟩
  · refine ⟨fun k hk => ?_, hl, hm⟩
    obtain ⟨b, off, rfl, hb, hcc⟩ := cell_of_add (hc k (by omega)) (spot_of_cell0 (hc 0 (by omega)))
    have := Go.bounds_u8 (hw (zs.getD k 0) (by rw [List.getD_eq_getElem?_getD, List.getElem?_eq_getElem (by omega)]; simp))
    exact ⟨b, off, _, rfl, hb, hcc, this⟩
end Go.Proofs.YtjflfhjnbccpmaaGreatDoor
namespace Go.Proofs.YtjflfhjnbccpmaaGreatDoor
open Go.RowKit
/-- The cells of a mapping. -/
def mapC (r : Mpg) : List Value := [.int .i64 r.ad, .int .i64 r.ep, .int .i64 r.po, .int .i64 r.la]
def mapCs (l : List Mpg) : List Value := l.flatMap mapC
/-- The cells behind A begin with the mappings l. -/
def TM (w : World) (A : Option Addr) (l : List Mpg) : Prop := Rd w A (mapCs l)
theorem mapC_len (r : Mpg) : (mapC r).length = 4 := rfl
theorem mapCs_len (l : List Mpg) : (mapCs l).length = l.length * 4 := by
  induction l with
  | nil => rfl
  | cons r l ih => unfold mapCs at ih ⊢; rw [List.flatMap_cons, List.length_append, ih, mapC_len, List.length_cons]; omega
theorem mapCs_app (l m : List Mpg) : mapCs (l ++ m) = mapCs l ++ mapCs m := by unfold mapCs; rw [List.flatMap_append]
theorem mapCs_at {l : List Mpg} : ∀ {k j : Nat}, k < l.length → j < 4 → (mapCs l)[k * 4 + j]? = (mapC (mn l k))[j]? := by
  induction l with
  | nil => intro k j hk; cases hk
  | cons r l ih =>
    intro k j hk hj
    unfold mapCs
    rw [List.flatMap_cons]
    cases k with
    | zero => rw [Nat.zero_mul, Nat.zero_add, List.getElem?_append_left (by rw [mapC_len]; exact hj)]; rfl
    | succ k =>
      rw [List.getElem?_append_right (by rw [mapC_len]; omega), mapC_len, show (k + 1) * 4 + j - 4 = k * 4 + j by omega]
      have := ih (k := k) (j := j) (by simpa using hk) hj
      unfold mapCs at this
      rw [this]
      simp [mn]
section
variable {w w' : World} {A : Option Addr} {l : List Mpg}
theorem TM.nil (w : World) (A : Option Addr) : TM w A [] := Rd.nil w A
theorem TM.to (h : TM w A l) (hb : Below w.heap.size w w') : TM w' A l := Rd.to h hb
theorem TM.alloc (h : TM w A l) (o : Obj) : TM (w.alloc o) A l := Rd.alloc h o
theorem TM.drewN (h : TM w A l) (n : Nat) : TM (w.drewN n) A l := h
theorem TM.take (h : TM w A l) (k : Nat) : TM w A (l.take k) := fun i v hi => h i v (by
  have hle : l.take k ++ l.drop k = l := List.take_append_drop k l
  rw [← hle, mapCs_app]
  rw [List.getElem?_append_left]
  · exact hi
  · rcases Nat.lt_or_ge i (mapCs (l.take k)).length with h1 | h1
    · exact h1
    · rw [List.getElem?_eq_none h1] at hi; cases hi)
/-- The cells of the k-th mapping. -/
theorem TM.get (h : TM w A l) {k : Nat} (hk : k < l.length) :
    ∃ b off, A = some ⟨b, off, none⟩ ∧ b < w.heap.size ∧ w.cell? ⟨b, off + k * 4, none⟩ = some (.int .i64 (mn l k).ad) ∧ w.cell? ⟨b, off + k * 4 + 1, none⟩ = some (.int .i64 (mn l k).ep) ∧
      w.cell? ⟨b, off + k * 4 + 2, none⟩ = some (.int .i64 (mn l k).po) ∧ w.cell? ⟨b, off + k * 4 + 3, none⟩ = some (.int .i64 (mn l k).la) := by
  have hc : ∀ j v, j < 4 → (mapC (mn l k))[j]? = some v → ∃ b off, A = some ⟨b, off, none⟩ ∧ b < w.heap.size ∧ w.cell? ⟨b, off + (k * 4 + j), none⟩ = some v := fun j v hj hv => h _ v ((mapCs_at hk hj).trans hv)
  obtain ⟨b, off, rfl, hb, h0⟩ := hc 0 _ (by omega) rfl
  obtain ⟨_, _, e1, _, h1⟩ := hc 1 _ (by omega) rfl
  obtain ⟨_, _, e2, _, h2⟩ := hc 2 _ (by omega) rfl
  obtain ⟨_, _, e3, _, h3⟩ := hc 3 _ (by omega) rfl
  cases e1; cases e2; cases e3
  exact ⟨b, off, rfl, hb, by simpa using h0, by simpa [Nat.add_assoc] using h1, by simpa [Nat.add_assoc] using h2, by simpa [Nat.add_assoc] using h3⟩
theorem TM.c4 {b off : Nat} {k : Nat} (h : TM w (some ⟨b, off, none⟩) l) (hk : k < l.length) :
    w.cell? ⟨b, off + k * 4, none⟩ = some (.int .i64 (mn l k).ad) ∧ w.cell? ⟨b, off + k * 4 + 1, none⟩ = some (.int .i64 (mn l k).ep) ∧ w.cell? ⟨b, off + k * 4 + 2, none⟩ = some (.int .i64 (mn l k).po) ∧ w.cell? ⟨b, off + k * 4 + 3, none⟩ = some (.int .i64 (mn l k).la) := by
  obtain ⟨b', off', e, _, h⟩ := h.get hk
  cases e
  exact h
end
end Go.Proofs.YtjflfhjnbccpmaaGreatDoor
namespace Go.Proofs.YtjflfhjnbccpmaaGreatDoor
open Go.RowKit
def eqE (a b c d : Int) : Bool := a == c && b == d
theorem eqE_true {a b c d : Int} (h : a = c ∧ b = d) : eqE a b c d = true := by unfold eqE; simp [h.1, h.2]
theorem eqE_false {a b c d : Int} (h : ¬ (a = c ∧ b = d)) : eqE a b c d = false := by
  unfold eqE; rw [Bool.and_eq_false_iff]; simp only [beq_eq_false_iff_ne]; omega
theorem equalIn_end (W : World) (a b c d : Int) : (Op.equalIn 10000 70 (.agg #[.int .i64 a, .int .i64 b]) (.agg #[.int .i64 c, .int .i64 d])).run Tryz.prog W = .ok (eqE a b c d) W := by
  have hp : Tryz.prog.stoodInHeld 70 = false := by kernel_rfl
  have hf : Tryz.prog.underlying 70 = some (.struct (Tryz.prog.fieldsOf 70)) := by kernel_rfl
  have hi := fun d (W : World) (a b : Int) => run_equalIn_int (P := Tryz.prog) W d 3 .i64 .i64 a b Tryz.underlying3
  rw [show (10000 : Nat) = 9998 + 1 + 1 from rfl, run_equalIn_agg W _ _ _ _ hf hp]
  unfold Program.fieldsOf
  rw [Tryz.underlying70]
  unfold eqE
  cases h1 : a == c
  · simp [Op.eqFields, hi, go_sem, h1]
  · simp [Op.eqFields, hi, go_sem, h1]
    by_cases h2 : b = d <;> simp [h2]
theorem eql_end (W : World) (a b c d : Int) : (binOp .eql 70 (.agg #[.int .i64 a, .int .i64 b]) (.agg #[.int .i64 c, .int .i64 d])).run Tryz.prog W = .ok (.bool (eqE a b c d)) W := by
  rw [run_eql_struct, equalIn_end]; rfl
theorem guard_end (W : World) (op : BinOp) (x y : Operand) (xs ys : Array Value) : (eqGuard op 70 x y (.agg xs) (.agg ys)).run Tryz.prog W = .ok () W := run_eqGuard_agg W op _ x y xs ys (by kernel_rfl)
end Go.Proofs.YtjflfhjnbccpmaaGreatDoor
namespace Go.Proofs.YtjflfhjnbccpmaaGreatDoor
open Go.RowKit
theorem ofInt_i64 (a : Nat) (ha : a < 9223372036854775808) : (BitVec.ofInt 64 (a : Int)).toNat = a := by
  rw [BitVec.ofInt_natCast, BitVec.toNat_ofNat]; exact Nat.mod_eq_of_lt (by omega)
theorem i64_xor_nat (a b : Nat) (ha : a < 9223372036854775808) (hb : b < 9223372036854775808) : bits .xor .i64 (a : Int) (b : Int) = ((a ^^^ b : Nat) : Int) := by
  have hx : a ^^^ b < 2 ^ 63 := Nat.xor_lt_two_pow (by omega) (by omega)
  show IntKind.i64.wrap ((BitVec.ofInt 64 (a : Int) ^^^ BitVec.ofInt 64 (b : Int)).toNat : Int) = _
  rw [BitVec.toNat_xor, ofInt_i64 a ha, ofInt_i64 b hb, IntKind.wrap_i64]
  omega
theorem xor_rem {a b n : Int} (h1 : 0 ≤ a) (h2 : a ≤ 4611686018427387904) (h3 : 0 ≤ b) (h4 : b ≤ 4611686018427387904) (hn : 1 ≤ n) :
    0 ≤ (bits .xor .i64 a b).tmod n ∧ (bits .xor .i64 a b).tmod n < n := by
  obtain ⟨x, rfl⟩ := Int.eq_ofNat_of_zero_le h1
  obtain ⟨y, rfl⟩ := Int.eq_ofNat_of_zero_le h3
  rw [i64_xor_nat x y (by omega) (by omega), Int.tmod_eq_emod_of_nonneg (by omega)]
  exact ⟨Int.emod_nonneg _ (by omega), Int.emod_lt_of_pos _ (by omega)⟩
/-- Block g is a reader: bytes somewhere else, and the number p of picks so far. -/
def Rdr (w : World) (g p : Nat) : Prop :=
  ∃ A n c, Blk w g 58 #[.slice A n c, .int .i64 (p : Int)] ∧ n ≤ 2000 ∧
    ∀ k, k < n → ∃ b off x, A = some ⟨b, off, none⟩ ∧ b < g ∧ w.cell? ⟨b, off + k, none⟩ = some (.int .u8 x) ∧ 0 ≤ x ∧ x ≤ 255
theorem cell_far {w : World} {g k b o : Nat} {v : Value} (h : b ≠ g) : (w.setCell ⟨g, k, none⟩ v).cell? ⟨b, o, none⟩ = w.cell? ⟨b, o, none⟩ :=
  World.cell?_setCell_other w ⟨g, k, none⟩ ⟨b, o, none⟩ v (fun e => h (by injection e with e1; exact e1.symm))
theorem Rdr.put {w : World} {g p : Nat} (hr : Rdr w g p) (x : Int) (hx : x = ((p + 1 : Nat) : Int)) : Rdr (w.setCell ⟨g, 1, none⟩ (.int .i64 x)) g (p + 1) := by
  obtain ⟨A, n, c, hb, hn, h⟩ := hr
  subst hx
  refine ⟨A, n, c, by simpa using hb.set_ 1 (.int .i64 ((p + 1 : Nat) : Int)), hn, fun k hk => ?_⟩
  obtain ⟨b, off, x, rfl, hlt, hc, hx⟩ := h k hk
  exact ⟨b, off, x, rfl, hlt, (cell_far (by omega)).trans hc, hx⟩
theorem grown_put {w : World} (g k : Nat) (v : Value) : w.grownBy (w.setCell ⟨g, k, none⟩ v) (some g) :=
  ⟨rfl, rfl, rfl, by simp [World.setCell], fun i _ hne => Below.heap_setCell w ⟨g, k, none⟩ v i (fun e => hne (by rw [e]))⟩
theorem grown_drewN {a w : World} {row : Option Nat} (h : a.grownBy w row) (n : Nat) : a.grownBy (w.drewN n) row := ⟨h.os, h.tape, h.output, h.size, h.block⟩
theorem Rdr.drewN {w : World} {g p : Nat} (h : Rdr w g p) (n : Nat) : Rdr (w.drewN n) g p := h
set_option maxHeartbeats 1000000 in
theorem c_pick (g p : Nat) (n : Int) (w : World) (hr : Rdr w g p) (hp : p ≤ 1099511627776) :
    Calls Tryz.prog 17 #[.pointer (some ⟨g, 0, none⟩), .int .i64 n] w fun e w' => ∃ x : Int, e = .returned (.int .i64 x) ∧ 0 ≤ x ∧ (1 ≤ n → x < n) ∧ (n < 1 → x = 0) ∧ Rdr w' g (p + 1) ∧ w.grownBy w' (some g) := by
  obtain ⟨A, m, c, hb, hm, hx⟩ := id hr
  have hc0 : w.cell? ⟨g, 0, none⟩ = some (.slice A m c) := hb.cell 0
  have hc1 : w.cell? ⟨g, 1, none⟩ = some (.int .i64 (p : Int)) := hb.cell 1
  have hf0 := hb.frozen 0
  have hf1 := hb.frozen 1
  have hgs := hb.lt
  clear hb
  by_cases hn : n < 1
  · go_enter Tryz.func17, Tryz.ntmps17
    go_wp2
    go_ret
    exact ⟨0, rfl, by omega, by omega, fun _ => rfl, hr.put _ (by omega), grown_put _ _ _⟩
  · by_cases h0 : m = 0
    · subst h0
      go_enter Tryz.func17, Tryz.ntmps17
      go_wp2
      go_ret
      exact ⟨0, rfl, by omega, by omega, fun _ => rfl, hr.put _ (by omega), grown_put _ _ _⟩
    · have hm0 : ((m : Int) == 0) = false := by simp; omega
      by_cases hlt : p < m
      · obtain ⟨b, off, x, rfl, hbg, hc, hx0, hx1⟩ := hx p hlt
        have hne : b ≠ g := by omega
        have hbl : b < w.heap.size := by omega
        have hcell : (w.setCell ⟨g, 1, none⟩ (.int .i64 ((p : Int) + 1))).cell? ⟨b, off + p, none⟩ = some (.int .u8 x) := (cell_far hne).trans hc
        go_enter Tryz.func17, Tryz.ntmps17
        go_wp2
        go_ret
        have hd := Int.emod_lt_of_pos x (b := n) (by omega)
        have hd0 := Int.emod_nonneg x (b := n) (by omega)
        exact ⟨x % n, rfl, hd0, hd, fun h => absurd h (by omega), hr.put _ (by omega), grown_put _ _ _⟩
      · obtain ⟨b1, off1, x1, hA1, hbg1, hc1', hx10, hx11⟩ := hx (p % m) (Nat.mod_lt _ (by omega))
        have hne1 : b1 ≠ g := by omega
        have hbl1 : b1 < w.heap.size := by omega
        obtain ⟨b2, off2, x2, hA2, hbg2, hc2', hx20, hx21⟩ := hx ((p * 7 + 3) % m) (Nat.mod_lt _ (by omega))
        subst hA1
        obtain ⟨rfl, rfl⟩ : b1 = b2 ∧ off1 = off2 := by injection hA2 with e; injection e with e1 e2; exact ⟨e1, e2⟩
        have hcell1 : (w.setCell ⟨g, 1, none⟩ (.int .i64 ((p : Int) + 1))).cell? ⟨b1, off1 + p % m, none⟩ = some (.int .u8 x1) := (cell_far hne1).trans hc1'
        have hcell2 : (w.setCell ⟨g, 1, none⟩ (.int .i64 ((p : Int) + 1))).cell? ⟨b1, off1 + (p * 7 + 3) % m, none⟩ = some (.int .u8 x2) := (cell_far hne1).trans hc2'
        clear hA2 hx hc1' hc2'
        have m1 : 0 ≤ (p : Int) % (m : Int) := Int.emod_nonneg _ (by omega)
        have m2 : (p : Int) % (m : Int) < m := Int.emod_lt_of_pos _ (by omega)
        have m3 : ((p : Int) % (m : Int)).toNat = p % m := by omega
        have n1 : 0 ≤ ((p : Int) * 7 + 3) % (m : Int) := Int.emod_nonneg _ (by omega)
        have n2 : ((p : Int) * 7 + 3) % (m : Int) < m := Int.emod_lt_of_pos _ (by omega)
        have n3 : (((p : Int) * 7 + 3) % (m : Int)).toNat = (p * 7 + 3) % m := by
          rw [show ((p : Int) * 7 + 3) = ((p * 7 + 3 : Nat) : Int) from by omega, ← Int.natCast_emod, Int.toNat_natCast]
        have q1 : 0 ≤ (p : Int) / (m : Int) := Int.ediv_nonneg (by omega) (by omega)
        have q2 : (p : Int) / (m : Int) ≤ p := Int.ediv_le_self _ (by omega)
        go_enter Tryz.func17, Tryz.ntmps17
        go_wp2
        go_quiet (fail)
        go_wp2
        go_ret
        have hd := xor_rem (a := x1 * 131 + x2 * 1117 + ↑p * 29 + ↑p / ↑m * 53) (b := (x1 * 131 + x2 * 1117 + ↑p * 29 + ↑p / ↑m * 53) / 64) (n := n) (by omega) (by omega) (by omega) (by omega) hn
        exact ⟨_, rfl, hd.1, fun _ => hd.2, fun h => absurd h (by omega), (hr.put _ (by omega)).drewN _, grown_drewN (grown_put _ _ _) _⟩
end Go.Proofs.YtjflfhjnbccpmaaGreatDoor
namespace Go.Proofs.YtjflfhjnbccpmaaGreatDoor
open Go.RowKit
/-- The function value g with what it captured gives p at every mapping, in every world in which all that lay in w0 lies unturned. -/
def PredM (g : Nat) (lb : Array Value) (p : Mpg → Bool) (w0 : World) : Prop :=
  ∀ (W : World) (x : Mpg), Below w0.heap.size w0 W → Calls Tryz.prog g (#[.agg #[.int .i64 x.ad, .int .i64 x.ep, .int .i64 x.po, .int .i64 x.la]] ++ lb) W fun e w' => e = .returned (.bool (p x)) ∧ Below W.heap.size W w'
theorem c_IndexM (g : Nat) (lb : Array Value) (p : Mpg → Bool) (w0 : World) (eg : ∀ args w, (callFunc g args).run Tryz.prog w = .ok (.enter g args) w) (A : Option Addr) (n c : Nat) (l : List Mpg) (w : World)
    (hP : PredM g lb p w0) (hw : Below w0.heap.size w0 w) (hn : l.length = n) (h : TM w A l) (hl : n ≤ 1099511627776) :
    Calls Tryz.prog 127 #[.slice A n c, .func (.func g) #[] lb] w fun e w' => e = .returned (.int .i64 (idx (fun k => p (mn l k)) n)) ∧ Below w.heap.size w w' := by
  have HN := Lib.hid hn
  have HC : Hid (∀ W x, Below w.heap.size w W → Calls Tryz.prog g (#[.agg #[.int .i64 x.ad, .int .i64 x.ep, .int .i64 x.po, .int .i64 x.la]] ++ lb) W fun e w' => e = .returned (.bool (p x)) ∧ Below W.heap.size W w') := fun W x hW => hP W x (Bl.then hw hW)
  clear hn hP hw
  go_enter Tryz.func127, Tryz.ntmps127
  go_wp2
  go_loopw [8] (fun i wr => ∃ k : Nat, k ≤ n ∧ i = .int .i64 k ∧ Hid (∀ j, j < k → p (mn l j) = false) ∧ Hid (Below w.heap.size w wr)) (fun i _ => n - (intOf i).toNat)
  case atStart => exact ⟨0, Nat.zero_le _, rfl, fun j hj => absurd hj (by omega), Below.refl _ _⟩
  case round =>
    obtain ⟨k, hk, rfl, hF, hB⟩ := hrel
    by_cases hlt : k < n
    · obtain ⟨b, off, rfl, hb, c0, c1, c2, c3⟩ := (h.to hB.out).get (k := k) (by rw [HN.out]; exact hlt)
      have hcall := HC.out wr (mn l k) hB.out
      generalize hx : mn l k = x at c0 c1 c2 c3 hcall
      have HX := Lib.hid hx
      clear hx
      cases hp : p x
      · rw [hp] at hcall
        go_wp2_with (go_at_fn g; refine hcall.mono ?_; rintro e w' ⟨rfl, hq⟩)
        go_roundw
        case rel => exact ⟨k + 1, by omega, by go_num, upTo_succ hF.out (by rw [HX.out]; exact hp), Bl.then hB.out hq⟩
        case measure => simp [intOf]; omega
      · rw [hp] at hcall
        go_wp2_with (go_at_fn g; refine hcall.mono ?_; rintro e w' ⟨rfl, hq⟩)
        go_ret
        exact ⟨ret_int (by rw [idx_some hlt (by rw [HX.out]; exact hp) hF.out]), Bl.then hB.out hq⟩
    · go_wp2
      go_ret
      exact ⟨ret_int (by rw [idx_none (fun j hj => hF.out j (by omega))]), hB.out⟩
theorem p_byPort (b : Nat) (p : Int) (w0 : World) (hc : w0.cell? ⟨b, 0, none⟩ = some (.int .i64 p)) (hb : b < w0.heap.size) : PredM 129 #[.pointer (some ⟨b, 0, none⟩)] (fun m => isP m p) w0 := by
  intro W x hW
  have hs := hW.size
  have hbW : b < W.heap.size := by omega
  have hcW : W.cell? ⟨b, 0, none⟩ = some (.int .i64 p) := (hW.cell (p := ⟨b, 0, none⟩) hb).trans hc
  clear hW hc
  go_enter Tryz.func129, Tryz.ntmps129
  go_wp2
  go_ret
  exact ⟨ret_bool (by unfold isP; rfl), (Below.refl _ _).alloc (Nat.le_refl _) _⟩
theorem p_byEnd (b : Nat) (x y : Int) (w0 : World) (hx : w0.cell? ⟨b, 0, none⟩ = some (.int .i64 x)) (hy : w0.cell? ⟨b, 1, none⟩ = some (.int .i64 y)) (hb : b < w0.heap.size) : PredM 128 #[.pointer (some ⟨b, 0, none⟩)] (fun m => isE m x y) w0 := by
  intro W m hW
  have hs := hW.size
  have hbW : b < W.heap.size := by omega
  have hcx : W.cell? ⟨b, 0, none⟩ = some (.int .i64 x) := (hW.cell (p := ⟨b, 0, none⟩) hb).trans hx
  have hcy : W.cell? ⟨b, 1, none⟩ = some (.int .i64 y) := (hW.cell (p := ⟨b, 1, none⟩) hb).trans hy
  clear hW hx hy
  have heql := eql_end
  have hgd := guard_end
  go_enter Tryz.func128, Tryz.ntmps128
  go_wp2
  go_ret
  exact ⟨ret_bool (by unfold isE eqE; rfl), (Below.refl _ _).alloc (Nat.le_refl _) _⟩
theorem c_byPort (A : Option Addr) (n c : Nat) (l : List Mpg) (p : Int) (w : World) (hn : l.length = n) (h : TM w A l) (hl : n ≤ 1099511627776) :
    Calls Tryz.prog 77 #[.slice A n c, .int .i64 p] w fun e w' => e = .returned (.int .i64 (byP l p n)) ∧ Below w.heap.size w w' := by
  have k0 := Blk.new w 3 #[.int .i64 p]
  have hp := p_byPort w.heap.size p _ (k0.cell 0) k0.lt
  have HN := Lib.hid hn
  have HP := Lib.hid hp
  clear hn hp k0
  go_enter Tryz.func77, Tryz.ntmps77
  go_wp2_with fail
  refine (c_IndexM 129 #[.pointer (some ⟨w.heap.size, 0, none⟩)] (fun m => isP m p) _ (enters_of Tryz.func129 (by kernel_rfl) rfl) A n c l _ HP.out (Below.refl _ _) HN.out (h.alloc _) hl).mono ?_
  rintro e w' ⟨rfl, b⟩
  go_wp2
  go_ret
  exact ⟨ret_int (by rfl), Bl.then ((Below.refl _ _).alloc (Nat.le_refl _) _) b⟩
theorem c_byEnd (A : Option Addr) (n c : Nat) (l : List Mpg) (x y : Int) (w : World) (hn : l.length = n) (h : TM w A l) (hl : n ≤ 1099511627776) :
    Calls Tryz.prog 76 #[.slice A n c, .agg #[.int .i64 x, .int .i64 y]] w fun e w' => e = .returned (.int .i64 (byE l x y n)) ∧ Below w.heap.size w w' := by
  have k0 := Blk.new w 70 #[.int .i64 x, .int .i64 y]
  have hp := p_byEnd w.heap.size x y _ (k0.cell 0) (k0.cell 1) k0.lt
  have HN := Lib.hid hn
  have HP := Lib.hid hp
  clear hn hp k0
  go_enter Tryz.func76, Tryz.ntmps76
  go_wp2_with fail
  refine (c_IndexM 128 #[.pointer (some ⟨w.heap.size, 0, none⟩)] (fun m => isE m x y) _ (enters_of Tryz.func128 (by kernel_rfl) rfl) A n c l _ HP.out (Below.refl _ _) HN.out (h.alloc _) hl).mono ?_
  rintro e w' ⟨rfl, b⟩
  go_wp2
  go_ret
  exact ⟨ret_int (by rfl), Bl.then ((Below.refl _ _).alloc (Nat.le_refl _) _) b⟩
theorem c_sByPort (A : Option Addr) (n c : Nat) (l : List Mpg) (p : Int) (w : World) (hn : l.length = n) (h : TM w A l) (hl : n ≤ 1099511627776) :
    Calls Tryz.prog 144 #[.slice A n c, .int .i64 p] w fun e w' => e = .returned (.int .i64 (byP l p n)) ∧ w = w' := by
  have HN := Lib.hid hn
  clear hn
  go_enter Tryz.func144, Tryz.ntmps144
  go_wp2
  go_loop [5] (fun i => ∃ k : Nat, k ≤ n ∧ i = .int .i64 k ∧ Hid (∀ j, j < k → isP (mn l j) p = false)) (fun i => n - (intOf i).toNat)
  case atStart => exact ⟨0, Nat.zero_le _, rfl, fun j hj => absurd hj (by omega)⟩
  case round =>
    obtain ⟨k, hk, rfl, hF⟩ := hrel
    by_cases hlt : k < n
    · obtain ⟨b, off, rfl, hb, -, -, c2, -⟩ := h.get (k := k) (by rw [HN.out]; exact hlt)
      cases hp : isP (mn l k) p
      · have t1 : ((mn l k).po == p) = false := by rw [beq_eq_false_iff_ne]; intro e; rw [isP_iff.2 e] at hp; cases hp
        go_wp2
        go_round
        case rel => exact ⟨k + 1, by omega, by go_num, upTo_succ hF.out hp⟩
        case measure => simp [intOf]; omega
      · have t1 : ((mn l k).po == p) = true := by rw [beq_iff_eq]; exact isP_iff.1 hp
        go_wp2
        go_ret
        exact ⟨ret_int (by unfold byP; rw [idx_some hlt hp hF.out]), rfl⟩
    · go_wp2
      go_ret
      exact ⟨ret_int (by unfold byP; rw [idx_none (fun j hj => hF.out j (by omega))]), rfl⟩
theorem c_byInside (A : Option Addr) (n c : Nat) (l : List Mpg) (x y : Int) (w : World) (hn : l.length = n) (h : TM w A l) (hl : n ≤ 1099511627776) :
    Calls Tryz.prog 176 #[.slice A n c, .agg #[.int .i64 x, .int .i64 y]] w fun e w' => e = .returned (.int .i64 (byE l x y n)) ∧ Below w.heap.size w w' := by
  have HN := Lib.hid hn
  clear hn
  have heql := eql_end
  have hgd := guard_end
  go_enter Tryz.func176, Tryz.ntmps176
  go_wp2
  go_loopw [5] (fun i wr => ∃ k q : Nat, k ≤ n ∧ i = .int .i64 k ∧ Hid (∀ j, j < k → isE (mn l j) x y = false) ∧ wr = (w.alloc (.cells #[.int .i64 x, .int .i64 y] 70)).drewN q) (fun i _ => n - (intOf i).toNat)
  case atStart => exact ⟨0, 0, Nat.zero_le _, rfl, fun j hj => absurd hj (by omega), rfl⟩
  case round =>
    obtain ⟨k, q, hk, rfl, hF, rfl⟩ := hrel
    by_cases hlt : k < n
    · obtain ⟨b, off, rfl, hb, c0, c1, -, -⟩ := h.get (k := k) (by rw [HN.out]; exact hlt)
      have e2 : 0 ≤ (k : Int) ∧ (k : Int) < n := by omega
      cases hp : isE (mn l k) x y
      · have t1 : eqE (mn l k).ad (mn l k).ep x y = false := eqE_false (fun e => by rw [isE_iff.2 e] at hp; cases hp)
        have HP := Lib.hid hp
        clear hp
        go_wp2
        go_quiet (fail)
        go_wp2
        go_roundw
        case rel => exact ⟨k + 1, _, by omega, by go_num, upTo_succ hF.out HP.out, rfl⟩
        case measure => simp [intOf]; omega
      · have t1 : eqE (mn l k).ad (mn l k).ep x y = true := eqE_true (isE_iff.1 hp)
        have HP := Lib.hid hp
        clear hp
        go_wp2
        go_quiet (fail)
        go_wp2
        go_ret
        exact ⟨ret_int (by unfold byE; rw [idx_some hlt HP.out hF.out]), Bl.drewN (Bl.drewN ((Below.refl _ _).alloc (Nat.le_refl _) _) _) _⟩
    · go_wp2
      go_ret
      exact ⟨ret_int (by unfold byE; rw [idx_none (fun j hj => hF.out j (by omega))]), Bl.drewN ((Below.refl _ _).alloc (Nat.le_refl _) _) _⟩
end Go.Proofs.YtjflfhjnbccpmaaGreatDoor
namespace Go.Proofs.YtjflfhjnbccpmaaGreatDoor
open Go.RowKit
/-- The cells of a record. -/
def recC (r : Rec) : List Value := [.int .i64 r.at_, .int .i64 r.po, .int .i64 r.ad, .int .i64 r.ep, .bool r.ov]
def recCs (l : List Rec) : List Value := l.flatMap recC
/-- The cells behind A begin with the records l. -/
def RR (w : World) (A : Option Addr) (l : List Rec) : Prop := Rd w A (recCs l)
theorem recC_len (r : Rec) : (recC r).length = 5 := rfl
theorem recCs_len (l : List Rec) : (recCs l).length = l.length * 5 := by
  induction l with
  | nil => rfl
  | cons r l ih => unfold recCs at ih ⊢; rw [List.flatMap_cons, List.length_append, ih, recC_len, List.length_cons]; omega
theorem recCs_app (l m : List Rec) : recCs (l ++ m) = recCs l ++ recCs m := by unfold recCs; rw [List.flatMap_append]
theorem recCs_at {l : List Rec} : ∀ {k j : Nat}, k < l.length → j < 5 → (recCs l)[k * 5 + j]? = (recC (rn l k))[j]? := by
  induction l with
  | nil => intro k j hk; cases hk
  | cons r l ih =>
    intro k j hk hj
    unfold recCs
    rw [List.flatMap_cons]
    cases k with
    | zero => rw [Nat.zero_mul, Nat.zero_add, List.getElem?_append_left (by rw [recC_len]; exact hj)]; rfl
    | succ k =>
      rw [List.getElem?_append_right (by rw [recC_len]; omega), recC_len, show (k + 1) * 5 + j - 5 = k * 5 + j by omega]
      have := ih (k := k) (j := j) (by simpa using hk) hj
      unfold recCs at this
      rw [this]
      simp [rn]
section
variable {w w' : World} {A : Option Addr} {l : List Rec}
theorem RR.nil (w : World) (A : Option Addr) : RR w A [] := Rd.nil w A
theorem RR.to (h : RR w A l) (hb : Below w.heap.size w w') : RR w' A l := Rd.to h hb
theorem RR.alloc (h : RR w A l) (o : Obj) : RR (w.alloc o) A l := Rd.alloc h o
theorem RR.drewN (h : RR w A l) (n : Nat) : RR (w.drewN n) A l := h
theorem RR.take (h : RR w A l) (k : Nat) : RR w A (l.take k) := fun i v hi => h i v (by
  have hle : l.take k ++ l.drop k = l := List.take_append_drop k l
  rw [← hle, recCs_app]
  rw [List.getElem?_append_left]
  · exact hi
  · rcases Nat.lt_or_ge i (recCs (l.take k)).length with h1 | h1
    · exact h1
    · rw [List.getElem?_eq_none h1] at hi; cases hi)
/-- The cells of the k-th record. -/
theorem RR.get (h : RR w A l) {k : Nat} (hk : k < l.length) :
    ∃ b off, A = some ⟨b, off, none⟩ ∧ b < w.heap.size ∧ w.cell? ⟨b, off + k * 5, none⟩ = some (.int .i64 (rn l k).at_) ∧ w.cell? ⟨b, off + k * 5 + 1, none⟩ = some (.int .i64 (rn l k).po) ∧
      w.cell? ⟨b, off + k * 5 + 2, none⟩ = some (.int .i64 (rn l k).ad) ∧ w.cell? ⟨b, off + k * 5 + 3, none⟩ = some (.int .i64 (rn l k).ep) ∧ w.cell? ⟨b, off + k * 5 + 4, none⟩ = some (.bool (rn l k).ov) := by
  have hc : ∀ j v, j < 5 → (recC (rn l k))[j]? = some v → ∃ b off, A = some ⟨b, off, none⟩ ∧ b < w.heap.size ∧ w.cell? ⟨b, off + (k * 5 + j), none⟩ = some v := fun j v hj hv => h _ v ((recCs_at hk hj).trans hv)
  obtain ⟨b, off, rfl, hb, h0⟩ := hc 0 _ (by omega) rfl
  obtain ⟨_, _, e1, _, h1⟩ := hc 1 _ (by omega) rfl
  obtain ⟨_, _, e2, _, h2⟩ := hc 2 _ (by omega) rfl
  obtain ⟨_, _, e3, _, h3⟩ := hc 3 _ (by omega) rfl
  obtain ⟨_, _, e4, _, h4⟩ := hc 4 _ (by omega) rfl
  cases e1; cases e2; cases e3; cases e4
  exact ⟨b, off, rfl, hb, by simpa using h0, by simpa [Nat.add_assoc] using h1, by simpa [Nat.add_assoc] using h2, by simpa [Nat.add_assoc] using h3, by simpa [Nat.add_assoc] using h4⟩
end
end Go.Proofs.YtjflfhjnbccpmaaGreatDoor
namespace Go.Proofs.YtjflfhjnbccpmaaGreatDoor
open Go.RowKit
theorem Rd.news {w : World} {ad : Addr} {vs : List Value} (h : Rd w (some ad) vs) : ∀ j u, vs[j]? = some u → w.cell? (ad.add j) = some u := by
  intro j u hj
  obtain ⟨b, off, e, _, hc⟩ := h j u hj
  injection e with e
  subst e
  unfold Addr.add
  split
  · rename_i h0; subst h0; simpa using hc
  · simpa using hc
section
variable {P : Program} (w : World)
theorem run_append_of_nil (base : Nat) (t ty e : TypeId) (i : TypeInfo) (size : Nat) (ht : P.underlying t = some (.slice e)) (hi : P.info? e = some i)
    (v : Value) (n : Nat) (xs : List Value) (hown : w.ownsRow base e size v n xs) (c : Nat) : (Builtin.append_ #[t, t] ty #[v, .slice none 0 c]).run P w = .ok v w := by
  rcases hown.2 with ⟨rfl, rfl⟩ | ⟨g, cap, cur, rfl, _, _, hnc, _⟩
  · simp [Builtin.append_, run_underlying ht, sizeOf, typeInfo, hi, Builtin.lenOf, Builtin.firstCells]
  · simp [Builtin.append_, run_underlying ht, sizeOf, typeInfo, hi, Builtin.lenOf, Builtin.firstCells, hnc, storeCells]
theorem run_append_rd (base : Nat) (t ty e : TypeId) (i : TypeInfo) (z : Value) (size bytes : Nat) (ht : P.underlying t = some (.slice e)) (hi : P.info? e = some i) (hz : i.zero = some z)
    (hsize : i.size = size) (hby : i.bytes = bytes) (hzs : z.cells.size = size) (hsz : 0 < size)
    (v : Value) (n : Nat) (xs : List Value) (hown : w.ownsRow base e size v n xs)
    (A : Option Addr) (m c : Nat) (news : List Value) (hr : Rd w A news) (hl : news.length = m * size) (h1 : ∀ u ∈ news, u.oneCell' = true)
    (h63 : n + m ≤ maxLen) (hbytes : (n + m) * bytes ≤ 140737488355328) (hbase : base ≤ w.heap.size) :
    ∃ v' w', (Builtin.append_ #[t, t] ty #[v, .slice A m c]).run P w = .ok v' w' ∧ w'.ownsRow base e size v' (n + m) (xs ++ news) ∧ w.grownBy w' v.ownBlock ∧
      (v'.ownBlock = v.ownBlock ∨ v'.ownBlock = some w.heap.size) := by
  rcases A with _ | ad
  · have hn : news = [] := by
      match news, hr with
      | [], _ => rfl
      | x :: _, hr => obtain ⟨b, off, e, _⟩ := hr 0 x rfl; cases e
    subst hn
    have hm : m = 0 := by
      rcases Nat.eq_zero_or_pos m with h0 | h0
      · exact h0
      · have := Nat.mul_pos h0 hsz; simp at hl; omega
    subst hm
    exact ⟨v, w, run_append_of_nil w base t ty e i size ht hi v n xs hown c, by simpa using hown, World.grownBy.refl w _, .inl rfl⟩
  · obtain ⟨v', w', hrun, h2, h3, _, h5⟩ := run_append_own_at (P := P) w base t ty e i z size bytes ht hi hz hsize hby hzs hsz v n xs hown ad m c news hl hr.news h1 h63 hbytes hbase
    exact ⟨v', w', hrun, h2, h3, h5⟩
theorem wp_append_rd {o : Oper} {a : Act} {K : Act → World → Prop} {Q : Exit → Act → World → Prop} (s x : Operand) (t : TypeId)
    (ho : o.op = .call { callee := .builtin .append, args := #[s, x], argTypes := #[t, t] })
    (base : Nat) (e : TypeId) (i : TypeInfo) (z : Value) (size bytes : Nat) (ht : P.underlying t = some (.slice e)) (hi : P.info? e = some i) (hz : i.zero = some z)
    (hsize : i.size = size) (hby : i.bytes = bytes) (hzs : z.cells.size = size) (hsz : 0 < size)
    (v : Value) (n : Nat) (xs : List Value) (hs : a.eval s = v) (hown : w.ownsRow base e size v n xs)
    (A : Option Addr) (m c : Nat) (news : List Value) (hx : a.eval x = .slice A m c) (hr : Rd w A news) (hl : news.length = m * size) (h1 : ∀ u ∈ news, u.oneCell' = true)
    (h63 : n + m ≤ maxLen) (hbytes : (n + m) * bytes ≤ 140737488355328) (hbase : base ≤ w.heap.size)
    (h : ∀ v' w', w'.ownsRow base e size v' (n + m) (xs ++ news) → w.grownBy w' v.ownBlock → (v'.ownBlock = v.ownBlock ∨ v'.ownBlock = some w.heap.size) → K (a.put o.dst v') w') : o.wp P a w K Q := by
  obtain ⟨v', w', hrun, h2, h3, h4⟩ := run_append_rd (P := P) w base t o.type e i z size bytes ht hi hz hsize hby hzs hsz v n xs hown A m c news hr hl h1 h63 hbytes hbase
  unfold Oper.wp execOp
  simp only [ho, resolve, invoke, builtin, Sem.run_bind, Sem.run_pure, Result.andThen_ok, List.map_toArray, List.map_cons, List.map_nil, hs, hx, hrun]
  exact h v' w' h2 h3 h4
theorem wpList_append_rd {ops : Array Oper} {rest : List Oper} {o : Oper} {a : Act} {Q : Exit → Act → World → Prop} (hgd : o.guard = none) (s x : Operand) (t : TypeId)
    (ho : o.op = .call { callee := .builtin .append, args := #[s, x], argTypes := #[t, t] })
    (base : Nat) (e : TypeId) (i : TypeInfo) (z : Value) (size bytes : Nat) (ht : P.underlying t = some (.slice e)) (hi : P.info? e = some i) (hz : i.zero = some z)
    (hsize : i.size = size) (hby : i.bytes = bytes) (hzs : z.cells.size = size) (hsz : 0 < size)
    (v : Value) (n : Nat) (xs : List Value) (hs : a.eval s = v) (hown : w.ownsRow base e size v n xs)
    (A : Option Addr) (m c : Nat) (news : List Value) (hx : a.eval x = .slice A m c) (hr : Rd w A news) (hl : news.length = m * size) (h1 : ∀ u ∈ news, u.oneCell' = true)
    (h63 : n + m ≤ maxLen) (hbytes : (n + m) * bytes ≤ 140737488355328) (hbase : base ≤ w.heap.size)
    (h : ∀ v' w', w'.ownsRow base e size v' (n + m) (xs ++ news) → w.grownBy w' v.ownBlock → (v'.ownBlock = v.ownBlock ∨ v'.ownBlock = some w.heap.size) → wpList P ops Q rest (a.put o.dst v') w') : wpList P ops Q (o :: rest) a w :=
  wpList_plain hgd fun _ hK => wp_append_rd w s x t ho base e i z size bytes ht hi hz hsize hby hzs hsz v n xs hs hown A m c news hx hr hl h1 h63 hbytes hbase fun v' w' h2 h3 h4 => hK _ _ (h v' w' h2 h3 h4)
end
theorem own_empty {w : World} {base t n : Nat} (hb : base ≤ w.heap.size) (hn : n = w.heap.size) : (w.alloc (.cells #[] t)).ownsRow base t 1 (.slice (some ⟨n, 0, none⟩) 0 0) 0 [] := by
  subst hn
  exact World.ownsRow_made w #[] 0 hb (by unfold maxLen; omega) (by simp)
/-- The value of an owned row as a slice. -/
theorem own_slice {w : World} {base e size n : Nat} {v : Value} {xs : List Value} (h : w.ownsRow base e size v n xs) : ∃ A c, v = .slice A n c ∧ n ≤ c ∧ c ≤ maxLen ∧ ∀ a, A = some a → base ≤ a.block ∧ a.block < w.heap.size := by
  rcases h.2 with ⟨rfl, rfl⟩ | ⟨g, cap, cur, rfl, hb, hh, hnc, hcm, _⟩
  · exact ⟨none, 0, rfl, Nat.le_refl _, by unfold maxLen; omega, fun a h => by cases h⟩
  · refine ⟨_, cap, rfl, hnc, hcm, fun a h => ?_⟩
    injection h with h
    subst h
    refine ⟨hb, ?_⟩
    rcases Nat.lt_or_ge g w.heap.size with hlt | hge
    · exact hlt
    · rw [Array.getElem?_eq_none hge] at hh; cases hh
theorem RI.grown {w w' : World} {A : Option Addr} {zs : List Int} {g : Nat} (h : RI w A zs) (hg : w.grownBy w' (some g)) (hne : ∀ a, A = some a → a.block ≠ g) : RI w' A zs := fun k v hk => by
  obtain ⟨b, off, rfl, hlt, hc⟩ := h k v hk
  exact ⟨b, off, rfl, Nat.lt_of_lt_of_le hlt hg.size, (World.cell?_of_block (w := w) (a := ⟨b, off + k, none⟩) (hg.block b hlt (fun e => hne _ rfl (by injection e)))).trans hc⟩
theorem grown_trans {a b c : World} {row : Option Nat} (h : a.grownBy b row) (k : b.grownBy c row) : a.grownBy c row :=
  ⟨k.os.trans h.os, k.tape.trans h.tape, k.output.trans h.output, Nat.le_trans h.size k.size, fun i hi hne => (k.block i (Nat.lt_of_lt_of_le hi h.size) hne).trans (h.block i hi hne)⟩
theorem grown_of_below {a w : World} (h : Below a.heap.size a w) (row : Option Nat) : a.grownBy w row := ⟨h.os, h.tape, h.output, h.size, fun i hi _ => h.block i hi⟩
theorem grown_alloc {a w : World} {row : Option Nat} (h : a.grownBy w row) (o : Obj) : a.grownBy (w.alloc o) row := grown_trans h (World.grownBy_alloc w o row)
theorem below_of_grown {a w : World} {g B : Nat} (h : a.grownBy w (some g)) (h1 : B ≤ a.heap.size) (h2 : B ≤ g) : Below B a w :=
  ⟨h.os, h.tape, h.output, h.size, fun k hk => h.block k (by omega) (fun e => by injection e; omega)⟩
theorem own_kept {w w' : World} {base e size n g : Nat} {v : Value} {xs : List Value} (h : w.ownsRow base e size v n xs) (hg : w.grownBy w' (some g)) (hlt : g < base) : w'.ownsRow base e size v n xs :=
  h.kept hg (.inr (fun e => by have := h.lt g e; omega))
theorem own_to {w w' : World} {base e size n B : Nat} {v : Value} {xs : List Value} (h : w.ownsRow base e size v n xs) (hb : Below B w w') (hB : w.heap.size ≤ B) : w'.ownsRow base e size v n xs :=
  h.kept (row := none) ⟨hb.os, hb.tape, hb.output, hb.size, fun k hk _ => hb.block k (by omega)⟩ (by cases h' : v.ownBlock with
    | none => exact .inl rfl
    | some k => exact .inr (by simp))
theorem own_base {w : World} {base base' e size n : Nat} {v : Value} {xs : List Value} (h : w.ownsRow base e size v n xs) (hb : base' ≤ base) : w.ownsRow base' e size v n xs :=
  ⟨h.1, h.2.imp id (fun ⟨g, cap, cur, hv, hg, r⟩ => ⟨g, cap, cur, hv, Nat.le_trans hb hg, r⟩)⟩
theorem own_len {w : World} {base e n : Nat} {v : Value} {xs : List Value} (h : w.ownsRow base e 1 v n xs) : xs.length = n := by have := h.1; omega
/-- The address A does not lie in block g. -/
def Far (A : Option Addr) (g : Nat) : Prop := ∀ a, A = some a → a.block ≠ g
theorem RI.ofOwn {w : World} {base e n c : Nat} {A : Option Addr} {zs : List Int} (h : w.ownsRow base e 1 (.slice A n c) n (zs.map (Value.int .i64))) : RI w A zs ∧ zs.length = n ∧ n ≤ c := by
  obtain ⟨A', c', e, hc, _, _⟩ := own_slice h
  injection e with e1 e2 e3
  subst e1 e3
  exact ⟨RI.of_own h, by have := own_len h; simpa using this, hc⟩
theorem RI.drop {w : World} {A : Option Addr} {zs : List Int} {k : Nat} (h : RI w A zs) : RI w (Option.map (fun x : Addr => { block := x.block, off := x.off + k }) A) (zs.drop k) := fun j v hj => by
  obtain ⟨b, off, rfl, hlt, hc⟩ := h (k + j) v (by rw [← hj, List.map_drop, List.getElem?_drop])
  exact ⟨b, off + k, rfl, hlt, by rw [Nat.add_assoc]; exact hc⟩
theorem lit_ints {w : World} {t n : Nat} {cs : Array Value} (zs : List Int) (hn : n = w.heap.size) (hc : cs = ints zs) : RI (w.alloc (.cells cs t)) (some ⟨n, 0, none⟩) zs := by
  subst hn; subst hc
  exact RI.of_blk (Blk.new w t _)
theorem one_ints (zs : List Int) : ∀ u ∈ zs.map (Value.int .i64), u.oneCell' = true := ints_oneCell .i64 zs
/-- The slice owns the cells vs in a block from lo on, below hi. -/
def OV (w : World) (lo hi : Nat) (e size : Nat) (A : Option Addr) (n c : Nat) (vs : List Value) : Prop :=
  w.ownsRow lo e size (.slice A n c) n vs ∧ ∀ a, A = some a → a.block < hi
/-- Only blocks from lo on, below hi, and new ones, have turned. -/
structure Turn (lo hi : Nat) (w w' : World) : Prop where
  os : w'.os = w.os
  tape : w'.tape = w.tape
  output : w'.output = w.output
  size : w.heap.size ≤ w'.heap.size
  block : ∀ k, k < w.heap.size → ¬ (lo ≤ k ∧ k < hi) → w'.heap[k]? = w.heap[k]?
section
variable {w w' : World} {lo hi lo' hi' e size n c : Nat} {A : Option Addr} {vs : List Value}
theorem OV.blk {e : TypeId} (h : w.ownsRow lo e size (.slice A n c) n vs) (hh : w.heap.size ≤ hi) : OV w lo hi e size A n c vs :=
  ⟨h, fun a ha => by have := (h.lt a.block (by rw [ha]; rfl)).2; omega⟩
theorem OV.to (h : OV w lo hi e size A n c vs) (hb : Below w.heap.size w w') : OV w' lo hi e size A n c vs := ⟨own_to h.1 hb (Nat.le_refl _), h.2⟩
theorem Turn.below {B : Nat} {a : World} (h : Below B a w) (t : Turn lo hi w w') (hB : B ≤ lo) (hs : B ≤ w.heap.size) : Below B a w' :=
  h.trans ⟨t.os, t.tape, t.output, t.size, fun k hk => t.block k (by omega) (by omega)⟩
end
theorem OV.ri {w : World} {lo hi e n c : Nat} {A : Option Addr} {zs : List Int} (h : OV w lo hi e 1 A n c (zs.map (Value.int .i64))) : RI w A zs ∧ zs.length = n ∧ n ≤ c := RI.ofOwn h.1
theorem RI.empty {w : World} {A : Option Addr} {zs : List Int} (h : zs.length = 0) : RI w A zs := by
  obtain rfl := List.eq_nil_of_length_eq_zero h
  exact RI.nil w A
theorem Turn.set_ {lo hi g j : Nat} {w wr : World} {v : Value} (t : Turn lo hi w wr) (a : lo ≤ g) (b : g < hi) : Turn lo hi w (wr.setCell ⟨g, j, none⟩ v) :=
  ⟨t.os, t.tape, t.output, by simpa [World.setCell] using t.size, fun i hi hne => (Below.heap_setCell wr ⟨g, j, none⟩ _ i (fun e => hne (by rw [e]; exact ⟨a, b⟩))).trans (t.block i hi hne)⟩
end Go.Proofs.YtjflfhjnbccpmaaGreatDoor
namespace Go.Proofs.YtjflfhjnbccpmaaGreatDoor
open Go.RowKit Go.Maps
/-- How an element (an end) reads. -/
def endElem (v : Value) : Option (DataW Unit × List MemPlace) :=
  match v with
  | .agg cs => match cs.toList with
    | [.int .i64 a, .int .i64 b] => some (.agg [.lit (.int .i64 a), .lit (.int .i64 b)], [])
    | _ => none
  | _ => none
theorem law : Keyed Tryz.prog 3 := int_keyed Tryz.underlying3
/-- Block b is a map of at most n entries that holds f, port by port. -/
def OM (w : World) (b n : Nat) (f : Int → Option (Int × Int)) : Prop :=
  ∃ D : DataW Unit, w.ownsMap Tryz.prog 3 endElem b n D ∧ ∀ p, (f p = none ∧ Maps.has D (.int .i64 p) = false) ∨ ∃ x y, f p = some (x, y) ∧ Maps.has D (.int .i64 p) = true ∧ ∀ z, D.atKey (.int .i64 p) z = .agg [.lit (.int .i64 x), .lit (.int .i64 y)]
section
variable {w w' : World} {b n : Nat} {f f' : Int → Option (Int × Int)}
theorem OM.congr (h : OM w b n f) (e : ∀ p, f' p = f p) : OM w b n f' := by
  obtain ⟨D, h1, h2⟩ := h
  exact ⟨D, h1, fun p => by rw [e p]; exact h2 p⟩
theorem OM.made (w : World) : OM (w.alloc (.map #[] 0)) w.heap.size 0 (fun _ => none) := ⟨_, World.ownsMap_made _ _ _ _, fun _ => .inl ⟨rfl, rfl⟩⟩
theorem OM.mono (h : OM w b n f) {m : Nat} (hm : n ≤ m) : OM w b m f := by obtain ⟨D, h1, h2⟩ := h; exact ⟨D, h1.mono hm, h2⟩
theorem OM.lt (h : OM w b n f) : b < w.heap.size := by obtain ⟨D, h1, _⟩ := h; exact h1.lt
theorem OM.kept {row : Option Nat} (h : OM w b n f) (hg : w.grownBy w' row) (hne : some b ≠ row) : OM w' b n f := by obtain ⟨D, h1, h2⟩ := h; exact ⟨D, h1.kept hg hne, h2⟩
theorem OM.alloc (h : OM w b n f) (o : Obj) : OM (w.alloc o) b n f := h.kept (World.grownBy_alloc w o none) (by simp)
theorem OM.to (h : OM w b n f) (hb : Below w.heap.size w w') : OM w' b n f := h.kept (grown_of_below hb none) (by simp)
theorem OM.drewN (h : OM w b n f) (k : Nat) : OM (w.drewN k) b n f := h.to (Bl.of_drewN w k)
theorem OM.far (h : OM w b n f) {p : Addr} (hp : b ≠ p.block) (u : Value) : OM (w.setCell p u) b n f := by obtain ⟨D, h1, h2⟩ := h; exact ⟨D, h1.setCell hp u, h2⟩
end
section
variable {P : Program} {w : World} {ops : Array Oper} {rest : List Oper} {o : Oper} {a : Act} {Q : Exit → Act → World → Prop} {b n : Nat} {f : Int → Option (Int × Int)}
end
end Go.Proofs.YtjflfhjnbccpmaaGreatDoor
namespace Go.Proofs.YtjflfhjnbccpmaaGreatDoor
open Go.RowKit
theorem c_endValid (ad ep : Int) (w : World) : Calls Tryz.prog 67 #[.agg #[.int .i64 ad, .int .i64 ep]] w fun e w' => e = .returned (.bool (inB ad 0 65535 && inB ep 0 65535)) ∧ Below w.heap.size w w' := by
  go_enter Tryz.func67, Tryz.ntmps67
  go_wp2_with fail
  refine (c_areWords _ _ [ad, ep] _ (lit_ints _ (by simp) rfl) (by simp)).mono ?_
  rintro e w1 ⟨rfl, rfl⟩
  go_wp2
  go_ret
  exact ⟨ret_bool (by unfold allIn allUp; simp [List.range_succ, nth]), ((Below.refl _ _).alloc (Nat.le_refl _) _).alloc (by simp) _⟩
theorem c_validEnd (ad ep : Int) (w : World) : Calls Tryz.prog 81 #[.agg #[.int .i64 ad, .int .i64 ep]] w fun e w' => e = .returned (.bool (inB ad 0 65535 && inB ep 0 65535)) ∧ Below w.heap.size w w' := by
  cases h1 : inB ad 0 65535
  · go_enter Tryz.func81, Tryz.ntmps81
    go_wp2_with fail
    refine (c_validAddr _ _).mono ?_
    rw [h1]
    rintro e w1 ⟨rfl, rfl⟩
    go_wp2
    go_ret
    exact ⟨rfl, (Below.refl _ _).alloc (Nat.le_refl _) _⟩
  · go_enter Tryz.func81, Tryz.ntmps81
    go_wp2_with fail
    refine (c_validAddr _ _).mono ?_
    rw [h1]
    rintro e w1 ⟨rfl, rfl⟩
    go_wp2_with fail
    refine (c_inRange _ _ _ _).mono ?_
    rintro e w1 ⟨rfl, rfl⟩
    go_wp2
    go_ret
    exact ⟨rfl, (Below.refl _ _).alloc (Nat.le_refl _) _⟩
theorem c_isOutside (p : Int) (w : World) : Calls Tryz.prog 74 #[.int .i64 p] w fun e w' => e = .returned (.bool (inB p 1000 1007)) ∧ w = w' := by
  go_enter Tryz.func74, Tryz.ntmps74
  go_wp2_with (go_at_call 44; refine (c_in _ _ _ _).mono ?_; rintro e w' ⟨rfl, rfl⟩)
  go_ret
  exact ⟨rfl, rfl⟩
end Go.Proofs.YtjflfhjnbccpmaaGreatDoor
namespace Go.Proofs.YtjflfhjnbccpmaaGreatDoor
open Go.RowKit
theorem arr_at {α : Type} {l : List α} {i : Nat} {x : α} (h : l[i]? = some x) : l.toArray[i]? = some x := by simpa using h
end Go.Proofs.YtjflfhjnbccpmaaGreatDoor
