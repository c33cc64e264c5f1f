/- General words for the walks of this seat: what it means that a slice in memory reads as a list, and that it keeps doing so while a call adds memory. No conditions. -/
import Derived.WalkKit
import Derived.Deep.AppendLies
import Derived.Deep.Draws
import Derived.Deep.QuietTactic
import Derived.BigQuiet
import Derived.Lib.Hide
import Derived.WalkSpells
import Derived.WalkLawsBesides
namespace Go.Proofs.YthlaldikdlljfaaDoor
open Go.RowKit

/-- The cells behind the address A begin with vs (one value a cell). -/
def Rd (w : World) (A : Option Addr) (vs : List Value) : Prop :=
  ∀ k v, vs[k]? = some v → ∃ b off, A = some ⟨b, off, none⟩ ∧ b < w.heap.size ∧ w.cell? ⟨b, off + k, none⟩ = some v

section
variable {w w' : World} {A : Option Addr} {vs us : List Value}
theorem Rd.nil (w : World) (A : Option Addr) : Rd w A [] := fun k v h => by simp at h
theorem Rd.below {B : Nat} (h : Rd w A vs) (hb : Below B w w') (hB : w.heap.size ≤ B) : Rd w' A vs := fun k v hk => by
  obtain ⟨b, off, rfl, hlt, hc⟩ := h k v hk
  exact ⟨b, off, rfl, Nat.lt_of_lt_of_le hlt hb.size, (hb.cell (p := ⟨b, off + k, none⟩) (by show b < B; omega)).trans hc⟩
theorem Rd.to (h : Rd w A vs) (hb : Below w.heap.size w w') : Rd w' A vs := h.below hb (Nat.le_refl _)
theorem Rd.drewN (h : Rd w A vs) (n : Nat) : Rd (w.drewN n) A vs := h
theorem Rd.drew (h : Rd w A vs) : Rd w.drew A vs := h
theorem Rd.alloc (h : Rd w A vs) (o : Obj) : Rd (w.alloc o) A vs := h.to ((Below.refl _ _).alloc (Nat.le_refl _) o)
theorem Rd.take (h : Rd w A vs) (n : Nat) : Rd w A (vs.take n) := fun k v hk => h k v (by
  rw [List.getElem?_take] at hk
  split at hk
  · exact hk
  · cases hk)
theorem Rd.of_own {base e n c : Nat} (h : w.ownsRow base e 1 (.slice A n c) n vs) : Rd w A vs := fun k v hk => by
  have hl : vs.length = n := by have := h.1; omega
  have hk' : k < vs.length := by
    rcases Nat.lt_or_ge k vs.length with h1 | h1
    · exact h1
    · rw [List.getElem?_eq_none h1] at hk; cases hk
  obtain ⟨g, cap, hv, _, hlt⟩ := h.form (by omega)
  have hA : A = some ⟨g, 0, none⟩ := by injection hv
  subst hA
  refine ⟨g, 0, rfl, hlt, ?_⟩
  have := h.cells (g := g) rfl k v hk
  unfold Addr.add at this
  split at this
  · rename_i h0; subst h0; simpa using this
  · simpa using this
end

/-- The k-th number of a list (0 behind its end). -/
def nth (zs : List Int) (k : Nat) : Int := zs[k]?.getD 0

/-- The cells behind A begin with the numbers zs. -/
def RI (w : World) (A : Option Addr) (zs : List Int) : Prop := Rd w A (zs.map (Value.int .i64))

section
variable {w w' : World} {A : Option Addr} {zs : List Int}
theorem RI.nil (w : World) (A : Option Addr) : RI w A [] := Rd.nil w A
theorem RI.to (h : RI w A zs) (hb : Below w.heap.size w w') : RI w' A zs := Rd.to h hb
theorem RI.below {B : Nat} (h : RI w A zs) (hb : Below B w w') (hB : w.heap.size ≤ B) : RI w' A zs := Rd.below h hb hB
theorem RI.drewN (h : RI w A zs) (n : Nat) : RI (w.drewN n) A zs := h
theorem RI.alloc (h : RI w A zs) (o : Obj) : RI (w.alloc o) A zs := Rd.alloc h o
theorem RI.get (h : RI w A zs) {k : Nat} (hk : k < zs.length) :
    ∃ b off, A = some ⟨b, off, none⟩ ∧ b < w.heap.size ∧ w.cell? ⟨b, off + k, none⟩ = some (.int .i64 (nth zs k)) := by
  have hz : (zs.map (Value.int .i64))[k]? = some (.int .i64 (nth zs k)) := by
    simp [nth, hk]
  exact h k _ hz
theorem RI.take (h : RI w A zs) (n : Nat) : RI w A (zs.take n) := by
  unfold RI
  rw [List.map_take]
  exact Rd.take h n
theorem RI.of_own {base e n c : Nat} (h : w.ownsRow base e 1 (.slice A n c) n (zs.map (Value.int .i64))) : RI w A zs := Rd.of_own h
end


/-- Block g is just these cells of type t, none frozen. -/
def Blk (w : World) (g : Nat) (t : TypeId) (cs : Array Value) : Prop := w.heap[g]? = some (.cells cs t (0, 0))
section
variable {w w' : World} {g : Nat} {t : TypeId} {cs : Array Value}
theorem Blk.lt (h : Blk w g t cs) : g < w.heap.size := by
  rcases Nat.lt_or_ge g w.heap.size with hlt | hge
  · exact hlt
  · unfold Blk at h; rw [Array.getElem?_eq_none hge] at h; cases h
theorem Blk.cell (h : Blk w g t cs) (i : Nat) : w.cell? ⟨g, i, none⟩ = cs[i]? := cell_of_row w g i cs t (0, 0) h
theorem Blk.frozen (h : Blk w g t cs) (i : Nat) : w.frozen? ⟨g, i, none⟩ = false := by
  unfold Blk at h
  simp [World.frozen?, h]
theorem Blk.new (w : World) (t : TypeId) (cs : Array Value) : Blk (w.alloc (.cells cs t)) w.heap.size t cs := heap_alloc_new w _
theorem Blk.drewN (h : Blk w g t cs) (n : Nat) : Blk (w.drewN n) g t cs := h
theorem Blk.alloc (h : Blk w g t cs) (o : Obj) : Blk (w.alloc o) g t cs := (Below.heap_alloc w o g h.lt).trans h
theorem Blk.set_ (h : Blk w g t cs) (i : Nat) (u : Value) : Blk (w.setCell ⟨g, i, none⟩ u) g t (cs.setIfInBounds i u) := by
  unfold Blk at h ⊢
  simp [World.setCell, Array.getElem?_modify, h]
theorem Blk.far (h : Blk w g t cs) {p : Addr} (hp : g ≠ p.block) (u : Value) : Blk (w.setCell p u) g t cs := (Below.heap_setCell w p u g hp).trans h
theorem Blk.below {B : Nat} (h : Blk w g t cs) (hb : Below B w w') (hg : g < B) : Blk w' g t cs := (hb.block g hg).trans h
theorem Blk.to (h : Blk w g t cs) (hb : Below w.heap.size w w') : Blk w' g t cs := (hb.block g h.lt).trans h
theorem Blk.grown {row : Option Nat} (h : Blk w g t cs) (hb : w.grownBy w' row) (hg : some g ≠ row) : Blk w' g t cs := (hb.block g h.lt hg).trans h
theorem Blk.rd (h : Blk w g t cs) : Rd w (some ⟨g, 0, none⟩) cs.toList := fun k v hk => ⟨g, 0, rfl, h.lt, by
  rw [Nat.zero_add, h.cell k, ← hk, Array.getElem?_toList]⟩
theorem Blk.own (h : Blk w g t cs) {base n size : Nat} (hb : base ≤ g) (hs : cs.size = n * size) (hm : n ≤ maxLen) : w.ownsRow base t size (.slice (some ⟨g, 0, none⟩) n n) n cs.toList :=
  ⟨by simpa using hs, .inr ⟨g, n, cs, rfl, hb, h, Nat.le_refl _, hm, hs, List.take_of_length_le (by rw [Array.length_toList, hs]; exact Nat.le_refl _)⟩⟩
end

/-- The cells of a list of numbers. -/
def ints (zs : List Int) : Array Value := (zs.map (Value.int .i64)).toArray
theorem size_ints (zs : List Int) : (ints zs).size = zs.length := by simp [ints]
theorem ints_at {zs : List Int} {k : Nat} (hk : k < zs.length) : (ints zs)[k]? = some (.int .i64 (nth zs k)) := by simp [ints, nth, hk]
theorem ints_ext {cs : Array Value} {zs : List Int} (hs : cs.size = zs.length) (h : ∀ j, j < zs.length → cs[j]? = some (.int .i64 (nth zs j))) : cs = ints zs := by
  apply Array.ext_getElem?
  intro j
  by_cases hj : j < zs.length
  · rw [h j hj, ints_at hj]
  · rw [Array.getElem?_eq_none (by omega), Array.getElem?_eq_none (by rw [size_ints]; omega)]
theorem RI.of_blk {w : World} {g : Nat} {t : TypeId} {zs : List Int} (h : Blk w g t (ints zs)) : RI w (some ⟨g, 0, none⟩) zs := by
  have := h.rd
  simpa [ints, RI] using this

theorem madeInts (n : Nat) : madeCells #[Value.int .i64 0] (n * 1) = Array.replicate n (Value.int .i64 0) := by
  apply Array.ext'
  rw [toList_madeCells_one]; simp
theorem run_make_ints {P : Program} (t e : TypeId) (i : TypeInfo) (ht : P.underlying t = some (.slice e)) (hi : P.info? e = some i) (hz : i.zero = some (.int .i64 0)) (hs : i.size = 1) (hby : i.bytes = 8)
    (n : Nat) (hn : n ≤ 1099511627776) (w : World) :
    (Instr.makeSlice t (.int .i64 (n : Int)) (.int .i64 (n : Int))).run P w = .ok (.slice (some ⟨w.heap.size, 0, none⟩) n n) (w.alloc (.cells (Array.replicate n (Value.int .i64 0)) e)) := by
  have hr := run_make (P := P) w t e i _ ht hi hz .i64 .i64 n n (by omega) (Int.le_refl _) (by rw [hby]; omega) (by omega)
  simp only [Int.toNat_natCast, hs] at hr
  rw [← madeInts]
  exact hr

theorem Bl.drewN {B : Nat} {a w : World} (h : Below B a w) (n : Nat) : Below B a (w.drewN n) := ⟨h.os, h.tape, h.output, h.size, h.block⟩
theorem Bl.of_drewN {B : Nat} (w : World) (n : Nat) : Below B w (w.drewN n) := Bl.drewN (Below.refl _ _) n
theorem Bl.quiet {w w' : World} (h : ∃ q, w' = w.drewN q) : Below w.heap.size w w' := by obtain ⟨q, rfl⟩ := h; exact Bl.of_drewN w q
/-- Two calls in a row: what the first left stands behind the second. -/
theorem Bl.then {a b c : World} (h : Below a.heap.size a b) (k : Below b.heap.size b c) : Below a.heap.size a c := h.trans (k.mono h.size)

theorem wrap64_id {n : Int} (h1 : -9223372036854775808 ≤ n) (h2 : n ≤ 9223372036854775807) : wrap64 n = n := IntWalk.wrap64_in n ⟨h1, h2⟩

theorem quiet_eq {P : Program} {f : FuncId} {args : Array Value} {w : World} {n : Nat} {v : Value} (h : ∀ W : World, W = w.drewN n → Calls P f args W fun e w' => e = .returned v ∧ W = w') :
    Calls P f args (w.drewN n) fun e w'' => e = .returned v ∧ ∃ m, w'' = w.drewN m :=
  (h _ rfl).mono fun _ _ ⟨he, hm⟩ => ⟨he, n, hm.symm⟩
theorem quiet_dr {P : Program} {f : FuncId} {args : Array Value} {w : World} {n : Nat} {v : Value} (h : ∀ W : World, W = w.drewN n → Calls P f args W fun e w' => e = .returned v ∧ ∃ q, w' = W.drewN q) :
    Calls P f args (w.drewN n) fun e w'' => e = .returned v ∧ ∃ m, w'' = w.drewN m :=
  (h _ rfl).mono fun _ _ ⟨he, m, hm⟩ => ⟨he, n + m, by rw [hm, World.drewN_drewN]⟩
theorem ret_int {k : IntKind} {a b : Int} (h : a = b) : Ending.returned (.int k a) = .returned (.int k b) := by rw [h]
theorem ret_bool {a b : Bool} (h : a = b) : Ending.returned (.bool a) = .returned (.bool b) := by rw [h]
end Go.Proofs.YthlaldikdlljfaaDoor
