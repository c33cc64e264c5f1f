/- Contracts of the generator: one, newReader, copyInts, spoil, words. -/
import Derived.Test.YthlaldikdlljfaaDoorGen
import Derived.Test.YthlaldikdlljfaaDoorApp
namespace Go.Proofs.YthlaldikdlljfaaDoor
open Go.RowKit

theorem nth_mem {zs : List Int} {k : Nat} (h : k < zs.length) : nth zs k ∈ zs := by simp [nth, h]

theorem c_one (g p c : Nat) (A : Option Addr) (zs : List Int) (w : World) (hr : Rdr w g p) (hp : p ≤ 1099511627776) (hA : RI w A zs) (h0 : 0 < zs.length) (hl : zs.length ≤ 1099511627776) (hne : ∀ a, A = some a → a.block ≠ g) :
    Calls Tryd.prog 51 #[.pointer (some ⟨g, 0, none⟩), .slice A zs.length c] w fun e w' => ∃ x : Int, e = .returned (.int .i64 x) ∧ x ∈ zs ∧ Rdr w' g (p + 1) ∧ w.grownBy w' (some g) := by
  go_enter Tryd.func51, Tryd.ntmps51
  go_wp2_with fail
  refine (c_pick _ _ _ _ hr hp).mono ?_
  rintro e w1 ⟨x, rfl, hx0, hx1, -, hr1, hg1⟩
  replace hx1 := hx1 (by omega)
  have hA1 := hA.grown hg1 hne
  obtain ⟨b, off, rfl, _, hc⟩ := hA1.get (k := x.toNat) (by omega)
  go_wp2
  go_ret
  exact ⟨_, rfl, nth_mem (by omega), hr1, hg1⟩

theorem Rdr.made {w : World} {A : Option Addr} {n c : Nat} (h : RB w A n) (hn : n ≤ 2000) : Rdr (w.alloc (.cells #[.slice A n c, .int .i64 0] 90)) w.heap.size 0 := by
  refine ⟨A, n, c, Blk.new _ _ _, hn, fun k hk => ?_⟩
  obtain ⟨b, off, x, rfl, hlt, hc, hx⟩ := h k hk
  exact ⟨b, off, x, rfl, hlt, (World.cell?_alloc_lt w _ ⟨b, off + k, none⟩ hlt).trans hc, hx⟩

theorem c_newReader (A : Option Addr) (n c : Nat) (w : World) (h : RB w A n) (hc : n ≤ c) :
    Calls Tryd.prog 48 #[.slice A n c] w fun e w' => ∃ g, e = .returned (.pointer (some ⟨g, 0, none⟩)) ∧ Rdr w' g 0 ∧ w.heap.size ≤ g ∧ Below w.heap.size w w' := by
  by_cases hb : 2000 < n
  · go_enter Tryd.func48, Tryd.ntmps48
    go_wp2
    go_ret
    exact ⟨_, rfl, Rdr.made (h.le (by omega)) (Nat.le_refl _), Nat.le_refl _, (Below.refl _ _).alloc (Nat.le_refl _) _⟩
  · go_enter Tryd.func48, Tryd.ntmps48
    go_wp2
    go_ret
    exact ⟨_, rfl, Rdr.made h (by omega), Nat.le_refl _, (Below.refl _ _).alloc (Nat.le_refl _) _⟩

theorem Rdr.lt {w : World} {g p : Nat} (h : Rdr w g p) : g < w.heap.size := by obtain ⟨_, _, _, hb, _⟩ := h; exact hb.lt
theorem Rdr.row {w w' : World} {g p : Nat} {row : Option Nat} (h : Rdr w g p) (hg : w.grownBy w' row) (hr : ∀ k, row = some k → g < k) : Rdr w' g p := by
  obtain ⟨A, n, c, hk, hn, hx⟩ := h
  have hlt := hk.lt
  refine ⟨A, n, c, hk.grown hg (fun e => by have := hr g e.symm; omega), hn, fun k hk => ?_⟩
  obtain ⟨b, off, x, rfl, hb, hc, hx⟩ := hx k hk
  exact ⟨b, off, x, rfl, hb, (World.cell?_of_block (w := w) (a := ⟨b, off + k, none⟩) (hg.block b (by omega) (fun e => by have := hr b e.symm; omega))).trans hc, hx⟩
theorem Rdr.to {w w' : World} {g p : Nat} (h : Rdr w g p) (hb : Below w.heap.size w w') : Rdr w' g p := h.row (grown_of_below hb none) (fun k hk => by cases hk)
theorem Rdr.alloc {w : World} {g p : Nat} (h : Rdr w g p) (o : Obj) : Rdr (w.alloc o) g p := h.to ((Below.refl _ _).alloc (Nat.le_refl _) o)

/-- What a generator of a list leaves: a list of at most m numbers, the reader further on by at most k, nothing else turned. -/
def GenL (w : World) (g p m k : Nat) (e : Ending) (w' : World) : Prop :=
  ∃ A n c zs p', e = .returned (.slice A n c) ∧ zs.length = n ∧ n ≤ c ∧ RI w' A zs ∧ n ≤ m ∧ Rdr w' g p' ∧ p' ≤ p + k ∧ w.grownBy w' (some g) ∧ Far A g

theorem grown_set {a w : World} {g r k : Nat} {v : Value} (h : a.grownBy w (some g)) (hr : a.heap.size ≤ r) : a.grownBy (w.setCell ⟨r, k, none⟩ v) (some g) :=
  grown_own h (grown_put r k v) (fun _ e => by injection e with e; omega)
theorem Rdr.set {w : World} {g p r k : Nat} {v : Value} (h : Rdr w g p) (hr : g < r) : Rdr (w.setCell ⟨r, k, none⟩ v) g p := by
  obtain ⟨A, n, c, hb, hn, hk⟩ := h
  refine ⟨A, n, c, hb.far (by show g ≠ r; omega) v, hn, fun j hj => ?_⟩
  obtain ⟨b, off, x, e, hlt, hc, h0, h1⟩ := hk j hj
  exact ⟨b, off, x, e, hlt, (cell_far (by omega)).trans hc, h0, h1⟩
end Go.Proofs.YthlaldikdlljfaaDoor
