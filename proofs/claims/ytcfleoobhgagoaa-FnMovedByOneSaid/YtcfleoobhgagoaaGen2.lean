/- Contracts of the generator: one, newReader, copyInts, spoil, words. -/
import Derived.Test.YtcfleoobhgagoaaGen
import Derived.Test.YtcfleoobhgagoaaApp
namespace Go.Proofs.Ytcfleoobhgagoaa
open Go.RowKit

theorem nth_mem {zs : List Int} {k : Nat} (h : k < zs.length) : nth zs k ∈ zs := by simp [nth, h]

theorem c_one (g p c : Nat) (A : Option Addr) (zs : List Int) (w : World) (hr : Rdr w g p) (hp : p ≤ 1099511627776) (hA : RI w A zs) (h0 : 0 < zs.length) (hl : zs.length ≤ 1099511627776) (hne : ∀ a, A = some a → a.block ≠ g) :
    Calls Try.prog 51 #[.pointer (some ⟨g, 0, none⟩), .slice A zs.length c] w fun e w' => ∃ x : Int, e = .returned (.int .i64 x) ∧ x ∈ zs ∧ Rdr w' g (p + 1) ∧ w.grownBy w' (some g) := by
  go_enter Try.func51, Try.ntmps51
  go_wp2_with fail
  refine (c_pick _ _ _ _ hr hp).mono ?_
  rintro e w1 ⟨x, rfl, hx0, hx1, -, hr1, hg1⟩
  replace hx1 := hx1 (by omega)
  have hA1 := hA.grown hg1 hne
  obtain ⟨b, off, rfl, _, hc⟩ := hA1.get (k := x.toNat) (by omega)
  go_wp2
  go_ret
  exact ⟨_, rfl, nth_mem (by omega), hr1, hg1⟩

theorem Rdr.made {w : World} {A : Option Addr} {n c : Nat} (h : RB w A n) (hn : n ≤ 2000) : Rdr (w.alloc (.cells #[.slice A n c, .int .i64 0] 54)) w.heap.size 0 := by
  refine ⟨A, n, c, Blk.new _ _ _, hn, fun k hk => ?_⟩
  obtain ⟨b, off, x, rfl, hlt, hc, hx⟩ := h k hk
  exact ⟨b, off, x, rfl, hlt, (World.cell?_alloc_lt w _ ⟨b, off + k, none⟩ hlt).trans hc, hx⟩

theorem c_newReader (A : Option Addr) (n c : Nat) (w : World) (h : RB w A n) (hc : n ≤ c) :
    Calls Try.prog 48 #[.slice A n c] w fun e w' => ∃ g, e = .returned (.pointer (some ⟨g, 0, none⟩)) ∧ Rdr w' g 0 ∧ w.heap.size ≤ g ∧ Below w.heap.size w w' := by
  by_cases hb : 2000 < n
  · go_enter Try.func48, Try.ntmps48
    go_wp2
    go_ret
    exact ⟨_, rfl, Rdr.made (h.le (by omega)) (Nat.le_refl _), Nat.le_refl _, (Below.refl _ _).alloc (Nat.le_refl _) _⟩
  · go_enter Try.func48, Try.ntmps48
    go_wp2
    go_ret
    exact ⟨_, rfl, Rdr.made h (by omega), Nat.le_refl _, (Below.refl _ _).alloc (Nat.le_refl _) _⟩

theorem c_copyInts (A : Option Addr) (c : Nat) (zs : List Int) (w : World) (h : RI w A zs) (hl : zs.length ≤ 1099511627776) :
    Calls Try.prog 65 #[.slice A zs.length c] w fun e w' => ∃ v, e = .returned v ∧ w'.ownsRow w.heap.size 3 1 v zs.length (zs.map (Value.int .i64)) ∧ Below w.heap.size w w' := by
  obtain ⟨i0, hi, hz0, hz1, hz2⟩ := info_parts int_info
  go_enter Try.func65, Try.ntmps65
  go_wp2_with (at_builtin; refine wpList_append_rd _ rfl _ _ 22 rfl w.heap.size 3 i0 _ 1 8 Try.underlying22 hi hz0 hz1 hz2 rfl (by omega) _ 0 [] rfl (own_empty (Nat.le_refl _) rfl) A zs.length c (zs.map (Value.int .i64)) rfl (Rd.alloc h _) (by simp) (one_ints zs) (by unfold maxLen; omega) (by omega) (by simp) ?_; intro v1 w1 hown1 hg1 hat1)
  go_ret
  refine ⟨_, rfl, by simpa using hown1, ((Below.refl _ _).alloc (Nat.le_refl _) (.cells #[] 3)).grown hg1 (by simp) (fun k hk => by have e : w.heap.size = k := Option.some.inj hk; omega)⟩

theorem Rdr.lt {w : World} {g p : Nat} (h : Rdr w g p) : g < w.heap.size := by obtain ⟨_, _, _, hb, _⟩ := h; exact hb.lt
theorem Rdr.row {w w' : World} {g p : Nat} {row : Option Nat} (h : Rdr w g p) (hg : w.grownBy w' row) (hr : ∀ k, row = some k → g < k) : Rdr w' g p := by
  obtain ⟨A, n, c, hk, hn, hx⟩ := h
  have hlt := hk.lt
  refine ⟨A, n, c, hk.grown hg (fun e => by have := hr g e.symm; omega), hn, fun k hk => ?_⟩
  obtain ⟨b, off, x, rfl, hb, hc, hx⟩ := hx k hk
  exact ⟨b, off, x, rfl, hb, (World.cell?_of_block (w := w) (a := ⟨b, off + k, none⟩) (hg.block b (by omega) (fun e => by have := hr b e.symm; omega))).trans hc, hx⟩
theorem Rdr.to {w w' : World} {g p : Nat} (h : Rdr w g p) (hb : Below w.heap.size w w') : Rdr w' g p := h.row (grown_of_below hb none) (fun k hk => by cases hk)
theorem Rdr.alloc {w : World} {g p : Nat} (h : Rdr w g p) (o : Obj) : Rdr (w.alloc o) g p := h.to ((Below.refl _ _).alloc (Nat.le_refl _) o)

/-- What a generator of a list leaves: a list of at most m numbers, the reader further on by at most k, nothing else turned. -/
def GenL (w : World) (g p m k : Nat) (e : Ending) (w' : World) : Prop :=
  ∃ A n c zs p', e = .returned (.slice A n c) ∧ zs.length = n ∧ n ≤ c ∧ RI w' A zs ∧ n ≤ m ∧ Rdr w' g p' ∧ p' ≤ p + k ∧ w.grownBy w' (some g) ∧ Far A g

theorem c_spoil (g p c : Nat) (A : Option Addr) (zs : List Int) (n : Int) (w : World) (hr : Rdr w g p) (hp : p ≤ 1099511627000) (hA : RI w A zs) (hl : zs.length ≤ 1099511627) :
    Calls Try.prog 62 #[.pointer (some ⟨g, 0, none⟩), .slice A zs.length c, .int .i64 n] w (GenL w g p (zs.length + 1) 3) := by
  obtain ⟨i0, hi, hz0, hz1, hz2⟩ := info_parts int_info
  go_enter Try.func62, Try.ntmps62
  go_wp2_with fail
  refine (c_copyInts _ _ _ _ hA (by omega)).mono ?_
  rintro e w1 ⟨v, rfl, ho1, hb1⟩
  have hg1 := grown_of_below hb1 (some g)
  have hgl := hr.lt
  replace hr := hr.to hb1
  clear hb1 hA
  go_wp2_with fail
  refine (c_pick _ _ _ _ hr (by omega)).mono ?_
  rintro e w2 ⟨x, rfl, hx0, -, -, hr2, hg2⟩
  have ho2 := own_kept ho1 hg2 hgl
  have hg := grown_trans hg1 hg2
  clear ho1 hg1 hg2 hr
  obtain ⟨B, d, rfl, hd, hdm, hB⟩ := own_slice ho2
  by_cases x0 : x = 0
  · subst x0
    go_wp2_with (at_builtin; refine wpList_append_rd _ rfl _ _ 22 rfl w.heap.size 3 i0 _ 1 8 Try.underlying22 hi hz0 hz1 hz2 rfl (by omega) _ zs.length (zs.map (Value.int .i64)) rfl (ho2.alloc _) (some ⟨w2.heap.size, 0, none⟩) 1 1 [.int .i64 n] rfl (lit_ints [n] rfl rfl) (by simp) (one_ints [n]) (by unfold maxLen; omega) (by omega) (by have := hg.size; simp; omega) ?_; intro v1 w3 ho3 hg3 hat3)
    go_ret
    have ho : w3.ownsRow w.heap.size 3 1 v1 (zs.length + 1) ((zs ++ [n]).map (Value.int .i64)) := by simpa using ho3
    obtain ⟨C, d', rfl, hd', _, hC⟩ := own_slice ho
    refine ⟨C, _, d', zs ++ [n], p + 1, rfl, by simp, hd', (RI.ofOwn ho).1, Nat.le_refl _, ?_, by omega, ?_, far_own ho hgl⟩
    · exact (hr2.alloc (.cells #[.int .i64 n] 3)).row hg3 (fun k hk => own_row (lo := g + 1) (b := w.heap.size) (by omega) hB hk)
    · exact grown_own (grown_alloc hg _) hg3 (fun k hk => own_row (Nat.le_refl _) hB hk)
  · by_cases x1 : x = 1
    · subst x1
      by_cases hz : 0 < zs.length
      · go_wp2
        · go_ret
          exact ⟨B, _, 0, [], p + 1, rfl, by simp; omega, by omega, RI.nil _ _, by omega, hr2, by omega, hg, far_own ho2 hgl⟩
        · go_ret
          exact ⟨_, _, _, zs.drop 1, p + 1, rfl, by simp, by omega, RI.drop (RI.ofOwn ho2).1, by omega, hr2, by omega, hg, far_map (far_own ho2 hgl)⟩
      · go_wp2
        go_ret
        exact ⟨B, _, d, zs, p + 1, rfl, rfl, hd, (RI.ofOwn ho2).1, by omega, hr2, by omega, hg, far_own ho2 hgl⟩
    · by_cases x2 : x = 2
      · subst x2
        by_cases hz : 0 < zs.length
        · go_wp2_with fail
          refine (c_pick _ _ _ _ hr2 (by omega)).mono ?_
          rintro e w3 ⟨y, rfl, hy0, hy1, -, hr3, hg3⟩
          replace hy1 := hy1 (by omega)
          have ho3 := own_kept ho2 hg3 hgl
          replace hg := grown_trans hg hg3
          clear ho2 hr2 hg3
          obtain ⟨gg, cap, hv, hb1, hb2⟩ := ho3.form hz
          injection hv with e1 e2 e3
          subst e1 e3
          go_wp2_with fail
          refine (c_one _ _ _ _ [-1, n, 0, 1] _ (hr3.alloc _) (by omega) (lit_ints _ rfl rfl) (by simp) (by simp) (fun a ha => by cases ha; show w3.heap.size ≠ g; have := hr3.lt; omega)).mono ?_
          rintro e w4 ⟨z, rfl, -, hr4, hg4⟩
          have ho4 := own_kept (ho3.alloc _) hg4 hgl
          replace hg := grown_trans (grown_alloc hg _) hg4
          clear ho3 hr3 hg4
          have hy : y.toNat < zs.length := by omega
          have hcell : w4.cell? ⟨gg, y.toNat, none⟩ = some (.int .i64 (nth zs y.toNat)) := by
            rw [ho4.cellAt _ (by omega)]; simp [nth, hy]
          have hfz := ho4.frozenAt y.toNat
          have hst := ho4.stored y.toNat (.int .i64 z)
          go_wp2
          go_ret
          have ho5 : (w4.setCell ⟨gg, y.toNat, none⟩ (.int .i64 z)).ownsRow w.heap.size 3 1 (.slice (some ⟨gg, 0, none⟩) zs.length d) zs.length ((zs.set y.toNat z).map (Value.int .i64)) := by
            rw [List.map_set]; exact hst.1
          exact ⟨_, _, d, zs.set y.toNat z, _, rfl, by simp, hd, (RI.ofOwn ho5).1, by omega, hr4.row hst.2 (fun k hk => by injection hk with hk; omega), by omega, grown_own hg hst.2 (fun k hk => by injection hk with hk; omega), far_own ho5 hgl⟩
        · go_wp2
          go_ret
          exact ⟨B, _, d, zs, p + 1, rfl, rfl, hd, (RI.ofOwn ho2).1, by omega, hr2, by omega, hg, far_own ho2 hgl⟩
      · go_wp2
        go_ret
        exact ⟨B, _, d, zs, p + 1, rfl, rfl, hd, (RI.ofOwn ho2).1, by omega, hr2, by omega, hg, far_own ho2 hgl⟩
end Go.Proofs.Ytcfleoobhgagoaa
