/- Contracts of the generator's reader: pick and one. -/
import Derived.Test.YthlaldikdlljfaaDoorC2
import Derived.Test.YthlaldikdlljfaaDoorRow
import Derived.Laws.BitsAllLaws
import Derived.Laws.BitsLemmas
namespace Go.Proofs.YthlaldikdlljfaaDoor
open Go.RowKit

theorem ofInt_i64 (a : Nat) (ha : a < 9223372036854775808) : (BitVec.ofInt 64 (a : Int)).toNat = a := by
  rw [BitVec.ofInt_natCast, BitVec.toNat_ofNat]; exact Nat.mod_eq_of_lt (by omega)
theorem i64_xor_nat (a b : Nat) (ha : a < 9223372036854775808) (hb : b < 9223372036854775808) : bits .xor .i64 (a : Int) (b : Int) = ((a ^^^ b : Nat) : Int) := by
  have hx : a ^^^ b < 2 ^ 63 := Nat.xor_lt_two_pow (by omega) (by omega)
  show IntKind.i64.wrap ((BitVec.ofInt 64 (a : Int) ^^^ BitVec.ofInt 64 (b : Int)).toNat : Int) = _
  rw [BitVec.toNat_xor, ofInt_i64 a ha, ofInt_i64 b hb, IntKind.wrap_i64]
  omega
theorem xor_rem {a b n : Int} (h1 : 0 ≤ a) (h2 : a ≤ 4611686018427387904) (h3 : 0 ≤ b) (h4 : b ≤ 4611686018427387904) (hn : 1 ≤ n) :
    0 ≤ (bits .xor .i64 a b).tmod n ∧ (bits .xor .i64 a b).tmod n < n := by
  obtain ⟨x, rfl⟩ := Int.eq_ofNat_of_zero_le h1
  obtain ⟨y, rfl⟩ := Int.eq_ofNat_of_zero_le h3
  rw [i64_xor_nat x y (by omega) (by omega), Int.tmod_eq_emod_of_nonneg (by omega)]
  exact ⟨Int.emod_nonneg _ (by omega), Int.emod_lt_of_pos _ (by omega)⟩

/-- Block g is a reader: bytes somewhere else, and the number p of picks so far. -/
def Rdr (w : World) (g p : Nat) : Prop :=
  ∃ A n c, Blk w g 90 #[.slice A n c, .int .i64 (p : Int)] ∧ n ≤ 2000 ∧
    ∀ k, k < n → ∃ b off x, A = some ⟨b, off, none⟩ ∧ b < g ∧ w.cell? ⟨b, off + k, none⟩ = some (.int .u8 x) ∧ 0 ≤ x ∧ x ≤ 255

theorem cell_far {w : World} {g k b o : Nat} {v : Value} (h : b ≠ g) : (w.setCell ⟨g, k, none⟩ v).cell? ⟨b, o, none⟩ = w.cell? ⟨b, o, none⟩ :=
  World.cell?_setCell_other w ⟨g, k, none⟩ ⟨b, o, none⟩ v (fun e => h (by injection e with e1; exact e1.symm))
theorem Rdr.put {w : World} {g p : Nat} (hr : Rdr w g p) (x : Int) (hx : x = ((p + 1 : Nat) : Int)) : Rdr (w.setCell ⟨g, 1, none⟩ (.int .i64 x)) g (p + 1) := by
  obtain ⟨A, n, c, hb, hn, h⟩ := hr
  subst hx
  refine ⟨A, n, c, by simpa using hb.set_ 1 (.int .i64 ((p + 1 : Nat) : Int)), hn, fun k hk => ?_⟩
  obtain ⟨b, off, x, rfl, hlt, hc, hx⟩ := h k hk
  exact ⟨b, off, x, rfl, hlt, (cell_far (by omega)).trans hc, hx⟩
theorem grown_put {w : World} (g k : Nat) (v : Value) : w.grownBy (w.setCell ⟨g, k, none⟩ v) (some g) :=
  ⟨rfl, rfl, rfl, by simp [World.setCell], fun i _ hne => Below.heap_setCell w ⟨g, k, none⟩ v i (fun e => hne (by rw [e]))⟩
theorem grown_drewN {a w : World} {row : Option Nat} (h : a.grownBy w row) (n : Nat) : a.grownBy (w.drewN n) row := ⟨h.os, h.tape, h.output, h.size, h.block⟩
theorem Rdr.drewN {w : World} {g p : Nat} (h : Rdr w g p) (n : Nat) : Rdr (w.drewN n) g p := h

set_option maxHeartbeats 1000000 in
theorem c_pick (g p : Nat) (n : Int) (w : World) (hr : Rdr w g p) (hp : p ≤ 1099511627776) :
    Calls Tryd.prog 50 #[.pointer (some ⟨g, 0, none⟩), .int .i64 n] w fun e w' => ∃ x : Int, e = .returned (.int .i64 x) ∧ 0 ≤ x ∧ (1 ≤ n → x < n) ∧ (n < 1 → x = 0) ∧ Rdr w' g (p + 1) ∧ w.grownBy w' (some g) := by
  obtain ⟨A, m, c, hb, hm, hx⟩ := id hr
  have hc0 : w.cell? ⟨g, 0, none⟩ = some (.slice A m c) := hb.cell 0
  have hc1 : w.cell? ⟨g, 1, none⟩ = some (.int .i64 (p : Int)) := hb.cell 1
  have hf0 := hb.frozen 0
  have hf1 := hb.frozen 1
  have hgs := hb.lt
  clear hb
  by_cases hn : n < 1
  · go_enter Tryd.func50, Tryd.ntmps50
    go_wp2
    go_ret
    exact ⟨0, rfl, by omega, by omega, fun _ => rfl, hr.put _ (by omega), grown_put _ _ _⟩
  · by_cases h0 : m = 0
    · subst h0
      go_enter Tryd.func50, Tryd.ntmps50
      go_wp2
      go_ret
      exact ⟨0, rfl, by omega, by omega, fun _ => rfl, hr.put _ (by omega), grown_put _ _ _⟩
    · have hm0 : ((m : Int) == 0) = false := by simp; omega
      by_cases hlt : p < m
      · obtain ⟨b, off, x, rfl, hbg, hc, hx0, hx1⟩ := hx p hlt
        have hne : b ≠ g := by omega
        have hbl : b < w.heap.size := by omega
        have hcell : (w.setCell ⟨g, 1, none⟩ (.int .i64 ((p : Int) + 1))).cell? ⟨b, off + p, none⟩ = some (.int .u8 x) := (cell_far hne).trans hc
        go_enter Tryd.func50, Tryd.ntmps50
        go_wp2
        go_ret
        have hd := Int.emod_lt_of_pos x (b := n) (by omega)
        have hd0 := Int.emod_nonneg x (b := n) (by omega)
        exact ⟨x % n, rfl, hd0, hd, fun h => absurd h (by omega), hr.put _ (by omega), grown_put _ _ _⟩
      · obtain ⟨b1, off1, x1, hA1, hbg1, hc1', hx10, hx11⟩ := hx (p % m) (Nat.mod_lt _ (by omega))
        have hne1 : b1 ≠ g := by omega
        have hbl1 : b1 < w.heap.size := by omega
        obtain ⟨b2, off2, x2, hA2, hbg2, hc2', hx20, hx21⟩ := hx ((p * 7 + 3) % m) (Nat.mod_lt _ (by omega))
        subst hA1
        obtain ⟨rfl, rfl⟩ : b1 = b2 ∧ off1 = off2 := by injection hA2 with e; injection e with e1 e2; exact ⟨e1, e2⟩
        have hcell1 : (w.setCell ⟨g, 1, none⟩ (.int .i64 ((p : Int) + 1))).cell? ⟨b1, off1 + p % m, none⟩ = some (.int .u8 x1) := (cell_far hne1).trans hc1'
        have hcell2 : (w.setCell ⟨g, 1, none⟩ (.int .i64 ((p : Int) + 1))).cell? ⟨b1, off1 + (p * 7 + 3) % m, none⟩ = some (.int .u8 x2) := (cell_far hne1).trans hc2'
        clear hA2 hx hc1' hc2'
        have m1 : 0 ≤ (p : Int) % (m : Int) := Int.emod_nonneg _ (by omega)
        have m2 : (p : Int) % (m : Int) < m := Int.emod_lt_of_pos _ (by omega)
        have m3 : ((p : Int) % (m : Int)).toNat = p % m := by omega
        have n1 : 0 ≤ ((p : Int) * 7 + 3) % (m : Int) := Int.emod_nonneg _ (by omega)
        have n2 : ((p : Int) * 7 + 3) % (m : Int) < m := Int.emod_lt_of_pos _ (by omega)
        have n3 : (((p : Int) * 7 + 3) % (m : Int)).toNat = (p * 7 + 3) % m := by
          rw [show ((p : Int) * 7 + 3) = ((p * 7 + 3 : Nat) : Int) from by omega, ← Int.natCast_emod, Int.toNat_natCast]
        have q1 : 0 ≤ (p : Int) / (m : Int) := Int.ediv_nonneg (by omega) (by omega)
        have q2 : (p : Int) / (m : Int) ≤ p := Int.ediv_le_self _ (by omega)
        go_enter Tryd.func50, Tryd.ntmps50
        go_wp2
        go_quiet (fail)
        go_wp2
        go_ret
        have hd := xor_rem (a := x1 * 131 + x2 * 1117 + ↑p * 29 + ↑p / ↑m * 53) (b := (x1 * 131 + x2 * 1117 + ↑p * 29 + ↑p / ↑m * 53) / 64) (n := n) (by omega) (by omega) (by omega) (by omega) hn
        exact ⟨_, rfl, hd.1, fun _ => hd.2, fun h => absurd h (by omega), (hr.put _ (by omega)).drewN _, grown_drewN (grown_put _ _ _) _⟩
end Go.Proofs.YthlaldikdlljfaaDoor
