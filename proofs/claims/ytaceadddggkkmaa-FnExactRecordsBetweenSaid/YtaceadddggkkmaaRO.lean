/- Opening a slice of records that a law takes. -/
import Derived.Test.YtaceadddggkkmaaRC
import Derived.Test.YtaceadddggkkmaaProg
import Derived.WalkKit
import Derived.ProofKit
import Derived.OpenShut
import Derived.ChangeOld
import Derived.Deep.Slices
import Derived.Deep.Fields
import Derived.ChangeSame
namespace Go.Proofs.Ytaceadddggkkmaa

section
open Go.ChangeShapes Go.WideShapes Go.ChangeAt Go.RowKit Go.Deep
variable {H : Type} {enc : TypeId × Value → H} {w : World} {base : Nat} {spare : Nat → Bool} {held : Bool}
set_option maxRecDepth 100000 in
theorem rec_of_cells {n : Nat} {cs : List Value} {x : DataW H × List MemPlace} (ht : DataW.trod enc Try.prog w base spare held n 76 cs = some x) : ∃ r : Rec, cs = recC r := by
  obtain ⟨xs, n', _, _, hl, hlen, hg⟩ := DataW.trod_struct Try.underlying76 ht
  have h5 : Try.prog.cellsOf 76 = 5 := by kernel_rfl
  have h2 : Try.prog.cellsOf 74 = 2 := by kernel_rfl
  have h1 : Try.prog.cellsOf 3 = 1 := by kernel_rfl
  have hb : Try.prog.cellsOf 4 = 1 := by kernel_rfl
  rw [h5] at hl
  match cs, hl with
  | [c0, c1, c2, c3, c4], _ =>
    match xs, hlen with
    | [y0, y1, y2, y3], _ =>
      have g0 : DataW.trod enc Try.prog w base spare held n' 3 [c0] = some y0 := by simpa [h1] using hg 0 _ rfl
      have g1 : DataW.trod enc Try.prog w base spare held n' 3 [c1] = some y1 := by simpa [h1] using hg 1 _ rfl
      have g2 : DataW.trod enc Try.prog w base spare held n' 74 [c2, c3] = some y2 := by simpa [h2] using hg 2 _ rfl
      have g3 : DataW.trod enc Try.prog w base spare held n' 4 [c4] = some y3 := by simpa [hb] using hg 3 _ rfl
      obtain ⟨z0, z1, m, _, _, e0, e1⟩ := trod_struct2 Try.underlying74 g2
      obtain ⟨a0, k0, _⟩ := DataW.trod_int Try.underlying3 g0
      obtain ⟨a1, k1, _⟩ := DataW.trod_int Try.underlying3 g1
      obtain ⟨a2, k2, _⟩ := DataW.trod_int Try.underlying3 e0
      obtain ⟨a3, k3, _⟩ := DataW.trod_int Try.underlying3 e1
      obtain ⟨a4, k4, _⟩ := DataW.trod_bool Try.underlying4 g3
      simp [h1] at k0 k1 k2 k3 k4
      subst k0 k1 k2 k3 k4
      exact ⟨⟨a0, a1, a2, a3, a4⟩, rfl⟩
set_option maxRecDepth 100000 in
/-- A slice of records that a law takes. -/
theorem open_recs {r : Reach} {b0 : Nat} {v : Value} {d : DataW H} {p : List MemPlace} (hv : Value.okWide Try.prog w r b0 31 v) (h : DataW.Trod enc Try.prog w base spare held 31 v d p) :
    ∃ A n c l, v = .slice A n c ∧ l.length = n ∧ n ≤ maxLen ∧ RR w A l := by
  obtain ⟨A, n, c, rfl⟩ := okWide_slice Try.underlying31 hv
  obtain ⟨fuel, hf⟩ := h
  rcases open_slice Try.underlying31 hf with ⟨hcs, _⟩ | ⟨a, len, cap, m, n', D, Pl, hcs, hb, hl, hm, hmm, _, hi⟩
  · simp [Value.cells] at hcs
    obtain ⟨rfl, rfl, rfl⟩ := hcs
    exact ⟨none, 0, 0, [], rfl, rfl, Nat.zero_le _, Rd.nil _ _⟩
  · simp [Value.cells] at hcs
    obtain ⟨rfl, rfl, rfl⟩ := hcs
    have h5 : Try.prog.cellsOf 76 = 5 := by kernel_rfl
    have hle : n ≤ m := by rw [hmm]; split <;> omega
    have hr : ∀ i, ∃ r : Rec, i < n → ∀ j v, (recC r)[j]? = some v → w.cell? (a.add (i * 5 + j)) = some v := fun i => by
      by_cases hin : i < n
      · obtain ⟨cs', hc, ht⟩ := hi i (by omega)
        obtain ⟨r, rfl⟩ := rec_of_cells ht
        rw [h5] at hc
        obtain ⟨_, hcl, hat⟩ := World.cells?_some hc
        refine ⟨r, fun _ j v hj => ?_⟩
        have hj5 : j < 5 := by
          rcases Nat.lt_or_ge j 5 with h1 | h1
          · exact h1
          · rw [List.getElem?_eq_none (by simpa [recC] using h1)] at hj; cases hj
        have := hat j hj5
        rw [← Go.Deep.add_add, this, hj]
      · exact ⟨rec0, fun h => absurd h hin⟩
    refine ⟨some a, n, c, (List.range n).map (fun i => Classical.choose (hr i)), rfl, by simp, Nat.le_trans hl hm, RR.of_at (n := n) (by simp) (fun k hk j v hj => ?_)⟩
    have hk' : k < n := by simpa using hk
    have := Classical.choose_spec (hr k) hk' j v (by simpa [rn, hk'] using hj)
    exact this
end
end Go.Proofs.Ytaceadddggkkmaa
