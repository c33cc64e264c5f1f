/- Opening a slice of mappings that a law takes. -/
import Derived.Test.YthlaldikdlljfaaDoorTC
import Derived.Test.YthlaldikdlljfaaDoorProg
import Derived.WalkKit
import Derived.ProofKit
import Derived.OpenShut
import Derived.ChangeOld
import Derived.Deep.Slices
import Derived.Deep.Fields
import Derived.ChangeSame
namespace Go.Proofs.YthlaldikdlljfaaDoor

section
open Go.ChangeShapes Go.WideShapes Go.ChangeAt Go.RowKit Go.Deep
variable {H : Type} {enc : TypeId × Value → H} {w : World} {base : Nat} {spare : Nat → Bool} {held : Bool}
set_option maxRecDepth 100000 in
theorem map_of_cells {n : Nat} {cs : List Value} {x : DataW H × List MemPlace} (ht : DataW.trod enc Tryd.prog w base spare held n 71 cs = some x) : ∃ r : Mpg, cs = mapC r := by
  obtain ⟨xs, n', _, _, hl, hlen, hg⟩ := DataW.trod_struct Tryd.underlying71 ht
  have h4 : Tryd.prog.cellsOf 71 = 4 := by kernel_rfl
  have h2 : Tryd.prog.cellsOf 23 = 2 := by kernel_rfl
  have h1 : Tryd.prog.cellsOf 3 = 1 := by kernel_rfl
  rw [h4] at hl
  match cs, hl with
  | [c0, c1, c2, c3], _ =>
    match xs, hlen with
    | [y0, y1, y2], _ =>
      have g0 : DataW.trod enc Tryd.prog w base spare held n' 23 [c0, c1] = some y0 := by simpa [h2] using hg 0 _ rfl
      have g1 : DataW.trod enc Tryd.prog w base spare held n' 3 [c2] = some y1 := by simpa [h1, h2] using hg 1 _ rfl
      have g2 : DataW.trod enc Tryd.prog w base spare held n' 3 [c3] = some y2 := by simpa [h1, h2] using hg 2 _ rfl
      obtain ⟨z0, z1, m, _, _, e0, e1⟩ := trod_struct2 Tryd.underlying23 g0
      obtain ⟨a0, k0, _⟩ := DataW.trod_int Tryd.underlying3 e0
      obtain ⟨a1, k1, _⟩ := DataW.trod_int Tryd.underlying3 e1
      obtain ⟨a2, k2, _⟩ := DataW.trod_int Tryd.underlying3 g1
      obtain ⟨a3, k3, _⟩ := DataW.trod_int Tryd.underlying3 g2
      simp [h1] at k0 k1 k2 k3
      subst k0 k1 k2 k3
      exact ⟨⟨a0, a1, a2, a3⟩, rfl⟩
set_option maxRecDepth 100000 in
/-- A slice of mappings that a law takes. -/
theorem open_maps {r : Reach} {b0 : Nat} {v : Value} {d : DataW H} {p : List MemPlace} (hv : Value.okWide Tryd.prog w r b0 38 v) (h : DataW.Trod enc Tryd.prog w base spare held 38 v d p) :
    ∃ A n c l, v = .slice A n c ∧ l.length = n ∧ n ≤ maxLen ∧ TM w A l := by
  obtain ⟨A, n, c, rfl⟩ := okWide_slice Tryd.underlying38 hv
  obtain ⟨fuel, hf⟩ := h
  rcases open_slice Tryd.underlying38 hf with ⟨hcs, _⟩ | ⟨a, len, cap, m, n', D, Pl, hcs, hb, hl, hm, hmm, _, hi⟩
  · simp [Value.cells] at hcs
    obtain ⟨rfl, rfl, rfl⟩ := hcs
    exact ⟨none, 0, 0, [], rfl, rfl, Nat.zero_le _, Rd.nil _ _⟩
  · simp [Value.cells] at hcs
    obtain ⟨rfl, rfl, rfl⟩ := hcs
    have h4 : Tryd.prog.cellsOf 71 = 4 := by kernel_rfl
    have hle : n ≤ m := by rw [hmm]; split <;> omega
    have hr : ∀ i, ∃ r : Mpg, i < n → ∀ j v, (mapC r)[j]? = some v → w.cell? (a.add (i * 4 + j)) = some v := fun i => by
      by_cases hin : i < n
      · obtain ⟨cs', hc, ht⟩ := hi i (by omega)
        obtain ⟨r, rfl⟩ := map_of_cells ht
        rw [h4] at hc
        obtain ⟨_, hcl, hat⟩ := World.cells?_some hc
        refine ⟨r, fun _ j v hj => ?_⟩
        have hj5 : j < 4 := by
          rcases Nat.lt_or_ge j 4 with h1 | h1
          · exact h1
          · rw [List.getElem?_eq_none (by simpa [mapC] using h1)] at hj; cases hj
        have := hat j hj5
        rw [← Go.Deep.add_add, this, hj]
      · exact ⟨mpg0, fun h => absurd h hin⟩
    refine ⟨some a, n, c, (List.range n).map (fun i => Classical.choose (hr i)), rfl, by simp, Nat.le_trans hl hm, TM.of_at (n := n) (by simp) (fun k hk j v hj => ?_)⟩
    have hk' : k < n := by simpa using hk
    have := Classical.choose_spec (hr k) hk' j v (by simpa [mn, hk'] using hj)
    exact this
end
end Go.Proofs.YthlaldikdlljfaaDoor
