/- Contract of the generator: records. -/
import Derived.Test.YthlaldikdlljfaaDoorRG1
import Derived.Test.YthlaldikdlljfaaDoorR7
namespace Go.Proofs.YthlaldikdlljfaaDoor
open Go.RowKit

/-- What a generator of records leaves. -/
def GenR (w : World) (g p k : Nat) (e : Ending) (w' : World) : Prop :=
  ∃ A n c l p', e = .returned (.slice A n c) ∧ l.length = n ∧ n ≤ c ∧ RR w' A l ∧ n ≤ 20 ∧ Rdr w' g p' ∧ p' ≤ p + k ∧ w.grownBy w' (some g) ∧ ∀ a, A = some a → w.heap.size ≤ a.block
theorem RR.grown {w w' : World} {A : Option Addr} {l : List Rec} {g : Nat} (h : RR w A l) (hg : w.grownBy w' (some g)) (hne : ∀ a, A = some a → a.block ≠ g) : RR w' A l := fun k v hk => by
  obtain ⟨b, off, rfl, hlt, hc⟩ := h k v hk
  exact ⟨b, off, rfl, Nat.lt_of_lt_of_le hlt hg.size, (World.cell?_of_block (w := w) (a := ⟨b, off + k, none⟩) (hg.block b hlt (fun e => hne _ rfl (by injection e)))).trans hc⟩
theorem rn_set {l : List Rec} {r : Rec} {y k : Nat} (hk : k < l.length) : rn (l.set y r) k = if k = y then r else rn l k := by
  unfold rn
  rw [List.getElem?_set]
  by_cases h : y = k
  · subst h
    rw [if_pos rfl, if_pos rfl, if_pos hk]; rfl
  · rw [if_neg h, if_neg (fun e => h e.symm)]
theorem rec_sets {l : List Rec} {cur : Array Value} (h : ∀ j, j < l.length * 5 → cur[j]? = (recCs l)[j]?) (r : Rec) {y : Nat} (hy : y < l.length) :
    ∀ j, j < (l.set y r).length * 5 → (((((cur.setIfInBounds (y * 5) (.int .i64 r.at_)).setIfInBounds (y * 5 + 1) (.int .i64 r.po)).setIfInBounds (y * 5 + 2) (.int .i64 r.ad)).setIfInBounds (y * 5 + 3) (.int .i64 r.ep)).setIfInBounds (y * 5 + 4) (.bool r.ov))[j]? = (recCs (l.set y r))[j]? := by
  intro j hj
  rw [List.length_set] at hj
  have hsz : ∀ i, i < 5 → y * 5 + i < cur.size := fun i hi => by
    have := h (y * 5 + i) (by omega)
    rw [List.getElem?_eq_getElem (by rw [recCs_len]; omega)] at this
    exact (Array.getElem?_eq_some_iff.1 this).1
  have e : j = j / 5 * 5 + j % 5 := by omega
  have hi5 : j % 5 < 5 := Nat.mod_lt _ (by omega)
  have hjl : j / 5 < l.length := by omega
  generalize j / 5 = q at e hjl
  generalize j % 5 = i at e hi5
  subst e
  rw [recCs_at (by rw [List.length_set]; exact hjl) hi5, rn_set hjl]
  have h4 := hsz 4 (by omega)
  simp only [Array.getElem?_setIfInBounds, Array.size_setIfInBounds]
  by_cases hq : q = y
  · subst hq
    rw [if_pos rfl]
    rcases i with _ | _ | _ | _ | _ | i
    · rw [if_neg (by omega), if_neg (by omega), if_neg (by omega), if_neg (by omega), if_pos (by omega), if_pos (by omega)]; rfl
    · rw [if_neg (by omega), if_neg (by omega), if_neg (by omega), if_pos (by omega), if_pos (by omega)]; rfl
    · rw [if_neg (by omega), if_neg (by omega), if_pos (by omega), if_pos (by omega)]; rfl
    · rw [if_neg (by omega), if_pos (by omega), if_pos (by omega)]; rfl
    · rw [if_pos (by omega), if_pos (by omega)]; rfl
    · omega
  · rw [if_neg (by omega), if_neg (by omega), if_neg (by omega), if_neg (by omega), if_neg (by omega), if_neg hq, h _ (by omega), recCs_at hjl hi5]

end Go.Proofs.YthlaldikdlljfaaDoor
