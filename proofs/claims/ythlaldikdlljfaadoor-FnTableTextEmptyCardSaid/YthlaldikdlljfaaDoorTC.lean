/- How a slice reads as mappings. No conditions. -/
import Derived.Test.YthlaldikdlljfaaDoorTP
import Derived.Test.YthlaldikdlljfaaDoorRow
namespace Go.Proofs.YthlaldikdlljfaaDoor
open Go.RowKit

/-- The cells of a mapping. -/
def mapC (r : Mpg) : List Value := [.int .i64 r.ad, .int .i64 r.ep, .int .i64 r.po, .int .i64 r.la]
def mapCs (l : List Mpg) : List Value := l.flatMap mapC
/-- A mapping by value. -/
def mapV (r : Mpg) : Value := .agg #[.int .i64 r.ad, .int .i64 r.ep, .int .i64 r.po, .int .i64 r.la]
/-- The cells behind A begin with the mappings l. -/
def TM (w : World) (A : Option Addr) (l : List Mpg) : Prop := Rd w A (mapCs l)
theorem mapC_len (r : Mpg) : (mapC r).length = 4 := rfl
theorem mapCs_len (l : List Mpg) : (mapCs l).length = l.length * 4 := by
  induction l with
  | nil => rfl
  | cons r l ih => unfold mapCs at ih ⊢; rw [List.flatMap_cons, List.length_append, ih, mapC_len, List.length_cons]; omega
theorem mapCs_app (l m : List Mpg) : mapCs (l ++ m) = mapCs l ++ mapCs m := by unfold mapCs; rw [List.flatMap_append]
theorem mapCs_at {l : List Mpg} : ∀ {k j : Nat}, k < l.length → j < 4 → (mapCs l)[k * 4 + j]? = (mapC (mn l k))[j]? := by
  induction l with
  | nil => intro k j hk; cases hk
  | cons r l ih =>
    intro k j hk hj
    unfold mapCs
    rw [List.flatMap_cons]
    cases k with
    | zero => rw [Nat.zero_mul, Nat.zero_add, List.getElem?_append_left (by rw [mapC_len]; exact hj)]; rfl
    | succ k =>
      rw [List.getElem?_append_right (by rw [mapC_len]; omega), mapC_len, show (k + 1) * 4 + j - 4 = k * 4 + j by omega]
      have := ih (k := k) (j := j) (by simpa using hk) hj
      unfold mapCs at this
      rw [this]
      simp [mn]
section
variable {w w' : World} {A : Option Addr} {l : List Mpg}
theorem TM.nil (w : World) (A : Option Addr) : TM w A [] := Rd.nil w A
theorem TM.to (h : TM w A l) (hb : Below w.heap.size w w') : TM w' A l := Rd.to h hb
theorem TM.alloc (h : TM w A l) (o : Obj) : TM (w.alloc o) A l := Rd.alloc h o
theorem TM.drewN (h : TM w A l) (n : Nat) : TM (w.drewN n) A l := h
theorem TM.take (h : TM w A l) (k : Nat) : TM w A (l.take k) := fun i v hi => h i v (by
  have hle : l.take k ++ l.drop k = l := List.take_append_drop k l
  rw [← hle, mapCs_app]
  rw [List.getElem?_append_left]
  · exact hi
  · rcases Nat.lt_or_ge i (mapCs (l.take k)).length with h1 | h1
    · exact h1
    · rw [List.getElem?_eq_none h1] at hi; cases hi)
/-- The cells of the k-th mapping. -/
theorem TM.get (h : TM w A l) {k : Nat} (hk : k < l.length) :
    ∃ b off, A = some ⟨b, off, none⟩ ∧ b < w.heap.size ∧ w.cell? ⟨b, off + k * 4, none⟩ = some (.int .i64 (mn l k).ad) ∧ w.cell? ⟨b, off + k * 4 + 1, none⟩ = some (.int .i64 (mn l k).ep) ∧
      w.cell? ⟨b, off + k * 4 + 2, none⟩ = some (.int .i64 (mn l k).po) ∧ w.cell? ⟨b, off + k * 4 + 3, none⟩ = some (.int .i64 (mn l k).la) := by
  have hc : ∀ j v, j < 4 → (mapC (mn l k))[j]? = some v → ∃ b off, A = some ⟨b, off, none⟩ ∧ b < w.heap.size ∧ w.cell? ⟨b, off + (k * 4 + j), none⟩ = some v := fun j v hj hv => h _ v ((mapCs_at hk hj).trans hv)
  obtain ⟨b, off, rfl, hb, h0⟩ := hc 0 _ (by omega) rfl
  obtain ⟨_, _, e1, _, h1⟩ := hc 1 _ (by omega) rfl
  obtain ⟨_, _, e2, _, h2⟩ := hc 2 _ (by omega) rfl
  obtain ⟨_, _, e3, _, h3⟩ := hc 3 _ (by omega) rfl
  cases e1; cases e2; cases e3
  exact ⟨b, off, rfl, hb, by simpa using h0, by simpa [Nat.add_assoc] using h1, by simpa [Nat.add_assoc] using h2, by simpa [Nat.add_assoc] using h3⟩
theorem TM.c4 {b off : Nat} {k : Nat} (h : TM w (some ⟨b, off, none⟩) l) (hk : k < l.length) :
    w.cell? ⟨b, off + k * 4, none⟩ = some (.int .i64 (mn l k).ad) ∧ w.cell? ⟨b, off + k * 4 + 1, none⟩ = some (.int .i64 (mn l k).ep) ∧ w.cell? ⟨b, off + k * 4 + 2, none⟩ = some (.int .i64 (mn l k).po) ∧ w.cell? ⟨b, off + k * 4 + 3, none⟩ = some (.int .i64 (mn l k).la) := by
  obtain ⟨b', off', e, _, h⟩ := h.get hk
  cases e
  exact h
theorem TM.of_at {a : Addr} {n : Nat} (hn : l.length = n) (h : ∀ k, k < l.length → ∀ j v, (mapC (mn l k))[j]? = some v → w.cell? (a.add (k * 4 + j)) = some v) : TM w (some a) l := fun i v hi => by
  have hil : i < l.length * 4 := by
    rcases Nat.lt_or_ge i (l.length * 4) with h1 | h1
    · exact h1
    · rw [List.getElem?_eq_none (by rw [mapCs_len]; exact h1)] at hi; cases hi
  have hk : i / 4 < l.length := by omega
  have e : i / 4 * 4 + i % 4 = i := by omega
  have hc := h (i / 4) hk (i % 4) v (by rw [← mapCs_at hk (by omega), e]; exact hi)
  have h00 := h 0 (by omega) 0 _ rfl
  rw [e] at hc
  exact (fun ⟨b, off, hx, hlt, hcc⟩ => ⟨b, off, by rw [hx], hlt, hcc⟩) (cell_of_add hc (spot_of_cell0 h00))
end
end Go.Proofs.YthlaldikdlljfaaDoor
