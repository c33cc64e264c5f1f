/- How a slice reads as records. No conditions. -/
import Derived.Test.YthlaldikdlljfaaDoorRP
import Derived.Test.YthlaldikdlljfaaDoorRow
namespace Go.Proofs.YthlaldikdlljfaaDoor
open Go.RowKit

/-- The cells of a record. -/
def recC (r : Rec) : List Value := [.int .i64 r.at_, .int .i64 r.po, .int .i64 r.ad, .int .i64 r.ep, .bool r.ov]
def recCs (l : List Rec) : List Value := l.flatMap recC
/-- A record by value. -/
def recV (r : Rec) : Value := .agg #[.int .i64 r.at_, .int .i64 r.po, .int .i64 r.ad, .int .i64 r.ep, .bool r.ov]
/-- The cells behind A begin with the records l. -/
def RR (w : World) (A : Option Addr) (l : List Rec) : Prop := Rd w A (recCs l)
theorem recC_len (r : Rec) : (recC r).length = 5 := rfl
theorem recCs_len (l : List Rec) : (recCs l).length = l.length * 5 := by
  induction l with
  | nil => rfl
  | cons r l ih => unfold recCs at ih ⊢; rw [List.flatMap_cons, List.length_append, ih, recC_len, List.length_cons]; omega
theorem recCs_app (l m : List Rec) : recCs (l ++ m) = recCs l ++ recCs m := by unfold recCs; rw [List.flatMap_append]
theorem recCs_at {l : List Rec} : ∀ {k j : Nat}, k < l.length → j < 5 → (recCs l)[k * 5 + j]? = (recC (rn l k))[j]? := by
  induction l with
  | nil => intro k j hk; cases hk
  | cons r l ih =>
    intro k j hk hj
    unfold recCs
    rw [List.flatMap_cons]
    cases k with
    | zero => rw [Nat.zero_mul, Nat.zero_add, List.getElem?_append_left (by rw [recC_len]; exact hj)]; rfl
    | succ k =>
      rw [List.getElem?_append_right (by rw [recC_len]; omega), recC_len, show (k + 1) * 5 + j - 5 = k * 5 + j by omega]
      have := ih (k := k) (j := j) (by simpa using hk) hj
      unfold recCs at this
      rw [this]
      simp [rn]
section
variable {w w' : World} {A : Option Addr} {l : List Rec}
theorem RR.nil (w : World) (A : Option Addr) : RR w A [] := Rd.nil w A
theorem RR.to (h : RR w A l) (hb : Below w.heap.size w w') : RR w' A l := Rd.to h hb
theorem RR.alloc (h : RR w A l) (o : Obj) : RR (w.alloc o) A l := Rd.alloc h o
theorem RR.drewN (h : RR w A l) (n : Nat) : RR (w.drewN n) A l := h
theorem RR.take (h : RR w A l) (k : Nat) : RR w A (l.take k) := fun i v hi => h i v (by
  have hle : l.take k ++ l.drop k = l := List.take_append_drop k l
  rw [← hle, recCs_app]
  rw [List.getElem?_append_left]
  · exact hi
  · rcases Nat.lt_or_ge i (recCs (l.take k)).length with h1 | h1
    · exact h1
    · rw [List.getElem?_eq_none h1] at hi; cases hi)
/-- The cells of the k-th record. -/
theorem RR.get (h : RR w A l) {k : Nat} (hk : k < l.length) :
    ∃ b off, A = some ⟨b, off, none⟩ ∧ b < w.heap.size ∧ w.cell? ⟨b, off + k * 5, none⟩ = some (.int .i64 (rn l k).at_) ∧ w.cell? ⟨b, off + k * 5 + 1, none⟩ = some (.int .i64 (rn l k).po) ∧
      w.cell? ⟨b, off + k * 5 + 2, none⟩ = some (.int .i64 (rn l k).ad) ∧ w.cell? ⟨b, off + k * 5 + 3, none⟩ = some (.int .i64 (rn l k).ep) ∧ w.cell? ⟨b, off + k * 5 + 4, none⟩ = some (.bool (rn l k).ov) := by
  have hc : ∀ j v, j < 5 → (recC (rn l k))[j]? = some v → ∃ b off, A = some ⟨b, off, none⟩ ∧ b < w.heap.size ∧ w.cell? ⟨b, off + (k * 5 + j), none⟩ = some v := fun j v hj hv => h _ v ((recCs_at hk hj).trans hv)
  obtain ⟨b, off, rfl, hb, h0⟩ := hc 0 _ (by omega) rfl
  obtain ⟨_, _, e1, _, h1⟩ := hc 1 _ (by omega) rfl
  obtain ⟨_, _, e2, _, h2⟩ := hc 2 _ (by omega) rfl
  obtain ⟨_, _, e3, _, h3⟩ := hc 3 _ (by omega) rfl
  obtain ⟨_, _, e4, _, h4⟩ := hc 4 _ (by omega) rfl
  cases e1; cases e2; cases e3; cases e4
  exact ⟨b, off, rfl, hb, by simpa using h0, by simpa [Nat.add_assoc] using h1, by simpa [Nat.add_assoc] using h2, by simpa [Nat.add_assoc] using h3, by simpa [Nat.add_assoc] using h4⟩
theorem RR.of_at {a : Addr} {n : Nat} (hn : l.length = n) (h : ∀ k, k < l.length → ∀ j v, (recC (rn l k))[j]? = some v → w.cell? (a.add (k * 5 + j)) = some v) : RR w (some a) l := fun i v hi => by
  have hil : i < l.length * 5 := by
    rcases Nat.lt_or_ge i (l.length * 5) with h1 | h1
    · exact h1
    · rw [List.getElem?_eq_none (by rw [recCs_len]; exact h1)] at hi; cases hi
  have hk : i / 5 < l.length := by omega
  have e : i / 5 * 5 + i % 5 = i := by omega
  have hc := h (i / 5) hk (i % 5) v (by rw [← recCs_at hk (by omega), e]; exact hi)
  have h00 := h 0 (by omega) 0 _ rfl
  rw [e] at hc
  exact (fun ⟨b, off, hx, hlt, hcc⟩ => ⟨b, off, by rw [hx], hlt, hcc⟩) (cell_of_add hc (spot_of_cell0 h00))
end
end Go.Proofs.YthlaldikdlljfaaDoor
