/- A map from ports to ends under a range loop; the sort of a row of the call's own. No conditions but those that each states. -/
import Derived.Test.YtaceadddggkkmaaRM
import Derived.Test.YtaceadddggkkmaaRS
import Derived.Test.YtaceadddggkkmaaGen2
import Derived.Maps.RangeWalk
import Derived.Sort.OwnSortedInts
namespace Go.Proofs.Ytaceadddggkkmaa
open Go.RowKit Go.Maps

theorem c_Sort (base : Nat) (v : Value) (ss : List Int) (w : World) (ho : w.ownsRow base 3 1 v ss.length (ss.map (Value.int .i64))) (hs : ss.length ≤ 1099511627776) :
    Calls Try.prog 74 #[v] w fun e w' => e = .returned (.tuple #[]) ∧ w'.ownsRow base 3 1 v ss.length ((ss.mergeSort fun x y => decide (x ≤ y)).map (Value.int .i64)) ∧ w.grownBy w' v.ownBlock := by
  rcases ho.2 with ⟨hv, h0⟩ | ⟨g, cap, cur, hv, hg, hh, h1, h2, h3, ht⟩
  · subst hv
    have hl : ss = [] := List.eq_nil_of_length_eq_zero h0
    subst hl
    refine (Try.slices_Sort_int_none none 0 w).mono ?_
    rintro e w' ⟨rfl, rfl⟩
    exact ⟨rfl, by simpa using ho, World.grownBy.refl _ _⟩
  · subst hv
    have hlt : g < w.heap.size := (Array.getElem?_eq_some_iff.1 hh).1
    refine (Try.slices_Sort_int g 0 cap ss w (holds_of_blockI hh (by rw [Nat.mul_one] at ht; exact ht)) hlt (by omega)).mono ?_
    rintro e w' ⟨rfl, n, os, rfl⟩
    exact ⟨rfl, ownsRow_sortedI (by rw [List.length_mergeSort]) hg hh h1 h2 h3, grownBy_sortedI _⟩

/-- A range loop over block b, a map that holds f: the ports ss have come, cnt are still to come. -/
def RGE (w : World) (b r n : Nat) (f : Int → Option (Int × Int)) (ss : List Int) (cnt : Nat) : Prop :=
  ∃ (D : DataW Unit) (left : Lit → Bool), w.ranges Try.prog 3 endElem b r n D left cnt ∧ (∀ p, (f p).isSome = Maps.has D (.int .i64 p)) ∧ ss.Nodup ∧ (∀ x, x ∈ ss ↔ ((f x).isSome = true ∧ left (.int .i64 x) = false)) ∧ ss.length + cnt ≤ n
section
variable {P : Program} {w w' : World} {ops : Array Oper} {rest : List Oper} {o : Oper} {a : Act} {Q : Exit → Act → World → Prop} {b r n cnt : Nat} {f : Int → Option (Int × Int)} {ss : List Int}
theorem RGE.kept {row : Option Nat} (h : RGE w b r n f ss cnt) (hg : w.grownBy w' row) (hb : some b ≠ row) (hr : some r ≠ row) : RGE w' b r n f ss cnt := by
  obtain ⟨D, left, h1, h2⟩ := h
  exact ⟨D, left, h1.kept hg hb hr, h2⟩
theorem RGE.alloc (h : RGE w b r n f ss cnt) (o : Obj) : RGE (w.alloc o) b r n f ss cnt := h.kept (World.grownBy_alloc w o none) (by simp) (by simp)
theorem RGE.len (h : RGE w b r n f ss cnt) : ss.length ≤ n := by obtain ⟨_, _, _, _, _, _, h⟩ := h; omega
theorem RGE.left_eq (h : RGE w b r n f ss cnt) : w.rangeLeft b r = cnt := by obtain ⟨_, _, h, _⟩ := h; exact h.left_eq
theorem wpList_range_OM (hg : o.guard = none) (m : Operand) (hop : o.op = Op.range 70 m) (hm : a.eval m = .map (some b)) (hown : OM w b n f)
    (hK : ∀ w' c, RGE w' b w.heap.size n f [] c → w.grownBy w' none → w'.heap.size = w.heap.size + 1 → wpList Try.prog ops Q rest (a.put o.dst (.pointer (some ⟨w.heap.size, 0, none⟩))) w') : wpList Try.prog ops Q (o :: rest) a w := by
  obtain ⟨D, hD, hv⟩ := hown
  have hf : ∀ p, (f p).isSome = Maps.has D (.int .i64 p) := fun p => by
    rcases hv p with ⟨e, h⟩ | ⟨x, y, e, h, _⟩
    · rw [e, h]; rfl
    · rw [e, h]; rfl
  refine wpList_range_own w hg m _ hop 3 27 law Try.underlying70 endElem b n D hm hD (fun w' h1 h2 h3 => hK w' (Maps.size D) ⟨D, _, h1, hf, List.nodup_nil, fun x => ?_, by simpa using hD.size_le⟩ h2 h3)
  rw [hf x]
  cases Maps.has D (.int .i64 x) <;> simp
theorem wpList_next_OM (hg : o.guard = none) (it : Operand) (hop : o.op = Op.next it false) (hit : a.eval it = .pointer (some ⟨r, 0, none⟩)) (h : RGE w b r n f ss cnt)
    (hDone : (∀ x, x ∈ ss ↔ (f x).isSome = true) → wpList Try.prog ops Q rest (a.put o.dst (.tuple #[.bool false])) w)
    (hMore : ∀ (x c d : Int) (w' : World) (cnt' : Nat), RGE w' b r n f (ss ++ [x]) cnt' → cnt' < cnt → w.grownBy w' (some r) → w'.heap.size = w.heap.size →
      (Instr.entry (.pointer (some ⟨r, 0, none⟩))).run Try.prog w' = .ok (.tuple #[.int .i64 x, .agg #[.int .i64 c, .int .i64 d]]) w' → wpList Try.prog ops Q rest (a.put o.dst (.tuple #[.bool true, .int .i64 x, .agg #[.int .i64 c, .int .i64 d]])) w') :
    wpList Try.prog ops Q (o :: rest) a w := by
  obtain ⟨D, left, hr, hf, hnd, hm, hl⟩ := h
  refine wpList_next_ranges w hg it hop 3 law endElem (Value.int .i64) (fun q : Int × Int => .agg #[.int .i64 q.1, .int .i64 q.2]) (fun key kl hk => by obtain ⟨x, rfl, _⟩ := Maps.keyOf_int_inv Try.underlying3 hk; exact ⟨x, rfl⟩)
    (fun v y hv => by obtain ⟨c, d, rfl, _⟩ := endElem_inv hv; exact ⟨(c, d), rfl⟩) b r n D left cnt hit hr (fun _ hl0 => hDone (fun x => by rw [hm x, hl0]; simp)) ?_
  intro x c kl y w' cnt' hkey hlk _ hat hrg hlt hgr hsz hen
  obtain ⟨x', ex, rfl, _⟩ := Maps.keyOf_int_inv Try.underlying3 hkey
  cases ex
  have hhas : Maps.has D (.int .i64 x) = true := has_true_of_atKey hat
  have hnew : x ∉ ss := fun hx => by have := ((hm x).1 hx).2; rw [hlk] at this; cases this
  refine hMore x c.1 c.2 w' cnt' ⟨D, _, hrg, hf, List.nodup_append.2 ⟨hnd, by simp, fun a ha b hb => by simp at hb; subst hb; exact fun e => hnew (e ▸ ha)⟩, fun y => ?_, by simp; omega⟩ hlt hgr hsz hen
  by_cases hy : y = x
  · subst hy; simp [hf, hhas, Lit.sameKey]
  · simp [hm y, hy, Lit.sameKey]
end
end Go.Proofs.Ytaceadddggkkmaa
