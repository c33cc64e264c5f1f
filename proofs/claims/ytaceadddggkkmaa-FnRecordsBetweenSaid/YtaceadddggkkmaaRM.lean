/- A map from ports to ends that the call itself makes: what it holds, and the laws of look-up, store and delete. No conditions. -/
import Derived.Test.YtaceadddggkkmaaBase
import Derived.Test.YtaceadddggkkmaaProg
import Derived.Test.YtaceadddggkkmaaApp
import Derived.Maps.OwnSet
namespace Go.Proofs.Ytaceadddggkkmaa
open Go.RowKit Go.Maps

/-- How an element (an end) reads. -/
def endElem (v : Value) : Option (DataW Unit × List MemPlace) :=
  match v with
  | .agg cs => match cs.toList with
    | [.int .i64 a, .int .i64 b] => some (.agg [.lit (.int .i64 a), .lit (.int .i64 b)], [])
    | _ => none
  | _ => none
theorem endElem_mk (a b : Int) : endElem (.agg #[.int .i64 a, .int .i64 b]) = some (.agg [.lit (.int .i64 a), .lit (.int .i64 b)], []) := rfl
theorem endElem_inv {v : Value} {z : DataW Unit × List MemPlace} (h : endElem v = some z) : ∃ a b, v = .agg #[.int .i64 a, .int .i64 b] ∧ z = (.agg [.lit (.int .i64 a), .lit (.int .i64 b)], []) := by
  unfold endElem at h
  split at h
  · rename_i cs
    split at h
    · rename_i a b hl
      injection h with h
      refine ⟨a, b, ?_, h.symm⟩
      obtain ⟨l⟩ := cs
      simp at hl
      rw [hl]
    · cases h
  · cases h
theorem law : Keyed Try.prog 3 := int_keyed Try.underlying3
theorem zeroEnd (w : World) : (zeroValue 27).run Try.prog w = .ok (.agg #[.int .i64 0, .int .i64 0]) w := by kernel_rfl

/-- Block b is a map of at most n entries that holds f, port by port. -/
def OM (w : World) (b n : Nat) (f : Int → Option (Int × Int)) : Prop :=
  ∃ D : DataW Unit, w.ownsMap Try.prog 3 endElem b n D ∧ ∀ p, (f p = none ∧ Maps.has D (.int .i64 p) = false) ∨ ∃ x y, f p = some (x, y) ∧ Maps.has D (.int .i64 p) = true ∧ ∀ z, D.atKey (.int .i64 p) z = .agg [.lit (.int .i64 x), .lit (.int .i64 y)]
section
variable {w w' : World} {b n : Nat} {f f' : Int → Option (Int × Int)}
theorem OM.congr (h : OM w b n f) (e : ∀ p, f' p = f p) : OM w b n f' := by
  obtain ⟨D, h1, h2⟩ := h
  exact ⟨D, h1, fun p => by rw [e p]; exact h2 p⟩
theorem OM.made (w : World) : OM (w.alloc (.map #[] 0)) w.heap.size 0 (fun _ => none) := ⟨_, World.ownsMap_made _ _ _ _, fun _ => .inl ⟨rfl, rfl⟩⟩
theorem OM.mono (h : OM w b n f) {m : Nat} (hm : n ≤ m) : OM w b m f := by obtain ⟨D, h1, h2⟩ := h; exact ⟨D, h1.mono hm, h2⟩
theorem OM.lt (h : OM w b n f) : b < w.heap.size := by obtain ⟨D, h1, _⟩ := h; exact h1.lt
theorem OM.kept {row : Option Nat} (h : OM w b n f) (hg : w.grownBy w' row) (hne : some b ≠ row) : OM w' b n f := by obtain ⟨D, h1, h2⟩ := h; exact ⟨D, h1.kept hg hne, h2⟩
theorem OM.alloc (h : OM w b n f) (o : Obj) : OM (w.alloc o) b n f := h.kept (World.grownBy_alloc w o none) (by simp)
theorem OM.to (h : OM w b n f) (hb : Below w.heap.size w w') : OM w' b n f := h.kept (grown_of_below hb none) (by simp)
theorem OM.drewN (h : OM w b n f) (k : Nat) : OM (w.drewN k) b n f := h.to (Bl.of_drewN w k)
theorem OM.far (h : OM w b n f) {p : Addr} (hp : b ≠ p.block) (u : Value) : OM (w.setCell p u) b n f := by obtain ⟨D, h1, h2⟩ := h; exact ⟨D, h1.setCell hp u, h2⟩
end
section
variable {P : Program} {w : World} {ops : Array Oper} {rest : List Oper} {o : Oper} {a : Act} {Q : Exit → Act → World → Prop} {b n : Nat} {f : Int → Option (Int × Int)}
theorem key_wf {p : Int} (h1 : -9223372036854775808 ≤ p) (h2 : p ≤ 9223372036854775807) : keyOf Try.prog 3 (.int .i64 p) = some (.int .i64 p) := keyOf_int_mk Try.underlying3 (WalkArith.wf_i64 ⟨h1, h2⟩)
theorem wpList_look_none (hg : o.guard = none) (m x : Operand) (hop : o.op = Op.lookup 70 m x true) (hm : a.eval m = .map (some b)) (hown : OM w b n f) (p : Int) (hx : a.eval x = .int .i64 p)
    (h1 : -9223372036854775808 ≤ p) (h2 : p ≤ 9223372036854775807) (hf : f p = none) (hK : wpList Try.prog ops Q rest (a.put o.dst (.tuple #[.agg #[.int .i64 0, .int .i64 0], .bool false])) w) : wpList Try.prog ops Q (o :: rest) a w := by
  obtain ⟨D, hD, hv⟩ := hown
  have hh : Maps.has D (.int .i64 p) = false := by
    rcases hv p with ⟨_, h⟩ | ⟨x, y, e, _⟩
    · exact h
    · rw [hf] at e; cases e
  refine wpList_lookup_own_ok w hg m x _ hop 3 27 law Try.underlying70 endElem (zeroEnd _) _ _ (endElem_mk 0 0) b n D hm hD _ _ hx (key_wf h1 h2) (fun v ps hv => ?_)
  rw [atKey_of_not_has hh] at hv
  obtain ⟨c, d, rfl, e⟩ := endElem_inv hv
  rw [hh]
  injection e with e _
  injection e with e
  simp at e
  rw [← e.1, ← e.2]
  exact hK
theorem wpList_look_some (hg : o.guard = none) (m x : Operand) (hop : o.op = Op.lookup 70 m x true) (hm : a.eval m = .map (some b)) (hown : OM w b n f) (p : Int) (hx : a.eval x = .int .i64 p)
    (h1 : -9223372036854775808 ≤ p) (h2 : p ≤ 9223372036854775807) (c d : Int) (hf : f p = some (c, d)) (hK : wpList Try.prog ops Q rest (a.put o.dst (.tuple #[.agg #[.int .i64 c, .int .i64 d], .bool true])) w) : wpList Try.prog ops Q (o :: rest) a w := by
  obtain ⟨D, hD, hv⟩ := hown
  have hh : Maps.has D (.int .i64 p) = true ∧ ∀ z, D.atKey (.int .i64 p) z = .agg [.lit (.int .i64 c), .lit (.int .i64 d)] := by
    rcases hv p with ⟨e, _⟩ | ⟨x, y, e, h⟩
    · rw [hf] at e; cases e
    · rw [hf] at e; injection e with e; injection e with e1 e2; subst e1 e2; exact h
  refine wpList_lookup_own_ok w hg m x _ hop 3 27 law Try.underlying70 endElem (zeroEnd _) _ _ (endElem_mk 0 0) b n D hm hD _ _ hx (key_wf h1 h2) (fun v ps hv => ?_)
  rw [hh.2] at hv
  obtain ⟨c', d', rfl, e⟩ := endElem_inv hv
  rw [hh.1]
  injection e with e _
  injection e with e
  simp at e
  rw [← e.1, ← e.2]
  exact hK
theorem wpList_store_end (hg : o.guard = none) (m x v : Operand) (hop : o.op = Op.mapUpdate 70 m x v) (hm : a.eval m = .map (some b)) (hown : OM w b n f) (hn : n ≤ 1099511627776) (p c d : Int) (hx : a.eval x = .int .i64 p)
    (hv : a.eval v = .agg #[.int .i64 c, .int .i64 d]) (h1 : -9223372036854775808 ≤ p) (h2 : p ≤ 9223372036854775807)
    (hK : ∀ w', OM w' b (n + 1) (fun q => if p = q then some (c, d) else f q) → w.grownBy w' (some b) → wpList Try.prog ops Q rest (a.put o.dst undef) w') : wpList Try.prog ops Q (o :: rest) a w := by
  obtain ⟨D, hD, hf⟩ := hown
  refine wpList_mapUpdate_in w hg m x v _ hop 3 27 law Try.underlying70 endElem b n D hm hD (by unfold maxLen; omega) _ _ _ hx hv (key_wf h1 h2) _ _ (endElem_mk c d) (fun w' h' ht => hK w' ⟨_, h', fun q => ?_⟩ ht.grown)
  by_cases hq : p = q
  · subst hq
    dsimp only
    exact .inr ⟨c, d, if_pos rfl, has_put_same hD.isMap (show WideAt.IsKeyLit (.int .i64 p) from trivial) _, fun z => atKey_put_same hD.isMap (show WideAt.IsKeyLit (.int .i64 p) from trivial) _ _⟩
  · have hne : (Lit.int .i64 q) ≠ .int .i64 p := fun e => hq (by injection e with _ e; exact e.symm)
    dsimp only
    rw [if_neg hq, has_put_other hne]
    rcases hf q with h | ⟨x, y, e, h3, h4⟩
    · exact .inl h
    · exact .inr ⟨x, y, e, h3, fun z => by rw [atKey_put_other hne]; exact h4 z⟩
theorem wpList_drop_end (hg : o.guard = none) (m x : Operand) (hop : o.op = Op.call { callee := Callee.builtin Builtin.delete, args := #[m, x], argTypes := #[70, 3] }) (hm : a.eval m = .map (some b)) (hown : OM w b n f) (p : Int)
    (hx : a.eval x = .int .i64 p) (h1 : -9223372036854775808 ≤ p) (h2 : p ≤ 9223372036854775807)
    (hK : ∀ w', OM w' b n (fun q => if p = q then none else f q) → w.grownBy w' (some b) → wpList Try.prog ops Q rest (a.put o.dst (.tuple #[])) w') : wpList Try.prog ops Q (o :: rest) a w := by
  obtain ⟨D, hD, hf⟩ := hown
  refine wpList_delete_own w hg m x _ _ hop 27 law Try.underlying70 endElem b n D hm hD _ _ hx (key_wf h1 h2) (fun w' h' ht => hK w' ⟨_, h', fun q => ?_⟩ ht.grown)
  by_cases hq : p = q
  · subst hq
    dsimp only
    exact .inl ⟨if_pos rfl, has_del_same⟩
  · have hne : (Lit.int .i64 q) ≠ .int .i64 p := fun e => hq (by injection e with _ e; exact e.symm)
    dsimp only
    rw [if_neg hq, has_del_other hne]
    rcases hf q with h | ⟨x, y, e, h3, h4⟩
    · exact .inl h
    · exact .inr ⟨x, y, e, h3, fun z => by rw [atKey_del_other hne]; exact h4 z⟩
end
end Go.Proofs.Ytaceadddggkkmaa
