/- append onto a row of the call's own, from whatever slice reads as a list. No conditions. -/
import Derived.Test.YthlaldikdlljfaaDoorBase
import Derived.Maps.AppendAt
import Derived.Laws.MakeOwn
namespace Go.Proofs.YthlaldikdlljfaaDoor
open Go.RowKit

theorem Rd.news {w : World} {ad : Addr} {vs : List Value} (h : Rd w (some ad) vs) : ∀ j u, vs[j]? = some u → w.cell? (ad.add j) = some u := by
  intro j u hj
  obtain ⟨b, off, e, _, hc⟩ := h j u hj
  injection e with e
  subst e
  unfold Addr.add
  split
  · rename_i h0; subst h0; simpa using hc
  · simpa using hc

section
variable {P : Program} (w : World)
theorem run_append_of_nil (base : Nat) (t ty e : TypeId) (i : TypeInfo) (size : Nat) (ht : P.underlying t = some (.slice e)) (hi : P.info? e = some i)
    (v : Value) (n : Nat) (xs : List Value) (hown : w.ownsRow base e size v n xs) (c : Nat) : (Builtin.append_ #[t, t] ty #[v, .slice none 0 c]).run P w = .ok v w := by
  rcases hown.2 with ⟨rfl, rfl⟩ | ⟨g, cap, cur, rfl, _, _, hnc, _⟩
  · simp [Builtin.append_, run_underlying ht, sizeOf, typeInfo, hi, Builtin.lenOf, Builtin.firstCells]
  · simp [Builtin.append_, run_underlying ht, sizeOf, typeInfo, hi, Builtin.lenOf, Builtin.firstCells, hnc, storeCells]

theorem run_append_rd (base : Nat) (t ty e : TypeId) (i : TypeInfo) (z : Value) (size bytes : Nat) (ht : P.underlying t = some (.slice e)) (hi : P.info? e = some i) (hz : i.zero = some z)
    (hsize : i.size = size) (hby : i.bytes = bytes) (hzs : z.cells.size = size) (hsz : 0 < size)
    (v : Value) (n : Nat) (xs : List Value) (hown : w.ownsRow base e size v n xs)
    (A : Option Addr) (m c : Nat) (news : List Value) (hr : Rd w A news) (hl : news.length = m * size) (h1 : ∀ u ∈ news, u.oneCell' = true)
    (h63 : n + m ≤ maxLen) (hbytes : (n + m) * bytes ≤ 140737488355328) (hbase : base ≤ w.heap.size) :
    ∃ v' w', (Builtin.append_ #[t, t] ty #[v, .slice A m c]).run P w = .ok v' w' ∧ w'.ownsRow base e size v' (n + m) (xs ++ news) ∧ w.grownBy w' v.ownBlock ∧
      (v'.ownBlock = v.ownBlock ∨ v'.ownBlock = some w.heap.size) := by
  rcases A with _ | ad
  · have hn : news = [] := by
      match news, hr with
      | [], _ => rfl
      | x :: _, hr => obtain ⟨b, off, e, _⟩ := hr 0 x rfl; cases e
    subst hn
    have hm : m = 0 := by
      rcases Nat.eq_zero_or_pos m with h0 | h0
      · exact h0
      · have := Nat.mul_pos h0 hsz; simp at hl; omega
    subst hm
    exact ⟨v, w, run_append_of_nil w base t ty e i size ht hi v n xs hown c, by simpa using hown, World.grownBy.refl w _, .inl rfl⟩
  · obtain ⟨v', w', hrun, h2, h3, _, h5⟩ := run_append_own_at (P := P) w base t ty e i z size bytes ht hi hz hsize hby hzs hsz v n xs hown ad m c news hl hr.news h1 h63 hbytes hbase
    exact ⟨v', w', hrun, h2, h3, h5⟩

theorem wp_append_rd {o : Oper} {a : Act} {K : Act → World → Prop} {Q : Exit → Act → World → Prop} (s x : Operand) (t : TypeId)
    (ho : o.op = .call { callee := .builtin .append, args := #[s, x], argTypes := #[t, t] })
    (base : Nat) (e : TypeId) (i : TypeInfo) (z : Value) (size bytes : Nat) (ht : P.underlying t = some (.slice e)) (hi : P.info? e = some i) (hz : i.zero = some z)
    (hsize : i.size = size) (hby : i.bytes = bytes) (hzs : z.cells.size = size) (hsz : 0 < size)
    (v : Value) (n : Nat) (xs : List Value) (hs : a.eval s = v) (hown : w.ownsRow base e size v n xs)
    (A : Option Addr) (m c : Nat) (news : List Value) (hx : a.eval x = .slice A m c) (hr : Rd w A news) (hl : news.length = m * size) (h1 : ∀ u ∈ news, u.oneCell' = true)
    (h63 : n + m ≤ maxLen) (hbytes : (n + m) * bytes ≤ 140737488355328) (hbase : base ≤ w.heap.size)
    (h : ∀ v' w', w'.ownsRow base e size v' (n + m) (xs ++ news) → w.grownBy w' v.ownBlock → (v'.ownBlock = v.ownBlock ∨ v'.ownBlock = some w.heap.size) → K (a.put o.dst v') w') : o.wp P a w K Q := by
  obtain ⟨v', w', hrun, h2, h3, h4⟩ := run_append_rd (P := P) w base t o.type e i z size bytes ht hi hz hsize hby hzs hsz v n xs hown A m c news hr hl h1 h63 hbytes hbase
  unfold Oper.wp execOp
  simp only [ho, resolve, invoke, builtin, Sem.run_bind, Sem.run_pure, Result.andThen_ok, List.map_toArray, List.map_cons, List.map_nil, hs, hx, hrun]
  exact h v' w' h2 h3 h4

theorem wpList_append_rd {ops : Array Oper} {rest : List Oper} {o : Oper} {a : Act} {Q : Exit → Act → World → Prop} (hgd : o.guard = none) (s x : Operand) (t : TypeId)
    (ho : o.op = .call { callee := .builtin .append, args := #[s, x], argTypes := #[t, t] })
    (base : Nat) (e : TypeId) (i : TypeInfo) (z : Value) (size bytes : Nat) (ht : P.underlying t = some (.slice e)) (hi : P.info? e = some i) (hz : i.zero = some z)
    (hsize : i.size = size) (hby : i.bytes = bytes) (hzs : z.cells.size = size) (hsz : 0 < size)
    (v : Value) (n : Nat) (xs : List Value) (hs : a.eval s = v) (hown : w.ownsRow base e size v n xs)
    (A : Option Addr) (m c : Nat) (news : List Value) (hx : a.eval x = .slice A m c) (hr : Rd w A news) (hl : news.length = m * size) (h1 : ∀ u ∈ news, u.oneCell' = true)
    (h63 : n + m ≤ maxLen) (hbytes : (n + m) * bytes ≤ 140737488355328) (hbase : base ≤ w.heap.size)
    (h : ∀ v' w', w'.ownsRow base e size v' (n + m) (xs ++ news) → w.grownBy w' v.ownBlock → (v'.ownBlock = v.ownBlock ∨ v'.ownBlock = some w.heap.size) → wpList P ops Q rest (a.put o.dst v') w') : wpList P ops Q (o :: rest) a w :=
  wpList_plain hgd fun _ hK => wp_append_rd w s x t ho base e i z size bytes ht hi hz hsize hby hzs hsz v n xs hs hown A m c news hx hr hl h1 h63 hbytes hbase fun v' w' h2 h3 h4 => hK _ _ (h v' w' h2 h3 h4)
end

theorem own_empty {w : World} {base t n : Nat} (hb : base ≤ w.heap.size) (hn : n = w.heap.size) : (w.alloc (.cells #[] t)).ownsRow base t 1 (.slice (some ⟨n, 0, none⟩) 0 0) 0 [] := by
  subst hn
  exact World.ownsRow_made w #[] 0 hb (by unfold maxLen; omega) (by simp)
/-- The value of an owned row as a slice. -/
theorem own_slice {w : World} {base e size n : Nat} {v : Value} {xs : List Value} (h : w.ownsRow base e size v n xs) : ∃ A c, v = .slice A n c ∧ n ≤ c ∧ c ≤ maxLen ∧ ∀ a, A = some a → base ≤ a.block ∧ a.block < w.heap.size := by
  rcases h.2 with ⟨rfl, rfl⟩ | ⟨g, cap, cur, rfl, hb, hh, hnc, hcm, _⟩
  · exact ⟨none, 0, rfl, Nat.le_refl _, by unfold maxLen; omega, fun a h => by cases h⟩
  · refine ⟨_, cap, rfl, hnc, hcm, fun a h => ?_⟩
    injection h with h
    subst h
    refine ⟨hb, ?_⟩
    rcases Nat.lt_or_ge g w.heap.size with hlt | hge
    · exact hlt
    · rw [Array.getElem?_eq_none hge] at hh; cases hh
theorem RI.grown {w w' : World} {A : Option Addr} {zs : List Int} {g : Nat} (h : RI w A zs) (hg : w.grownBy w' (some g)) (hne : ∀ a, A = some a → a.block ≠ g) : RI w' A zs := fun k v hk => by
  obtain ⟨b, off, rfl, hlt, hc⟩ := h k v hk
  exact ⟨b, off, rfl, Nat.lt_of_lt_of_le hlt hg.size, (World.cell?_of_block (w := w) (a := ⟨b, off + k, none⟩) (hg.block b hlt (fun e => hne _ rfl (by injection e)))).trans hc⟩
theorem grown_trans {a b c : World} {row : Option Nat} (h : a.grownBy b row) (k : b.grownBy c row) : a.grownBy c row :=
  ⟨k.os.trans h.os, k.tape.trans h.tape, k.output.trans h.output, Nat.le_trans h.size k.size, fun i hi hne => (k.block i (Nat.lt_of_lt_of_le hi h.size) hne).trans (h.block i hi hne)⟩
theorem grown_of_below {a w : World} (h : Below a.heap.size a w) (row : Option Nat) : a.grownBy w row := ⟨h.os, h.tape, h.output, h.size, fun i hi _ => h.block i hi⟩
theorem grown_alloc {a w : World} {row : Option Nat} (h : a.grownBy w row) (o : Obj) : a.grownBy (w.alloc o) row := grown_trans h (World.grownBy_alloc w o row)
theorem below_of_grown {a w : World} {g B : Nat} (h : a.grownBy w (some g)) (h1 : B ≤ a.heap.size) (h2 : B ≤ g) : Below B a w :=
  ⟨h.os, h.tape, h.output, h.size, fun k hk => h.block k (by omega) (fun e => by injection e; omega)⟩
theorem below_of_none {a w : World} (h : a.grownBy w none) : Below a.heap.size a w := ⟨h.os, h.tape, h.output, h.size, fun k hk => h.block k hk (fun e => by cases e)⟩
theorem grown_own {a w w' : World} {g : Nat} {row : Option Nat} (h : a.grownBy w (some g)) (k : w.grownBy w' row) (hr : ∀ k, row = some k → a.heap.size ≤ k) : a.grownBy w' (some g) :=
  ⟨k.os.trans h.os, k.tape.trans h.tape, k.output.trans h.output, Nat.le_trans h.size k.size, fun i hi hne => (k.block i (Nat.lt_of_lt_of_le hi h.size) (fun e => by have := hr i e.symm; omega)).trans (h.block i hi hne)⟩
theorem own_kept {w w' : World} {base e size n g : Nat} {v : Value} {xs : List Value} (h : w.ownsRow base e size v n xs) (hg : w.grownBy w' (some g)) (hlt : g < base) : w'.ownsRow base e size v n xs :=
  h.kept hg (.inr (fun e => by have := h.lt g e; omega))
theorem own_to {w w' : World} {base e size n B : Nat} {v : Value} {xs : List Value} (h : w.ownsRow base e size v n xs) (hb : Below B w w') (hB : w.heap.size ≤ B) : w'.ownsRow base e size v n xs :=
  h.kept (row := none) ⟨hb.os, hb.tape, hb.output, hb.size, fun k hk _ => hb.block k (by omega)⟩ (by cases h' : v.ownBlock with
    | none => exact .inl rfl
    | some k => exact .inr (by simp))
theorem own_base {w : World} {base base' e size n : Nat} {v : Value} {xs : List Value} (h : w.ownsRow base e size v n xs) (hb : base' ≤ base) : w.ownsRow base' e size v n xs :=
  ⟨h.1, h.2.imp id (fun ⟨g, cap, cur, hv, hg, r⟩ => ⟨g, cap, cur, hv, Nat.le_trans hb hg, r⟩)⟩
theorem own_len {w : World} {base e n : Nat} {v : Value} {xs : List Value} (h : w.ownsRow base e 1 v n xs) : xs.length = n := by have := h.1; omega
/-- The address A does not lie in block g. -/
def Far (A : Option Addr) (g : Nat) : Prop := ∀ a, A = some a → a.block ≠ g
theorem RI.ofOwn {w : World} {base e n c : Nat} {A : Option Addr} {zs : List Int} (h : w.ownsRow base e 1 (.slice A n c) n (zs.map (Value.int .i64))) : RI w A zs ∧ zs.length = n ∧ n ≤ c := by
  obtain ⟨A', c', e, hc, _, _⟩ := own_slice h
  injection e with e1 e2 e3
  subst e1 e3
  exact ⟨RI.of_own h, by have := own_len h; simpa using this, hc⟩
theorem far_own {w : World} {base e size n c g : Nat} {A : Option Addr} {xs : List Value} (h : w.ownsRow base e size (.slice A n c) n xs) (hg : g < base) : Far A g := by
  obtain ⟨A', c', e, _, _, hf⟩ := own_slice h
  injection e with e1 e2 e3
  subst e1
  intro a ha
  have := (hf a ha).1
  omega
theorem far_map {A : Option Addr} {g k : Nat} (h : Far A g) : Far (Option.map (fun x : Addr => { block := x.block, off := x.off + k }) A) g := by
  intro a ha
  cases A with
  | none => cases ha
  | some b => injection ha with ha; subst ha; exact h b rfl
theorem RI.drop {w : World} {A : Option Addr} {zs : List Int} {k : Nat} (h : RI w A zs) : RI w (Option.map (fun x : Addr => { block := x.block, off := x.off + k }) A) (zs.drop k) := fun j v hj => by
  obtain ⟨b, off, rfl, hlt, hc⟩ := h (k + j) v (by rw [← hj, List.map_drop, List.getElem?_drop])
  exact ⟨b, off + k, rfl, hlt, by rw [Nat.add_assoc]; exact hc⟩
theorem own_row {B : Option Addr} {b k n c lo : Nat} {H : Nat} (hlo : lo ≤ b) (hB : ∀ a, B = some a → b ≤ a.block ∧ a.block < H) (hk : (Value.slice B n c).ownBlock = some k) : lo ≤ k := by
  cases B with
  | none => cases hk
  | some a => have e : a.block = k := Option.some.inj hk
              have := (hB a rfl).1; omega
theorem lit_ints {w : World} {t n : Nat} {cs : Array Value} (zs : List Int) (hn : n = w.heap.size) (hc : cs = ints zs) : RI (w.alloc (.cells cs t)) (some ⟨n, 0, none⟩) zs := by
  subst hn; subst hc
  exact RI.of_blk (Blk.new w t _)
theorem one_ints (zs : List Int) : ∀ u ∈ zs.map (Value.int .i64), u.oneCell' = true := ints_oneCell .i64 zs
/-- The slice owns the cells vs in a block from lo on, below hi. -/
def OV (w : World) (lo hi : Nat) (e size : Nat) (A : Option Addr) (n c : Nat) (vs : List Value) : Prop :=
  w.ownsRow lo e size (.slice A n c) n vs ∧ ∀ a, A = some a → a.block < hi
/-- Only blocks from lo on, below hi, and new ones, have turned. -/
structure Turn (lo hi : Nat) (w w' : World) : Prop where
  os : w'.os = w.os
  tape : w'.tape = w.tape
  output : w'.output = w.output
  size : w.heap.size ≤ w'.heap.size
  block : ∀ k, k < w.heap.size → ¬ (lo ≤ k ∧ k < hi) → w'.heap[k]? = w.heap[k]?
section
variable {w w' : World} {lo hi lo' hi' e size n c : Nat} {A : Option Addr} {vs : List Value}
theorem OV.blk {e : TypeId} (h : w.ownsRow lo e size (.slice A n c) n vs) (hh : w.heap.size ≤ hi) : OV w lo hi e size A n c vs :=
  ⟨h, fun a ha => by have := (h.lt a.block (by rw [ha]; rfl)).2; omega⟩
theorem OV.to (h : OV w lo hi e size A n c vs) (hb : Below w.heap.size w w') : OV w' lo hi e size A n c vs := ⟨own_to h.1 hb (Nat.le_refl _), h.2⟩
theorem OV.turn (h : OV w lo hi e size A n c vs) (ht : Turn lo' hi' w w') (hd : hi ≤ lo' ∨ hi' ≤ lo) : OV w' lo hi e size A n c vs := by
  refine ⟨⟨h.1.1, ?_⟩, h.2⟩
  rcases h.1.2 with h0 | ⟨g, cap, cur, hv, hg, hh, r⟩
  · exact .inl h0
  · refine .inr ⟨g, cap, cur, hv, hg, ?_, r⟩
    have hlt : g < w.heap.size := by
      rcases Nat.lt_or_ge g w.heap.size with h1 | h1
      · exact h1
      · rw [Array.getElem?_eq_none h1] at hh; cases hh
    have hA : A = some ⟨g, 0, none⟩ := by injection hv
    have := h.2 _ hA
    rw [ht.block g hlt (by show ¬ (lo' ≤ g ∧ g < hi'); have h3 : g < hi := this; omega)]
    exact hh
theorem Turn.of_below (h : Below w.heap.size w w') : Turn lo hi w w' := ⟨h.os, h.tape, h.output, h.size, fun k hk _ => h.block k hk⟩
theorem Turn.below {B : Nat} {a : World} (h : Below B a w) (t : Turn lo hi w w') (hB : B ≤ lo) (hs : B ≤ w.heap.size) : Below B a w' :=
  h.trans ⟨t.os, t.tape, t.output, t.size, fun k hk => t.block k (by omega) (by omega)⟩
theorem Turn.of_grown (h : OV w lo hi e size A n c vs) (hg : w.grownBy w' (Value.slice A n c).ownBlock) : Turn lo hi w w' :=
  ⟨hg.os, hg.tape, hg.output, hg.size, fun k hk hne => hg.block k hk (fun ek => hne (by
    have := h.1.lt k ek.symm
    cases A with
    | none => cases ek
    | some a => have e1 : k = a.block := Option.some.inj ek
                have := h.2 a rfl
                omega))⟩
end
theorem OV.ri {w : World} {lo hi e n c : Nat} {A : Option Addr} {zs : List Int} (h : OV w lo hi e 1 A n c (zs.map (Value.int .i64))) : RI w A zs ∧ zs.length = n ∧ n ≤ c := RI.ofOwn h.1
theorem RI.dropAdd {w : World} {A : Option Addr} {zs : List Int} {k : Nat} (h : RI w A zs) : RI w (Option.map (fun x : Addr => x.add k) A) (zs.drop k) := fun j v hj => by
  obtain ⟨b, off, rfl, hlt, hc⟩ := h (k + j) v (by rw [← hj, List.map_drop, List.getElem?_drop])
  refine ⟨b, off + k, ?_, hlt, by rw [Nat.add_assoc]; exact hc⟩
  show some ((⟨b, off, none⟩ : Addr).add k) = _
  unfold Addr.add
  split
  · rename_i h0; subst h0; rfl
  · rfl
theorem RI.empty {w : World} {A : Option Addr} {zs : List Int} (h : zs.length = 0) : RI w A zs := by
  obtain rfl := List.eq_nil_of_length_eq_zero h
  exact RI.nil w A
theorem quiet_eq2 {P : Program} {f : FuncId} {args : Array Value} {w : World} {a n : Nat} {v : Value} (h : ∀ W : World, W = w.drewN (a + n) → Calls P f args W fun e w' => e = .returned v ∧ W = w') :
    Calls P f args (w.drewN (a + n)) fun e w'' => e = .returned v ∧ ∃ m, w'' = w.drewN (a + m) :=
  (h _ rfl).mono fun _ _ ⟨he, hm⟩ => ⟨he, n, hm.symm⟩
theorem quiet_dr2 {P : Program} {f : FuncId} {args : Array Value} {w : World} {a n : Nat} {v : Value} (h : ∀ W : World, W = w.drewN (a + n) → Calls P f args W fun e w' => e = .returned v ∧ ∃ q, w' = W.drewN q) :
    Calls P f args (w.drewN (a + n)) fun e w'' => e = .returned v ∧ ∃ m, w'' = w.drewN (a + m) :=
  (h _ rfl).mono fun _ _ ⟨he, m, hm⟩ => ⟨he, n + m, by rw [hm, World.drewN_drewN, Nat.add_assoc]⟩
theorem Turn.set_ {lo hi g j : Nat} {w wr : World} {v : Value} (t : Turn lo hi w wr) (a : lo ≤ g) (b : g < hi) : Turn lo hi w (wr.setCell ⟨g, j, none⟩ v) :=
  ⟨t.os, t.tape, t.output, by simpa [World.setCell] using t.size, fun i hi hne => (Below.heap_setCell wr ⟨g, j, none⟩ _ i (fun e => hne (by rw [e]; exact ⟨a, b⟩))).trans (t.block i hi hne)⟩
end Go.Proofs.YthlaldikdlljfaaDoor
