/- Contracts of the generator: ends inside; words on rows of records. -/
import Derived.Test.YtaceadddggkkmaaR7
import Derived.Test.YtaceadddggkkmaaGen3
namespace Go.Proofs.Ytaceadddggkkmaa
open Go.RowKit

theorem recCs_one (l : List Rec) : ∀ u ∈ recCs l, u.oneCell' = true := fun u hu => by
  unfold recCs at hu
  obtain ⟨r, _, hr⟩ := List.mem_flatMap.1 hu
  simp only [recC, List.mem_cons, List.not_mem_nil, or_false] at hr
  rcases hr with rfl | rfl | rfl | rfl | rfl <;> rfl
theorem lit_rec {w : World} {t n : Nat} {cs : Array Value} (r : Rec) (hn : n = w.heap.size) (hc : cs = (recC r).toArray) : RR (w.alloc (.cells cs t)) (some ⟨n, 0, none⟩) [r] := by
  subst hn hc
  refine RR.of_blk (Blk.new w t _) (fun j _ => ?_)
  simp [recCs]
theorem Rd.of_ownS {w : World} {base e size n c : Nat} {A : Option Addr} {vs : List Value} (h : w.ownsRow base e size (.slice A n c) n vs) : Rd w A vs := by
  rcases h.2 with ⟨_, h0⟩ | ⟨g, cap, cur, hv, hg, hh, hn, hm, hs, ht⟩
  · subst h0
    have : vs = [] := List.eq_nil_of_length_eq_zero (by have := h.1; omega)
    subst this
    exact Rd.nil _ _
  · injection hv with hA
    subst hA
    have hb : Blk w g e cur := hh
    intro k v hk
    refine ⟨g, 0, rfl, hb.lt, ?_⟩
    rw [Nat.zero_add, hb.cell]
    rw [← ht, List.getElem?_take] at hk
    split at hk
    · simpa using hk
    · cases hk
/-- A row of the call's own that reads as records. -/
def RO (w : World) (base : Nat) (v : Value) (l : List Rec) : Prop := w.ownsRow base 29 5 v l.length (recCs l)
section
variable {w w' : World} {base g n c : Nat} {v : Value} {A : Option Addr} {l : List Rec}
theorem RO.kept (h : RO w base v l) (hg : w.grownBy w' (some g)) (hlt : g < base) : RO w' base v l := own_kept h hg hlt
theorem RO.to (h : RO w base v l) (hb : Below w.heap.size w w') : RO w' base v l := own_to h hb (Nat.le_refl _)
theorem RO.alloc (h : RO w base v l) (o : Obj) : RO (w.alloc o) base v l := World.ownsRow.alloc h o
theorem RO.rr (h : RO w base (.slice A n c) l) (hn : l.length = n) : RR w A l := by
  unfold RO at h
  rw [hn] at h
  exact Rd.of_ownS h
theorem RO.empty {n : Nat} (hb : base ≤ w.heap.size) (hn : n = w.heap.size) : RO (w.alloc (.cells #[] 29)) base (.slice (some ⟨n, 0, none⟩) 0 0) [] := by
  subst hn
  exact World.ownsRow_made w #[] 0 hb (by unfold maxLen; omega) (by simp)
theorem RO.slice (h : RO w base v l) : ∃ A c, v = .slice A l.length c ∧ l.length ≤ c ∧ c ≤ maxLen ∧ ∀ a, A = some a → base ≤ a.block ∧ a.block < w.heap.size := own_slice h
end

/-- What a generator of an end leaves. -/
def GenE (w : World) (g p k : Nat) (R : Int → Int → Prop) (e : Ending) (w' : World) : Prop :=
  ∃ (x y : Int) (p' : Nat), e = .returned (.agg #[.int .i64 x, .int .i64 y]) ∧ R x y ∧ Rdr w' g p' ∧ p' ≤ p + k ∧ w.grownBy w' (some g)
theorem grown_set {a w : World} {g r k : Nat} {v : Value} (h : a.grownBy w (some g)) (hr : a.heap.size ≤ r) : a.grownBy (w.setCell ⟨r, k, none⟩ v) (some g) :=
  grown_own h (grown_put r k v) (fun _ e => by injection e with e; omega)
theorem Rdr.set {w : World} {g p r k : Nat} {v : Value} (h : Rdr w g p) (hr : g < r) : Rdr (w.setCell ⟨r, k, none⟩ v) g p := by
  obtain ⟨A, n, c, hb, hn, hk⟩ := h
  refine ⟨A, n, c, hb.far (by show g ≠ r; omega) v, hn, fun j hj => ?_⟩
  obtain ⟨b, off, x, e, hlt, hc, h0, h1⟩ := hk j hj
  exact ⟨b, off, x, e, hlt, (cell_far (by omega)).trans hc, h0, h1⟩

theorem c_insideEnd (g p : Nat) (w : World) (hr : Rdr w g p) (hp : p ≤ 1099511626000) :
    Calls Try.prog 76 #[.pointer (some ⟨g, 0, none⟩)] w (GenE w g p 2 fun x y => 2560 ≤ x ∧ x ≤ 2563 ∧ 0 ≤ y ∧ y ≤ 5000) := by
  have r0 := Blk.new w 27 #[.int .i64 0, .int .i64 0]
  have hgl := hr.lt
  have G := grown_alloc (World.grownBy.refl w (some g)) (.cells #[.int .i64 0, .int .i64 0] 27)
  have hne : w.heap.size ≠ g := by omega
  go_enter Try.func76, Try.ntmps76
  go_wp2_with fail
  refine (c_pick _ _ _ _ (hr.alloc _) (by omega)).mono ?_
  rintro e w1 ⟨x, rfl, a1, b1, -, hr, h⟩
  replace b1 := b1 (by omega)
  replace G := grown_trans G h
  replace r0 := r0.grown h (fun e => by injection e with e; omega)
  clear h
  go_wp2_with fail
  refine (c_one _ _ _ _ [1000, 1001, 80, 5000, 1003] _ (hr.alloc _) (by omega) (lit_ints _ rfl rfl) (by simp) (by simp) (lit_far hr rfl)).mono ?_
  rintro e w2 ⟨y, rfl, hy, hr, h⟩
  have hyb : 0 ≤ y ∧ y ≤ 5000 := by
    simp only [List.mem_cons, List.not_mem_nil, or_false] at hy
    omega
  clear hy
  replace G := grown_trans (grown_alloc G _) h
  replace r0 := (r0.alloc _).grown h (fun e => by injection e with e; omega)
  clear h
  have y0 := r0.cell 0
  have y1 := r0.cell 1
  have f0 := r0.frozen 0
  have f1 := r0.frozen 1
  simp only [List.getElem?_toArray, List.getElem?_cons_zero, List.getElem?_cons_succ] at y0 y1
  go_wp2
  generalize hw4 : (World.setCell (World.setCell w2 { block := w.heap.size, off := 0 } (Value.int IntKind.i64 (2560 + x))) { block := w.heap.size, off := 1 } (Value.int IntKind.i64 y)) = w4
  have z : Blk w4 w.heap.size 27 #[.int .i64 (2560 + x), .int .i64 y] := by rw [← hw4]; exact (r0.set_ 0 _).set_ 1 _
  have hr4 : Rdr w4 g (p + 1 + 1) := by rw [← hw4]; exact (hr.set hgl).set hgl
  have G4 : w.grownBy w4 (some g) := by rw [← hw4]; exact grown_set (grown_set G (Nat.le_refl _)) (Nat.le_refl _)
  have z0 := z.cell 0
  have z1 := z.cell 1
  simp only [List.getElem?_toArray, List.getElem?_cons_zero, List.getElem?_cons_succ] at z0 z1
  refine bodyPost_ret (v := .agg #[.int .i64 (2560 + x), .int .i64 y]) (by simp [results, Try.results76, go_sem, z0, z1]) rfl ?_
  exact ⟨2560 + x, y, _, rfl, ⟨by omega, by omega, hyb.1, hyb.2⟩, hr4, by omega, G4⟩
end Go.Proofs.Ytaceadddggkkmaa
