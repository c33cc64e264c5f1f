/- Contracts of the laws' own helpers on mappings: copies, comparisons, marks. -/
import Derived.Test.YthlaldikdlljfaaDoorT5
import Derived.Test.YthlaldikdlljfaaDoorApp
namespace Go.Proofs.YthlaldikdlljfaaDoor
open Go.RowKit

/-- The slice A, n, c reads as the mappings l, and lies at the head of a block from lo on, below hi, that may be written. -/
def OT (w : World) (lo hi : Nat) (A : Option Addr) (n c : Nat) (l : List Mpg) : Prop :=
  TM w A l ∧ l.length = n ∧ n ≤ c ∧ (n = 0 ∨ ∃ g cur, A = some ⟨g, 0, none⟩ ∧ lo ≤ g ∧ g < hi ∧ Blk w g 48 cur ∧ n * 4 ≤ cur.size)
/-- What a function leaves that hands back new mappings. -/
def NewT (l : List Mpg) (w : World) (e : Ending) (w' : World) : Prop :=
  ∃ A n c, e = .returned (.slice A n c) ∧ l.length = n ∧ OT w' w.heap.size w'.heap.size A n c l ∧ Below w.heap.size w w'
section
variable {w w' : World} {lo hi lo' hi' n c : Nat} {A : Option Addr} {l : List Mpg}
theorem OT.ri (h : OT w lo hi A n c l) : TM w A l ∧ l.length = n ∧ n ≤ c := ⟨h.1, h.2.1, h.2.2.1⟩
theorem OT.to (h : OT w lo hi A n c l) (hb : Below w.heap.size w w') : OT w' lo hi A n c l := by
  obtain ⟨h1, h2, h3, h4⟩ := h
  refine ⟨h1.to hb, h2, h3, h4.imp id ?_⟩
  rintro ⟨g, cur, e, a, b, hk, s⟩
  exact ⟨g, cur, e, a, b, hk.to hb, s⟩
theorem TM.of_blk {g : Nat} {t : TypeId} {cur : Array Value} (hb : Blk w g t cur) (h : ∀ j, j < l.length * 4 → cur[j]? = (mapCs l)[j]?) : TM w (some ⟨g, 0, none⟩) l := fun i v hi => by
  have hil : i < l.length * 4 := by
    rcases Nat.lt_or_ge i (l.length * 4) with h1 | h1
    · exact h1
    · rw [List.getElem?_eq_none (by rw [mapCs_len]; exact h1)] at hi; cases hi
  exact ⟨g, 0, rfl, hb.lt, by rw [Nat.zero_add, hb.cell, h i hil]; exact hi⟩
theorem TM.blk {g : Nat} {t : TypeId} {cur : Array Value} (hb : Blk w g t cur) (h : TM w (some ⟨g, 0, none⟩) l) : ∀ j, j < l.length * 4 → cur[j]? = (mapCs l)[j]? := fun j hj => by
  have hjl : j < (mapCs l).length := by rw [mapCs_len]; exact hj
  obtain ⟨b', off', e, _, hc⟩ := h j _ (List.getElem?_eq_getElem hjl)
  cases e
  rw [List.getElem?_eq_getElem hjl, ← hc, Nat.zero_add, hb.cell]
theorem OT.turn (h : OT w lo hi A n c l) (ht : Turn lo' hi' w w') (hd : hi ≤ lo' ∨ hi' ≤ lo) : OT w' lo hi A n c l := by
  obtain ⟨h1, h2, h3, h4⟩ := h
  rcases h4 with h4 | ⟨g, cur, rfl, a, b, hk, s⟩
  · refine ⟨?_, h2, h3, .inl h4⟩
    obtain rfl : l = [] := List.eq_nil_of_length_eq_zero (by omega)
    exact TM.nil _ _
  · have hk' : Blk w' g 48 cur := (ht.block g hk.lt (by omega)).trans hk
    exact ⟨TM.of_blk hk' (TM.blk hk h1), h2, h3, .inr ⟨g, cur, rfl, a, b, hk', s⟩⟩
end

theorem c_szMappingS (A : Option Addr) (n c : Nat) (left : Int) (w : World) (h0 : 0 ≤ left) (h1 : left ≤ 1048576) (hl : n ≤ maxLen) :
    Calls Tryd.prog 24 #[.slice A n c, .int .i64 left] w fun e w' => e = .returned (.int .i64 (if left - n < 0 then -1 else left - n)) ∧ w = w' := by
  unfold maxLen at hl
  by_cases hx : left - n < 0
  · have t0 : decide (left - (n : Int) < 0) = true := by rw [decide_eq_true_eq]; exact hx
    rw [if_pos hx]
    clear hx
    go_enter Tryd.func24, Tryd.ntmps24
    go_wp2
    go_ret
    exact ⟨rfl, rfl⟩
  · have t0 : decide (left - (n : Int) < 0) = false := by rw [decide_eq_false_iff_not]; exact hx
    rw [if_neg hx]
    clear hx
    go_enter Tryd.func24, Tryd.ntmps24
    go_wp2
    go_ret
    exact ⟨rfl, rfl⟩

theorem c_eqMapping (r : Mpg) (w : World) : Calls Tryd.prog 56 #[.agg #[.int .i64 r.ad, .int .i64 r.ep, .int .i64 r.po, .int .i64 r.la], .agg #[.int .i64 r.ad, .int .i64 r.ep, .int .i64 r.po, .int .i64 r.la]] w fun e w' => e = .returned (.bool true) ∧ Below w.heap.size w w' := by
  obtain ⟨x, y, p, o⟩ := r
  have t2 : (p != p) = false := by simp
  have t3 : (o != o) = false := by simp
  have k1 := (Blk.new w 48 #[.int .i64 x, .int .i64 y, .int .i64 p, .int .i64 o]).alloc (.cells #[.int .i64 x, .int .i64 y, .int .i64 p, .int .i64 o] 48)
  have k2 := Blk.new (w.alloc (.cells #[.int .i64 x, .int .i64 y, .int .i64 p, .int .i64 o] 48)) 48 #[.int .i64 x, .int .i64 y, .int .i64 p, .int .i64 o]
  have B : Below w.heap.size w ((w.alloc (.cells #[.int .i64 x, .int .i64 y, .int .i64 p, .int .i64 o] 48)).alloc (.cells #[.int .i64 x, .int .i64 y, .int .i64 p, .int .i64 o] 48)) := ((Below.refl _ _).alloc (Nat.le_refl _) _).alloc (by simp) _
  go_enter Tryd.func56, Tryd.ntmps56
  go_wp2_with fail
  refine (c_eqEnd _ _ _).mono ?_
  rintro e w1 ⟨rfl, hq⟩
  replace k1 := k1.to hq
  replace k2 := k2.to hq
  replace B := Bl.then B hq
  have y2 := k1.cell 2
  have y3 := k1.cell 3
  have z2 := k2.cell 2
  have z3 := k2.cell 3
  simp only [List.getElem?_toArray, List.getElem?_cons_zero, List.getElem?_cons_succ, World.size_alloc] at y2 y3 z2 z3
  clear hq k1 k2
  go_wp2
  go_ret
  exact ⟨rfl, B⟩

theorem c_eqMappingS (A A' : Option Addr) (n c c' : Nat) (l : List Mpg) (w : World) (hn : l.length = n) (h : TM w A l) (h' : TM w A' l) (hl : n ≤ 1099511627776) :
    Calls Tryd.prog 28 #[.slice A n c, .slice A' n c'] w fun e w' => e = .returned (.bool true) ∧ Below w.heap.size w w' := by
  have HN := Lib.hid hn
  clear hn
  have tn : ((n : Int) != (n : Int)) = false := by simp
  go_enter Tryd.func28, Tryd.ntmps28
  go_wp2
  go_loopw [5] (fun i wr => ∃ k : Nat, k ≤ n ∧ i = .int .i64 k ∧ Hid (Below w.heap.size w wr)) (fun i _ => n - (intOf i).toNat)
  case atStart => exact ⟨0, Nat.zero_le _, rfl, Below.refl _ _⟩
  case round =>
    obtain ⟨k, hk, rfl, HB⟩ := hrel
    by_cases hlt : k < n
    · have HK : Hid (k < l.length) := by rw [HN.out]; exact hlt
      obtain ⟨b, off, rfl, hb, _⟩ := h.get HK.out
      obtain ⟨b', off', rfl, hb', _⟩ := h'.get HK.out
      have hA : TM wr.drew (some ⟨b, off, none⟩) l := (h.to HB.out).drewN 1
      have hB : TM wr.drew (some ⟨b', off', none⟩) l := (h'.to HB.out).drewN 1
      have B : Below w.heap.size w wr.drew := Bl.drewN HB.out 1
      have i1 : (k : Int) < n := by omega
      have i2 : (0 : Int) ≤ k := by omega
      go_wp2_with fail
      refine wp_region_held_drew (S := (fun w' => w'.cell? ⟨b, off + k * 4, none⟩ = some (.int .i64 (mn l k).ad) ∧ w'.cell? ⟨b, off + k * 4 + 1, none⟩ = some (.int .i64 (mn l k).ep) ∧ w'.cell? ⟨b, off + k * 4 + 2, none⟩ = some (.int .i64 (mn l k).po) ∧ w'.cell? ⟨b, off + k * 4 + 3, none⟩ = some (.int .i64 (mn l k).la) ∧ w'.cell? ⟨b', off' + k * 4, none⟩ = some (.int .i64 (mn l k).ad) ∧ w'.cell? ⟨b', off' + k * 4 + 1, none⟩ = some (.int .i64 (mn l k).ep) ∧ w'.cell? ⟨b', off' + k * 4 + 2, none⟩ = some (.int .i64 (mn l k).po) ∧ w'.cell? ⟨b', off' + k * 4 + 3, none⟩ = some (.int .i64 (mn l k).la))) (by kernel_rfl) ?_ (fun hHeld => ?_)
      · (try dsimp only); (have a := TM.c4 hA HK.out; have d := TM.c4 hB HK.out; exact ⟨a.1, a.2.1, a.2.2.1, a.2.2.2, d.1, d.2.1, d.2.2.1, d.2.2.2⟩)
      refine wpAnyH_take (i := 0) (v := ?_) (arr_at rfl) (by kernel_rfl) (by kernel_rfl) (by kernel_rfl) (fun _ _ _ h => h) ?_ (by assumption) ?_
      rotate_left
      · first
        | (refine Or.inr ⟨by rfl, ?_⟩; with_reducible rfl)
        | (refine Or.inl ⟨by rfl, ?_⟩; intro w hSw; (try dsimp only at hSw); go_simp; done)
        | (refine Or.inl ⟨by rfl, ?_⟩; intro w hSw; (try dsimp only at hSw); go_simp; with_reducible rfl)
      try simp only [Act.put, List.setIfInBounds_toArray, List.set_cons_zero, List.set_cons_succ]
      refine wpAnyH_take (i := 1) (v := ?_) (arr_at rfl) (by kernel_rfl) (by kernel_rfl) (by kernel_rfl) (fun _ _ _ h => h) ?_ (by assumption) ?_
      rotate_left
      · first
        | (refine Or.inr ⟨by rfl, ?_⟩; with_reducible rfl)
        | (refine Or.inl ⟨by rfl, ?_⟩; intro w hSw; (try dsimp only at hSw); go_simp; done)
        | (refine Or.inl ⟨by rfl, ?_⟩; intro w hSw; (try dsimp only at hSw); go_simp; with_reducible rfl)
      try simp only [Act.put, List.setIfInBounds_toArray, List.set_cons_zero, List.set_cons_succ]
      refine wpAnyH_take (i := 2) (v := ?_) (arr_at rfl) (by kernel_rfl) (by kernel_rfl) (by kernel_rfl) (fun _ _ _ h => h) ?_ (by assumption) ?_
      rotate_left
      · first
        | (refine Or.inr ⟨by rfl, ?_⟩; with_reducible rfl)
        | (refine Or.inl ⟨by rfl, ?_⟩; intro w hSw; (try dsimp only at hSw); go_simp; done)
        | (refine Or.inl ⟨by rfl, ?_⟩; intro w hSw; (try dsimp only at hSw); go_simp; with_reducible rfl)
      try simp only [Act.put, List.setIfInBounds_toArray, List.set_cons_zero, List.set_cons_succ]
      refine wpAnyH_take (i := 3) (v := ?_) (arr_at rfl) (by kernel_rfl) (by kernel_rfl) (by kernel_rfl) (fun _ _ _ h => h) ?_ (by assumption) ?_
      rotate_left
      · first
        | (refine Or.inr ⟨by rfl, ?_⟩; with_reducible rfl)
        | (refine Or.inl ⟨by rfl, ?_⟩; intro w hSw; (try dsimp only at hSw); go_simp; done)
        | (refine Or.inl ⟨by rfl, ?_⟩; intro w hSw; (try dsimp only at hSw); go_simp; with_reducible rfl)
      try simp only [Act.put, List.setIfInBounds_toArray, List.set_cons_zero, List.set_cons_succ]
      refine wpAnyH_take (i := 4) (v := ?_) (arr_at rfl) (by kernel_rfl) (by kernel_rfl) (by kernel_rfl) (fun _ _ _ h => h) ?_ (by assumption) ?_
      rotate_left
      · first
        | (refine Or.inr ⟨by rfl, ?_⟩; with_reducible rfl)
        | (refine Or.inl ⟨by rfl, ?_⟩; intro w hSw; (try dsimp only at hSw); go_simp; done)
        | (refine Or.inl ⟨by rfl, ?_⟩; intro w hSw; (try dsimp only at hSw); go_simp; with_reducible rfl)
      try simp only [Act.put, List.setIfInBounds_toArray, List.set_cons_zero, List.set_cons_succ]
      refine wpAnyH_take (i := 5) (v := ?_) (arr_at rfl) (by kernel_rfl) (by kernel_rfl) (by kernel_rfl) (fun _ _ _ h => h) ?_ (by assumption) ?_
      rotate_left
      · first
        | (refine Or.inr ⟨by rfl, ?_⟩; with_reducible rfl)
        | (refine Or.inl ⟨by rfl, ?_⟩; intro w hSw; (try dsimp only at hSw); go_simp; done)
        | (refine Or.inl ⟨by rfl, ?_⟩; intro w hSw; (try dsimp only at hSw); go_simp; with_reducible rfl)
      try simp only [Act.put, List.setIfInBounds_toArray, List.set_cons_zero, List.set_cons_succ]
      refine wpAnyH_take (i := 6) (v := ?_) (arr_at rfl) (by kernel_rfl) (by kernel_rfl) (by kernel_rfl) (fun _ _ _ h => h) ?_ (by assumption) ?_
      rotate_left
      · first
        | (refine Or.inr ⟨by rfl, ?_⟩; with_reducible rfl)
        | (refine Or.inl ⟨by rfl, ?_⟩; intro w hSw; (try dsimp only at hSw); go_simp; done)
        | (refine Or.inl ⟨by rfl, ?_⟩; intro w hSw; (try dsimp only at hSw); go_simp; with_reducible rfl)
      try simp only [Act.put, List.setIfInBounds_toArray, List.set_cons_zero, List.set_cons_succ]
      refine wpAnyH_take (i := 7) (v := ?_) (arr_at rfl) (by kernel_rfl) (by kernel_rfl) (by kernel_rfl) (fun _ _ _ h => h) ?_ (by assumption) ?_
      rotate_left
      · first
        | (refine Or.inr ⟨by rfl, ?_⟩; with_reducible rfl)
        | (refine Or.inl ⟨by rfl, ?_⟩; intro w hSw; (try dsimp only at hSw); go_simp; done)
        | (refine Or.inl ⟨by rfl, ?_⟩; intro w hSw; (try dsimp only at hSw); go_simp; with_reducible rfl)
      try simp only [Act.put, List.setIfInBounds_toArray, List.set_cons_zero, List.set_cons_succ]
      refine wpAnyH_ready (rs := [8]) (by kernel_rfl) (by simp) ?_
      refine AllReadyH.cons (arr_at rfl) (fun K hK => ?_) AllReadyH.nil
      go_simp
      go_at_call 56; refine (c_eqMapping _ _).mono ?_; rintro e w1 ⟨rfl, hq⟩; replace hA := hA.to hq; replace hB := hB.to hq; replace B := Bl.then B hq; clear hq
      refine hK.out _ _ ?_ (fun hHeld => ?_)
      · (try dsimp only); (have a := TM.c4 hA HK.out; have d := TM.c4 hB HK.out; exact ⟨a.1, a.2.1, a.2.2.1, a.2.2.2, d.1, d.2.1, d.2.2.1, d.2.2.2⟩)
      clear hK K
      try simp only [Act.put, List.setIfInBounds_toArray, List.set_cons_zero, List.set_cons_succ]
      refine wpAnyH_take (i := 9) (v := ?_) (arr_at rfl) (by kernel_rfl) (by kernel_rfl) (by kernel_rfl) (fun _ _ _ h => h) ?_ (by assumption) ?_
      rotate_left
      · first
        | (refine Or.inr ⟨by rfl, ?_⟩; with_reducible rfl)
        | (refine Or.inl ⟨by rfl, ?_⟩; intro w hSw; (try dsimp only at hSw); go_simp; done)
        | (refine Or.inl ⟨by rfl, ?_⟩; intro w hSw; (try dsimp only at hSw); go_simp; with_reducible rfl)
      try simp only [Act.put, List.setIfInBounds_toArray, List.set_cons_zero, List.set_cons_succ]
      refine wpAnyH_done (by kernel_rfl) ?_ _
      go_wp2
      go_roundw
      case rel => exact ⟨k + 1, by omega, by go_num, B⟩
      case measure => simp [intOf]; omega
    · go_wp2
      go_ret
      exact ⟨rfl, HB.out⟩
end Go.Proofs.YthlaldikdlljfaaDoor
