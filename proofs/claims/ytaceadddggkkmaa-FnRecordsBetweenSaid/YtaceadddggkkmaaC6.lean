/- Rows that the call itself has made, whatever their capacity: marks and copies. -/
import Derived.Test.YtaceadddggkkmaaC4
namespace Go.Proofs.Ytaceadddggkkmaa
open Go.RowKit

/-- The slice A, n, c reads as the numbers zs, and lies at the head of a block from lo on, below hi, that may be written. -/
def OW (w : World) (lo hi : Nat) (A : Option Addr) (n c : Nat) (zs : List Int) : Prop :=
  RI w A zs ∧ zs.length = n ∧ n ≤ c ∧ (n = 0 ∨ ∃ g cur, A = some ⟨g, 0, none⟩ ∧ lo ≤ g ∧ g < hi ∧ Blk w g 3 cur ∧ n ≤ cur.size)
/-- What a function leaves that hands back a new list. -/
def NewW (zs : List Int) (w : World) (e : Ending) (w' : World) : Prop :=
  ∃ A n c, e = .returned (.slice A n c) ∧ zs.length = n ∧ OW w' w.heap.size w'.heap.size A n c zs ∧ Below w.heap.size w w'
section
variable {w w' : World} {lo hi lo' hi' n c : Nat} {A : Option Addr} {zs : List Int}
theorem OW.ri (h : OW w lo hi A n c zs) : RI w A zs ∧ zs.length = n ∧ n ≤ c := ⟨h.1, h.2.1, h.2.2.1⟩
theorem OW.of_blk {g : Nat} {cur : Array Value} (hA : A = some ⟨g, 0, none⟩) (hb : Blk w g 3 cur) (hlo : lo ≤ g) (hhi : g < hi) (hn : zs.length = n) (hc : n ≤ c) (hs : n ≤ cur.size) (h : ∀ j, j < n → cur[j]? = some (.int .i64 (nth zs j))) : OW w lo hi A n c zs := by
  refine ⟨fun k v hk => ?_, hn, hc, .inr ⟨g, cur, hA, hlo, hhi, hb, hs⟩⟩
  have hkl : k < zs.length := by
    rcases Nat.lt_or_ge k zs.length with h1 | h1
    · exact h1
    · rw [List.getElem?_eq_none (by simpa using h1)] at hk; cases hk
  refine ⟨g, 0, hA, hb.lt, ?_⟩
  rw [Nat.zero_add, hb.cell, h k (by omega), ← hk]
  simp [nth, hkl]
theorem OW.to (h : OW w lo hi A n c zs) (hb : Below w.heap.size w w') : OW w' lo hi A n c zs := by
  obtain ⟨h1, h2, h3, h4⟩ := h
  refine ⟨h1.to hb, h2, h3, h4.imp id ?_⟩
  rintro ⟨g, cur, e, a, b, hk, s⟩
  exact ⟨g, cur, e, a, b, hk.to hb, s⟩
theorem OW.turn (h : OW w lo hi A n c zs) (ht : Turn lo' hi' w w') (hd : hi ≤ lo' ∨ hi' ≤ lo) : OW w' lo hi A n c zs := by
  obtain ⟨h1, h2, h3, h4⟩ := h
  rcases h4 with h4 | ⟨g, cur, rfl, a, b, hk, s⟩
  · exact ⟨RI.empty (by omega), h2, h3, .inl h4⟩
  · have hk' : Blk w' g 3 cur := (ht.block g hk.lt (by omega)).trans hk
    refine OW.of_blk rfl hk' a b h2 h3 s (fun j hj => ?_)
    obtain ⟨b', off', e, _, hc⟩ := h1.get (k := j) (by omega)
    cases e
    rw [← hk.cell, ← hc, Nat.zero_add]
theorem OV.ow (h : OV w lo hi 3 1 A n c (zs.map (Value.int .i64))) : OW w lo hi A n c zs := by
  refine ⟨h.ri.1, h.ri.2.1, h.ri.2.2, ?_⟩
  rcases h.1.2 with ⟨_, h0⟩ | ⟨g, cap, cur, hv, hg, hh, hn, hm, hs, ht⟩
  · exact .inl h0
  · injection hv with hA
    exact .inr ⟨g, cur, hA, hg, h.2 _ hA, hh, by omega⟩
end
theorem NewI.w {zs : List Int} {w w' : World} {e : Ending} (h : NewI zs w e w') : NewW zs w e w' := by
  obtain ⟨A, n, c, he, hn, ho, hb⟩ := h
  exact ⟨A, n, c, he, hn, ho.ow, hb⟩
theorem m_markIntS (A : Option Addr) (n c lo hi : Nat) (zs : List Int) (k : Int) (w : World) (h : OW w lo hi A n c zs) (hn : n ≤ 1099511627776) (k0 : 0 ≤ k) (k1 : k ≤ 1099511627776) :
    Calls Try.prog 45 #[.slice A n c, .int .i64 k] w fun e w' => e = .returned (.int .i64 (k + n)) ∧ OW w' lo hi A n c (upFrom k n) ∧ Turn lo hi w w' := by
  obtain ⟨h1, h2, h3, h4⟩ := h
  by_cases h0 : n = 0
  · subst h0
    go_enter Try.func45, Try.ntmps45
    go_wp2
    go_loop [1, 5] (fun m i => m = .int .i64 k ∧ i = .int .i64 0) (fun _ _ => 0)
    case atStart => exact ⟨rfl, rfl⟩
    case round =>
      obtain ⟨rfl, rfl⟩ := hrel
      go_wp2
      go_ret
      exact ⟨ret_int (by simp), ⟨RI.nil _ _, rfl, h3, .inl rfl⟩, ⟨rfl, rfl, rfl, Nat.le_refl _, fun _ _ _ => rfl⟩⟩
  · obtain ⟨g, cur, rfl, a, b, hk, s⟩ := h4.resolve_left h0
    clear h1 h4 h2
    go_enter Try.func45, Try.ntmps45
    go_wp2
    go_loopw [1, 5] (fun m i wr => ∃ (j : Nat) (cs : Array Value), j ≤ n ∧ i = .int .i64 j ∧ m = .int .i64 (k + j) ∧ Hid (cs.size = cur.size) ∧ Hid (∀ j', j' < j → cs[j']? = some (.int .i64 (k + j'))) ∧ Hid (Blk wr g 3 cs) ∧ Hid (Turn lo hi w wr)) (fun _ i _ => n - (intOf i).toNat)
    case atStart => exact ⟨0, cur, Nat.zero_le _, rfl, by simp, rfl, fun j hj => absurd hj (by omega), hk, ⟨rfl, rfl, rfl, Nat.le_refl _, fun _ _ _ => rfl⟩⟩
    case round =>
      obtain ⟨j, cs, hj, rfl, rfl, hs, hP, hB, hT⟩ := hrel
      have kb := hB.out
      by_cases hlt : j < n
      · have hlt2 : j < cs.size := by have := hs.out; omega
        obtain ⟨old, hold⟩ : ∃ old, cs[j]? = some old := ⟨_, Array.getElem?_eq_getElem hlt2⟩
        have hc : wr.cell? ⟨g, j, none⟩ = some old := (kb.cell j).trans hold
        have hf := kb.frozen j
        go_wp2
        go_roundw
        case rel =>
          refine ⟨j + 1, cs.setIfInBounds j (.int .i64 (k + j)), by omega, by go_num, by congr 1; omega, by simpa [Hid] using hs.out, upTo_succ (fun i hi => ?_) ?_, kb.set_ _ _, ?_⟩
          · rw [Array.getElem?_setIfInBounds_ne (by omega)]; exact hP.out i hi
          · rw [Array.getElem?_setIfInBounds_self_of_lt hlt2]
          · have t := hT.out
            exact ⟨t.os, t.tape, t.output, by simpa [World.setCell] using t.size, fun i hi hne => (Below.heap_setCell wr ⟨g, j, none⟩ _ i (fun e => hne (by rw [e]; exact ⟨a, b⟩))).trans (t.block i hi hne)⟩
        case measure => simp [intOf]; omega
      · obtain hjn : j = n := by omega
        subst hjn
        go_wp2
        go_ret
        have hs' := hs.out
        have hP' := hP.out
        exact ⟨rfl, OW.of_blk rfl kb a b (upFrom_len _ _) h3 (by omega) (fun i hi => by rw [upFrom_nth hi]; exact hP' i hi), hT.out⟩
theorem m_heldIntS (A : Option Addr) (n c lo hi : Nat) (k : Int) (w : World) (h : OW w lo hi A n c (upFrom k n)) (hn : n ≤ 1099511627776) (k0 : 0 ≤ k) (k1 : k ≤ 1099511627776) :
    Calls Try.prog 46 #[.slice A n c, .int .i64 k] w fun e w' => e = .returned (.int .i64 (k + n)) ∧ w = w' := by
  have hr := h.1
  have := c_heldIntS A c (upFrom k n) k w hr (by rw [upFrom_len]; exact hn) k0 k1 (fun j hj => upFrom_nth (by rw [upFrom_len] at hj; exact hj))
  rw [upFrom_len] at this
  exact this
end Go.Proofs.Ytaceadddggkkmaa
