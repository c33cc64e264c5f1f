/- Contracts of the laws' marks on records of the call's own. -/
import Derived.Test.YtaceadddggkkmaaRT2
import Derived.Test.YtaceadddggkkmaaR7
namespace Go.Proofs.Ytaceadddggkkmaa
open Go.RowKit

/-- The records that the marks from k on leave. -/
def mkR (k : Int) (j : Nat) : Rec := ⟨k + 5 * j, k + 5 * j + 1, k + 5 * j + 1 + 1, k + 5 * j + 1 + 1 + 1, (k + 5 * j + 1 + 1 + 1 + 1) % 3 == 0⟩
def upR (k : Int) (n : Nat) : List Rec := (List.range n).map (mkR k)
theorem upR_len (k : Int) (n : Nat) : (upR k n).length = n := by simp [upR]
theorem upR_nth {k : Int} {n j : Nat} (h : j < n) : rn (upR k n) j = mkR k j := by simp [upR, rn, h]

theorem Turn.set_ {lo hi g j : Nat} {w wr : World} {v : Value} (t : Turn lo hi w wr) (a : lo ≤ g) (b : g < hi) : Turn lo hi w (wr.setCell ⟨g, j, none⟩ v) :=
  ⟨t.os, t.tape, t.output, by simpa [World.setCell] using t.size, fun i hi hne => (Below.heap_setCell wr ⟨g, j, none⟩ _ i (fun e => hne (by rw [e]; exact ⟨a, b⟩))).trans (t.block i hi hne)⟩

set_option maxHeartbeats 1600000 in
theorem m_markRecordS (A : Option Addr) (n c lo hi : Nat) (l : List Rec) (k : Int) (w : World) (h : OR w lo hi A n c l) (hn : n ≤ 1099511627776) (k0 : 0 ≤ k) (k1 : k ≤ 1099511627776) :
    Calls Try.prog 37 #[.slice A n c, .int .i64 k] w fun e w' => e = .returned (.int .i64 (k + 5 * n)) ∧ OR w' lo hi A n c (upR k n) ∧ Turn lo hi w w' := by
  obtain ⟨h1, h2, h3, h4⟩ := h
  by_cases h0 : n = 0
  · subst h0
    go_enter Try.func37, Try.ntmps37
    go_wp2
    go_loop [1, 5] (fun m i => m = .int .i64 k ∧ i = .int .i64 0) (fun _ _ => 0)
    case atStart => exact ⟨rfl, rfl⟩
    case round =>
      obtain ⟨rfl, rfl⟩ := hrel
      go_wp2
      go_ret
      exact ⟨ret_int (by simp), ⟨RR.nil _ _, rfl, h3, .inl rfl⟩, ⟨rfl, rfl, rfl, Nat.le_refl _, fun _ _ _ => rfl⟩⟩
  · obtain ⟨g, cur, rfl, a, b, hk, s⟩ := h4.resolve_left h0
    clear h1 h4 h2
    go_enter Try.func37, Try.ntmps37
    go_wp2
    go_loopw [1, 5] (fun m i wr => ∃ (j : Nat) (cs : Array Value), j ≤ n ∧ i = .int .i64 j ∧ m = .int .i64 (k + 5 * j) ∧ Hid (cs.size = cur.size) ∧ Hid (∀ j', j' < j * 5 → cs[j']? = (recCs (upR k n))[j']?) ∧ Hid (Blk wr g 29 cs) ∧ Hid (Turn lo hi w wr)) (fun _ i _ => n - (intOf i).toNat)
    case atStart => exact ⟨0, cur, Nat.zero_le _, rfl, by simp, rfl, fun j hj => absurd hj (by omega), hk, ⟨rfl, rfl, rfl, Nat.le_refl _, fun _ _ _ => rfl⟩⟩
    case round =>
      obtain ⟨j, cs, hj, rfl, rfl, hs, hP, hB, hT⟩ := hrel
      have kb := hB.out
      by_cases hlt : j < n
      · have hsz := hs.out
        obtain ⟨v0, e0⟩ : ∃ v, cs[j * 5]? = some v := ⟨_, Array.getElem?_eq_getElem (by omega)⟩
        obtain ⟨v1, e1⟩ : ∃ v, cs[j * 5 + 1]? = some v := ⟨_, Array.getElem?_eq_getElem (by omega)⟩
        obtain ⟨v2, e2⟩ : ∃ v, cs[j * 5 + 2]? = some v := ⟨_, Array.getElem?_eq_getElem (by omega)⟩
        obtain ⟨v3, e3⟩ : ∃ v, cs[j * 5 + 3]? = some v := ⟨_, Array.getElem?_eq_getElem (by omega)⟩
        obtain ⟨v4, e4⟩ : ∃ v, cs[j * 5 + 4]? = some v := ⟨_, Array.getElem?_eq_getElem (by omega)⟩
        have y0 : wr.cell? ⟨g, j * 5, none⟩ = some v0 := (kb.cell _).trans e0
        have y1 : wr.cell? ⟨g, j * 5 + 1, none⟩ = some v1 := (kb.cell _).trans e1
        have y2 : wr.cell? ⟨g, j * 5 + 2, none⟩ = some v2 := (kb.cell _).trans e2
        have y3 : wr.cell? ⟨g, j * 5 + 3, none⟩ = some v3 := (kb.cell _).trans e3
        have y4 : wr.cell? ⟨g, j * 5 + 4, none⟩ = some v4 := (kb.cell _).trans e4
        have f0 := kb.frozen (j * 5)
        have f1 := kb.frozen (j * 5 + 1)
        have f2 := kb.frozen (j * 5 + 2)
        have f3 := kb.frozen (j * 5 + 3)
        have f4 := kb.frozen (j * 5 + 4)
        clear e0 e1 e2 e3 e4 hsz
        go_wp2
        go_roundw
        case rel =>
          refine ⟨j + 1, _, by omega, by go_num, by congr 1; omega, ?_, ?_, ((((kb.set_ (j * 5) _).set_ (j * 5 + 1) _).set_ (j * 5 + 2) _).set_ (j * 5 + 3) _).set_ (j * 5 + 4) _, ((((hT.out.set_ a b).set_ a b).set_ a b).set_ a b).set_ a b⟩
          · simpa [Hid] using hs.out
          · intro j' hj'
            have hsz := hs.out
            have hp := hP.out
            by_cases hjk : j' < j * 5
            · rw [← hp j' hjk]
              simp only [Array.getElem?_setIfInBounds]
              rw [if_neg (by omega), if_neg (by omega), if_neg (by omega), if_neg (by omega), if_neg (by omega)]
            · obtain ⟨i, rfl⟩ : ∃ i, j' = j * 5 + i := ⟨j' - j * 5, by omega⟩
              have hi5 : i < 5 := by omega
              rw [recCs_at (by rw [upR_len]; exact hlt) hi5, upR_nth hlt]
              simp only [Array.getElem?_setIfInBounds, Array.size_setIfInBounds]
              rcases i with _ | _ | _ | _ | _ | i
              · rw [if_neg (by omega), if_neg (by omega), if_neg (by omega), if_neg (by omega), if_pos (by omega), if_pos (by omega)]; rfl
              · rw [if_neg (by omega), if_neg (by omega), if_neg (by omega), if_pos (by omega), if_pos (by omega)]; rfl
              · rw [if_neg (by omega), if_neg (by omega), if_pos (by omega), if_pos (by omega)]; rfl
              · rw [if_neg (by omega), if_pos (by omega), if_pos (by omega)]; rfl
              · rw [if_pos (by omega), if_pos (by omega)]; rfl
              · omega
        case measure => simp [intOf]; omega
      · obtain rfl : j = n := by omega
        go_wp2
        go_ret
        have hs' := hs.out
        refine ⟨rfl, ⟨RR.of_blk kb (by rw [upR_len]; exact hP.out), upR_len _ _, h3, .inr ⟨g, cs, rfl, a, b, kb, by omega⟩⟩, hT.out⟩

theorem c_heldRecordS (A : Option Addr) (n c : Nat) (k : Int) (w : World) (h : RR w A (upR k n)) (hn : n ≤ 1099511627776) (k0 : 0 ≤ k) (k1 : k ≤ 1099511627776) :
    Calls Try.prog 38 #[.slice A n c, .int .i64 k] w fun e w' => e = .returned (.int .i64 (k + 5 * n)) ∧ w = w' := by
  go_enter Try.func38, Try.ntmps38
  go_wp2
  go_loop [1, 5] (fun m i => ∃ j : Nat, j ≤ n ∧ i = .int .i64 j ∧ m = .int .i64 (k + 5 * j)) (fun _ i => n - (intOf i).toNat)
  case atStart => exact ⟨0, Nat.zero_le _, rfl, by simp⟩
  case round =>
    obtain ⟨j, hj, rfl, rfl⟩ := hrel
    by_cases hlt : j < n
    · obtain ⟨b, off, rfl, hb, c0, c1, c2, c3, c4⟩ := h.get (k := j) (by rw [upR_len]; exact hlt)
      rw [upR_nth hlt] at c0 c1 c2 c3 c4
      simp only [mkR] at c0 c1 c2 c3 c4
      go_wp2
      go_round
      case rel => exact ⟨j + 1, by omega, by go_num, by congr 1; omega⟩
      case measure => simp [intOf]; omega
    · obtain rfl : j = n := by omega
      go_wp2
      go_ret
      exact ⟨rfl, rfl⟩
end Go.Proofs.Ytaceadddggkkmaa
