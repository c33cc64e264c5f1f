/- Joined: W32. -/
import Derived.Test.YtjflfhjnbccpmaaGreatDoorJ14
import Derived.Deep.OwnRows
set_option linter.unusedVariables false
set_option linter.unusedSimpArgs false
namespace Go.Proofs.YtjflfhjnbccpmaaGreatDoor
open Go.RowKit
theorem c_szStringS (A : Option Addr) (n c : Nat) (xs : List ByteArray) (w : World) (hn : xs.length = n) (h : RS w A xs) (hl : n ≤ maxLen) (hs : ∀ x ∈ xs, x.size ≤ maxLen) :
    Calls Tryz.prog 11 #[.slice A n c, .int .i64 1048576] w fun e w' => ∃ r : Int, e = .returned (.int .i64 r) ∧ (r < 0 ∨ (n ≤ 1048576 ∧ ∀ x ∈ xs, x.size ≤ 1048576)) ∧ w = w' := by
  unfold maxLen at hl hs
  by_cases hx : 1048576 < n
  · have t0 : decide (1048576 - (n : Int) < 0) = true := by rw [decide_eq_true_eq]; omega
    have t1 : IntKind.i64.wrap (1048576 - (n : Int)) = 1048576 - (n : Int) := IntWalk.i64_in _ (by omega)
    go_enter Tryz.func11, Tryz.ntmps11
    go_wp2
    go_ret
    exact ⟨-1, rfl, .inl (by omega), rfl⟩
  have t0 : decide (1048576 - (n : Int) < 0) = false := by rw [decide_eq_false_iff_not]; omega
  have t1 : IntKind.i64.wrap (1048576 - (n : Int)) = 1048576 - (n : Int) := IntWalk.i64_in _ (by omega)
  have HN := Lib.hid hn
  have HS := Lib.hid hs
  clear hn hs
  go_enter Tryz.func11, Tryz.ntmps11
  go_wp2
  go_loopw [1, 5] (fun l i wr => ∃ (k : Nat) (z : Int), k ≤ n ∧ i = .int .i64 k ∧ l = .int .i64 z ∧ 0 ≤ z ∧ z ≤ 1048576 ∧ Hid (∀ x ∈ xs.take k, x.size ≤ 1048576) ∧ wr = w) (fun _ i _ => n - (intOf i).toNat)
  case atStart => exact ⟨0, 1048576 - (n : Int), Nat.zero_le _, rfl, rfl, by omega, by omega, fun x hx => by simp at hx, rfl⟩
  case round =>
    obtain ⟨k, z, hk, rfl, rfl, hz0, hz1, HT, rfl⟩ := hrel
    by_cases hlt : k < n
    · obtain ⟨x, hx, hsz⟩ : ∃ x, xs[k]? = some x ∧ x.size ≤ 9223372036854775807 := by
        have hkx : k < xs.length := by rw [HN.out]; omega
        exact ⟨xs[k], List.getElem?_eq_getElem hkx, by have := HS.out _ (List.getElem_mem hkx); omega⟩
      obtain ⟨b, off, rfl, hbx, c0⟩ := h k (.string x) (by rw [List.getElem?_map, hx]; rfl)
      have HX := Lib.hid hx
      clear hx
      have e1 : (0 : Int) ≤ (k : Int) ∧ (k : Int) < n := by omega
      have e2 : IntKind.i64.wrap (z - (x.size : Int)) = z - (x.size : Int) := IntWalk.i64_in _ (by omega)
      by_cases hneg : z - (x.size : Int) < 0
      · have e3 : decide (z - (x.size : Int) < 0) = true := by rw [decide_eq_true_eq]; exact hneg
        go_wp2
        go_ret
        exact ⟨-1, rfl, .inl (by omega), rfl⟩
      · have e3 : decide (z - (x.size : Int) < 0) = false := by rw [decide_eq_false_iff_not]; exact hneg
        go_wp2
        go_roundw
        case rel => exact ⟨k + 1, z - (x.size : Int), by omega, by go_num, rfl, by omega, by omega, by
          rw [take_snoc HX.out]
          intro y hy
          rcases List.mem_append.1 hy with h | h
          · exact HT.out y h
          · simp at h; subst h; omega, by trivial⟩
        case measure => simp [intOf]; omega
    · have hkn : k = n := by omega
      go_wp2
      go_ret
      exact ⟨z, rfl, .inr ⟨by omega, by have := HT.out; rw [hkn, ← HN.out, List.take_length] at this; exact this⟩, rfl⟩
theorem run_make_strs (n : Nat) (hn : n ≤ 1099511627776) : ∃ cs : Array Value, cs.size = n ∧ ∀ w, (Instr.makeSlice 23 (.int .i64 (n : Int)) (.int .i64 (n : Int))).run Tryz.prog w = .ok (.slice (some ⟨w.heap.size, 0, none⟩) n n) (w.alloc (.cells cs 9)) :=
  ⟨madeCells #[.string ⟨#[]⟩] n, by simp [madeCells], fun w => run_make_row' (P := Tryz.prog) 23 9 _ 16 Tryz.underlying23 str_info rfl .i64 .i64 n (by omega) (by omega) w⟩
theorem c_toStringS (A : Option Addr) (n c : Nat) (xs : List ByteArray) (w : World) (hn : xs.length = n) (h : RS w A xs) (hl : n ≤ 1099511627776) :
    Calls Tryz.prog 12 #[.slice A n c] w fun e w' => ∃ g, e = .returned (.slice (some ⟨g, 0, none⟩) n n) ∧ RS w' (some ⟨g, 0, none⟩) xs ∧ Below w.heap.size w w' := by
  obtain ⟨cs0, hs0, hmk⟩ := run_make_strs n hl
  have HN := Lib.hid hn
  have HS0 := Lib.hid hs0
  clear hn hs0
  go_enter Tryz.func12, Tryz.ntmps12
  go_wp2
  go_loopw [4] (fun i wr => ∃ (k : Nat) (cs : Array Value), k ≤ n ∧ i = .int .i64 k ∧ Hid (cs.size = n) ∧ Hid (∀ j, j < k → cs[j]? = (xs.map Value.string)[j]?) ∧ wr = w.alloc (.cells cs 9)) (fun i _ => n - (intOf i).toNat)
  case atStart => exact ⟨0, _, Nat.zero_le _, rfl, HS0.out, fun j hj => absurd hj (by omega), rfl⟩
  case round =>
    obtain ⟨k, cs, hk, rfl, hs, hP, rfl⟩ := hrel
    by_cases hlt : k < n
    · obtain ⟨x, hx⟩ : ∃ x, xs[k]? = some x := ⟨_, List.getElem?_eq_getElem (by rw [HN.out]; exact hlt)⟩
      obtain ⟨b, off, rfl, hb, hc⟩ := h.alloc (.cells cs 9) k (.string x) (by rw [List.getElem?_map, hx]; rfl)
      have HX := Lib.hid hx
      clear hx
      obtain ⟨old, hold⟩ : ∃ old, cs[k]? = some old := ⟨_, Array.getElem?_eq_getElem (by have := hs.out; omega)⟩
      have e1 : (0 : Int) ≤ (k : Int) ∧ (k : Int) < n := by omega
      go_wp2
      go_roundw
      case rel =>
        refine ⟨k + 1, _, by omega, by go_num, by simpa [Hid] using hs.out, upTo_succ (fun j hj => ?_) ?_, rfl⟩
        · rw [Array.getElem?_setIfInBounds_ne (by omega)]; exact hP.out j hj
        · rw [Array.getElem?_setIfInBounds_self_of_lt (by have := hs.out; omega), List.getElem?_map, HX.out]; rfl
      case measure => simp [intOf]; omega
    · go_wp2
      go_ret
      have hkn : k = n := by omega
      refine ⟨_, rfl, ?_, (Below.refl _ _).alloc (Nat.le_refl _) _⟩
      have hcs : cs.toList = xs.map Value.string := by
        apply List.ext_getElem?
        intro j
        rw [Array.getElem?_toList]
        rcases Nat.lt_or_ge j n with hj | hj
        · exact hP.out j (by omega)
        · rw [List.getElem?_eq_none (by rw [List.length_map, HN.out]; exact hj), Array.getElem?_eq_none (by rw [hs.out]; exact hj)]
      have := (Blk.new w 9 cs).rd
      rw [hcs] at this
      exact this
theorem c_eqStringS (A B : Option Addr) (n c d : Nat) (xs : List ByteArray) (w : World) (hn : xs.length = n) (h : RS w A xs) (h' : RS w B xs) (hl : n ≤ 1099511627776) :
    Calls Tryz.prog 13 #[.slice A n c, .slice B n d] w fun e w' => e = .returned (.bool true) ∧ Below w.heap.size w w' := by
  have HN := Lib.hid hn
  clear hn
  have tn : ((n : Int) != (n : Int)) = false := by simp
  go_enter Tryz.func13, Tryz.ntmps13
  go_wp2
  go_loopw [5] (fun i wr => ∃ k q : Nat, k ≤ n ∧ i = .int .i64 k ∧ wr = w.drewN q) (fun i _ => n - (intOf i).toNat)
  case atStart => exact ⟨0, 0, Nat.zero_le _, rfl, rfl⟩
  case round =>
    obtain ⟨k, q, hk, rfl, rfl⟩ := hrel
    by_cases hlt : k < n
    · obtain ⟨x, hx⟩ : ∃ x, xs[k]? = some x := ⟨_, List.getElem?_eq_getElem (by rw [HN.out]; exact hlt)⟩
      obtain ⟨b, off, rfl, hb, c0⟩ := h k (.string x) (by rw [List.getElem?_map, hx]; rfl)
      obtain ⟨b', off', rfl, hb', c1⟩ := h' k (.string x) (by rw [List.getElem?_map, hx]; rfl)
      clear hx
      have e1 : (0 : Int) ≤ (k : Int) ∧ (k : Int) < n := by omega
      go_wp2
      go_quiet (fail)
      go_wp2
      go_roundw
      case rel => exact ⟨k + 1, _, by omega, by go_num, rfl⟩
      case measure => simp [intOf]; omega
    · go_wp2
      go_ret
      exact ⟨rfl, Bl.of_drewN w q⟩
end Go.Proofs.YtjflfhjnbccpmaaGreatDoor
