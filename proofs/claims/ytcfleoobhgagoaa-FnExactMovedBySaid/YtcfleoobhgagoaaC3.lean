/- Contracts of the functions that count for how many addresses each of a pool stands. -/
import Derived.Test.YtcfleoobhgagoaaC2
import Derived.Test.YtcfleoobhgagoaaApp
namespace Go.Proofs.Ytcfleoobhgagoaa
open Go.RowKit

/-- What a count leaves: nil where nothing may be asked, else a new slice of the counts. -/
def CntQ (zs qs : List Int) (w : World) (e : Ending) (w' : World) : Prop :=
  ((vPool zs && askB qs) = false ∧ e = .returned (.slice none 0 0) ∧ Below w.heap.size w w') ∨
  ((vPool zs && askB qs) = true ∧ ∃ g, e = .returned (.slice (some ⟨g, 0, none⟩) zs.length zs.length) ∧ Blk w' g 3 (ints (pcs zs qs)) ∧ w.heap.size ≤ g ∧ Below w.heap.size w w')

theorem c_iPoolCounts (A B : Option Addr) (c d : Nat) (zs qs : List Int) (w : World) (h : RI w A zs) (h2 : RI w B qs) (hl : zs.length ≤ 1099511627776) (hl2 : qs.length ≤ 1099511627776) :
    Calls Try.prog 28 #[.slice A zs.length c, .slice B qs.length d] w (CntQ zs qs w) := by
  obtain ⟨i0, hi, hz0, hz1, hz2⟩ := info_parts int_info
  have hmk := fun W => run_make_ints (P := Try.prog) 22 3 i0 Try.underlying22 hi hz0 hz1 hz2 zs.length hl W
  cases hv : vPool zs
  · go_enter Try.func28, Try.ntmps28
    go_wp2_with (go_at_call 22; refine (c_iValidPool _ _ _ _ h hl).mono ?_; rintro e w' ⟨rfl, rfl⟩)
    go_ret
    exact Or.inl ⟨by simp [hv], rfl, Below.refl _ _⟩
  · cases ha : askB qs
    · go_enter Try.func28, Try.ntmps28
      go_wp2_with (first | (go_at_call 22; refine (c_iValidPool _ _ _ _ h hl).mono ?_; rintro e w' ⟨rfl, rfl⟩) | (go_at_call 50; refine (c_asked _ _ _ _ h2 hl2).mono ?_; rintro e w' ⟨rfl, rfl⟩))
      go_ret
      exact Or.inl ⟨by simp [ha], rfl, Below.refl _ _⟩
    · have hz := vPool_len hv
      have hq := ask_at ha
      have HQ := Lib.hid hq.2
      have hq1 := hq.1
      clear hq
      go_enter Try.func28, Try.ntmps28
      go_wp2_with (first | (go_at_call 22; refine (c_iValidPool _ _ _ _ h hl).mono ?_; rintro e w' ⟨rfl, rfl⟩) | (go_at_call 50; refine (c_asked _ _ _ _ h2 hl2).mono ?_; rintro e w' ⟨rfl, rfl⟩))
      go_loopw [21] (fun i wr => ∃ (k : Nat) (cs : Array Value), k ≤ qs.length ∧ i = .int .i64 k ∧ Hid (cs.size = zs.length) ∧ Hid (∀ j, j < zs.length → cs[j]? = some (.int .i64 (cnt zs (qs.take k) j))) ∧ wr = w.alloc (.cells cs 3)) (fun i _ => qs.length - (intOf i).toNat)
      case atStart => exact ⟨0, _, Nat.zero_le _, rfl, by simp [Hid], fun j hj => by simp [cnt, hj], rfl⟩
      case round =>
        obtain ⟨k, cs, hk, rfl, hs, hP, rfl⟩ := hrel
        by_cases hlt : k < qs.length
        · obtain ⟨b, off, rfl, hb, hc⟩ := h2.get hlt
          have hr := HQ.out k hlt
          have hsp := spr_bd (a := nth qs k) (m := zs.length) (by omega)
          have hcs := hP.out (spr (nth qs k) zs.length).toNat (by omega)
          have hbd := cnt_bd zs (qs.take k) (spr (nth qs k) zs.length).toNat
          rw [List.length_take] at hbd
          go_wp2_with (go_at_call 46; refine (c_place _ _ _ _ _ (by omega) (by omega) (by omega)).mono ?_; rintro e w' ⟨rfl, rfl⟩)
          go_roundw
          case rel =>
            refine ⟨k + 1, _, by omega, by go_num, by simpa [Hid] using hs.out, fun j hj => ?_, rfl⟩
            rw [take_succ_nth hlt, cnt_snoc]
            by_cases hj2 : j = (spr (nth qs k) zs.length).toNat
            · subst hj2
              rw [Array.getElem?_setIfInBounds_self_of_lt (by have := hs.out; omega), if_pos (by omega)]
            · rw [Array.getElem?_setIfInBounds_ne (fun e => hj2 e.symm), if_neg (by omega), Int.add_zero]
              exact hP.out j hj
          case measure => simp [intOf]; omega
        · go_wp2
          go_ret
          have hcs : cs = ints (pcs zs qs) := ints_ext (by rw [pcs_len]; exact hs.out) (fun j hj => by
            rw [pcs_len] at hj
            rw [hP.out j hj, pcs_nth hj, List.take_of_length_le (by omega)])
          exact Or.inr ⟨by simp [hv, ha], _, rfl, hcs ▸ Blk.new w _ cs, Nat.le_refl _, (Below.refl _ _).alloc (Nat.le_refl _) _⟩

theorem c_sPoolCounts (A B : Option Addr) (c d : Nat) (zs qs : List Int) (w : World) (h : RI w A zs) (h2 : RI w B qs) (hl : zs.length ≤ 1099511627776) (hl2 : qs.length ≤ 1099511627776) :
    Calls Try.prog 27 #[.slice A zs.length c, .slice B qs.length d] w (CntQ zs qs w) := by
  obtain ⟨i0, hi, hz0, hz1, hz2⟩ := info_parts int_info
  have hmk := fun W => run_make_ints (P := Try.prog) 22 3 i0 Try.underlying22 hi hz0 hz1 hz2 zs.length hl W
  cases hv : vPool zs
  · go_enter Try.func27, Try.ntmps27
    go_wp2_with (go_at_call 41; refine (c_sValidPool' _ _ _ _ h hl).mono ?_; rintro e w' ⟨rfl, q, rfl⟩)
    go_ret
    exact Or.inl ⟨by simp [hv], rfl, Bl.of_drewN _ _⟩
  · by_cases h12 : qs.length ≤ 12
    · cases ha : allIn qs 0 65535
      · go_enter Try.func27, Try.ntmps27
        go_wp2_with (first | (go_at_call 41; refine (c_sValidPool' _ _ _ _ h hl).mono ?_; rintro e w' ⟨rfl, q, rfl⟩) | (go_at_call 49; refine (c_allIn _ _ _ _ _ _ (h2.drewN _) hl2).mono ?_; rintro e w' ⟨rfl, rfl⟩))
        go_ret
        exact Or.inl ⟨by simp [askB, ha], rfl, Bl.of_drewN _ _⟩
      · have haa : askB qs = true := by simp [askB, ha, h12]
        have hz := vPool_len hv
        have HQ := Lib.hid (ask_at haa).2
        go_enter Try.func27, Try.ntmps27
        go_wp2_with fail
        refine (c_sValidPool' _ _ _ _ h hl).mono ?_
        rintro e w1 ⟨rfl, b⟩
        replace b := Bl.quiet b
        replace h2 := h2.to b
        clear h
        go_wp2_with (go_at_call 49; refine (c_allIn _ _ _ _ _ _ h2 hl2).mono ?_; rintro e w' ⟨rfl, rfl⟩)
        go_loopw [6] (fun i wr => ∃ (k : Nat) (cs : Array Value), k ≤ qs.length ∧ i = .int .i64 k ∧ Hid (cs.size = zs.length) ∧ Hid (∀ j, j < zs.length → cs[j]? = some (.int .i64 (cnt zs (qs.take k) j))) ∧ wr = w1.alloc (.cells cs 3)) (fun i _ => qs.length - (intOf i).toNat)
        case atStart => exact ⟨0, _, Nat.zero_le _, rfl, by simp [Hid], fun j hj => by simp [cnt, hj], rfl⟩
        case round =>
          obtain ⟨k, cs, hk, rfl, hs, hP, rfl⟩ := hrel
          by_cases hlt : k < qs.length
          · obtain ⟨b', off, rfl, hb, hc⟩ := h2.get hlt
            have hr := HQ.out k hlt
            have hsp := spr_bd (a := nth qs k) (m := zs.length) (by omega)
            have hcs := hP.out (spr (nth qs k) zs.length).toNat (by omega)
            have hbd := cnt_bd zs (qs.take k) (spr (nth qs k) zs.length).toNat
            rw [List.length_take] at hbd
            go_wp2_with (go_at_call 45; refine (c_spread _ _ _ (by omega) (by omega) (by omega)).mono ?_; rintro e w' ⟨rfl, rfl⟩)
            go_roundw
            case rel =>
              refine ⟨k + 1, _, by omega, by go_num, by simpa [Hid] using hs.out, fun j hj => ?_, rfl⟩
              rw [take_succ_nth hlt, cnt_snoc]
              by_cases hj2 : j = (spr (nth qs k) zs.length).toNat
              · subst hj2
                rw [Array.getElem?_setIfInBounds_self_of_lt (by have := hs.out; omega), if_pos (by omega)]
              · rw [Array.getElem?_setIfInBounds_ne (fun e => hj2 e.symm), if_neg (by omega), Int.add_zero]
                exact hP.out j hj
            case measure => simp [intOf]; omega
          · go_wp2
            go_ret
            have hcs : cs = ints (pcs zs qs) := ints_ext (by rw [pcs_len]; exact hs.out) (fun j hj => by
              rw [pcs_len] at hj
              rw [hP.out j hj, pcs_nth hj, List.take_of_length_le (by omega)])
            exact Or.inr ⟨by simp [hv, haa], _, rfl, hcs ▸ Blk.new w1 _ cs, b.size, Bl.then b ((Below.refl _ _).alloc (Nat.le_refl _) _)⟩
    · go_enter Try.func27, Try.ntmps27
      go_wp2_with (go_at_call 41; refine (c_sValidPool' _ _ _ _ h hl).mono ?_; rintro e w' ⟨rfl, q, rfl⟩)
      go_ret
      exact Or.inl ⟨by simp [askB, h12], rfl, Bl.of_drewN _ _⟩
end Go.Proofs.Ytcfleoobhgagoaa
