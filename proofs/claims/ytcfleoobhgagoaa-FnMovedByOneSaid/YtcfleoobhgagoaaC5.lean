/- Contracts of the functions that tell which address of a pool stands for the most. -/
import Derived.Test.YtcfleoobhgagoaaC4
namespace Go.Proofs.Ytcfleoobhgagoaa
open Go.RowKit

theorem c_Max (A : Option Addr) (c : Nat) (zs : List Int) (w : World) (h : RI w A zs) (h0 : 0 < zs.length) (hl : zs.length ≤ 1099511627776) :
    Calls Try.prog 55 #[.slice A zs.length c] w fun e w' => e = .returned (.int .i64 (nth zs (amaxUp zs zs.length))) ∧ w = w' := by
  obtain ⟨b0, off0, rfl, _, hc0⟩ := h.get h0
  rw [Nat.add_zero] at hc0
  go_enter Try.func55, Try.ntmps55
  go_wp2
  go_loop [3, 4] (fun m i => ∃ k : Nat, 1 ≤ k ∧ k ≤ zs.length ∧ i = .int .i64 k ∧ m = .int .i64 (nth zs (amaxUp zs k))) (fun _ i => zs.length - (intOf i).toNat)
  case atStart => exact ⟨1, by omega, by omega, rfl, by rw [amaxUp_one]⟩
  case round =>
    obtain ⟨k, hk1, hk, rfl, rfl⟩ := hrel
    by_cases hlt : k < zs.length
    · obtain ⟨b, off, e, hb, hc⟩ := h.get hlt
      cases e
      go_wp2
      go_round
      case rel =>
        refine ⟨k + 1, by omega, by omega, by go_num, ?_⟩
        congr 1
        conv => rhs; unfold amaxUp
        split <;> rfl
      case measure => simp [intOf]; omega
    · obtain hkk : k = zs.length := by omega
      subst hkk
      go_wp2
      go_ret
      exact ⟨rfl, rfl⟩

theorem c_Index (A : Option Addr) (c m : Nat) (zs : List Int) (w : World) (h : RI w A zs) (hm : m < zs.length) (hf : ∀ j, j < m → (nth zs m == nth zs j) = false) (hl : zs.length ≤ 1099511627776) :
    Calls Try.prog 54 #[.slice A zs.length c, .int .i64 (nth zs m)] w fun e w' => e = .returned (.int .i64 (m : Int)) ∧ w = w' := by
  have HF := Lib.hid hf
  clear hf
  go_enter Try.func54, Try.ntmps54
  go_wp2
  go_loop [8] (fun i => ∃ k : Nat, k ≤ m ∧ i = .int .i64 k) (fun i => zs.length - (intOf i).toNat)
  case atStart => exact ⟨0, by omega, rfl⟩
  case round =>
    obtain ⟨k, hk, rfl⟩ := hrel
    obtain ⟨b, off, rfl, hb, hc⟩ := h.get (k := k) (by omega)
    by_cases hkm : k = m
    · subst hkm
      have he : (nth zs k == nth zs k) = true := by simp
      go_wp2
      go_ret
      exact ⟨rfl, rfl⟩
    · have he := HF.out k (by omega)
      go_wp2
      go_round
      case rel => exact ⟨k + 1, by omega, by go_num⟩
      case measure => simp [intOf]; omega

theorem c_MaxN (A : Option Addr) (n c : Nat) (zs : List Int) (w : World) (hn : zs.length = n) (h : RI w A zs) (h0 : 0 < n) (hl : n ≤ 1099511627776) :
    Calls Try.prog 55 #[.slice A n c] w fun e w' => e = .returned (.int .i64 (nth zs (amaxUp zs n))) ∧ w = w' := by subst hn; exact c_Max A c zs w h h0 hl
theorem c_IndexN (A : Option Addr) (n c m : Nat) (zs : List Int) (w : World) (hn : zs.length = n) (h : RI w A zs) (hm : m < n) (hf : ∀ j, j < m → (nth zs m == nth zs j) = false) (hl : n ≤ 1099511627776) :
    Calls Try.prog 54 #[.slice A n c, .int .i64 (nth zs m)] w fun e w' => e = .returned (.int .i64 (m : Int)) ∧ w = w' := by subst hn; exact c_Index A c m zs w h hm hf hl

theorem c_iFullestAddr (A B : Option Addr) (c d : Nat) (zs qs : List Int) (w : World) (h : RI w A zs) (h2 : RI w B qs) (hl : zs.length ≤ 1099511627776) (hl2 : qs.length ≤ 1099511627776) :
    Calls Try.prog 34 #[.slice A zs.length c, .slice B qs.length d] w fun e w' => e = .returned (.int .i64 (full zs qs)) ∧ Below w.heap.size w w' := by
  have hnil := fun W a n c => Lib.run_eql_slice_nil (P := Try.prog) W 22 3 a n c 0 0 Try.underlying22
  go_enter Try.func34, Try.ntmps34
  go_wp2_with fail
  refine (c_iPoolCounts _ _ _ _ _ _ _ h h2 hl hl2).mono ?_
  rintro e w1 hq
  rcases hq with ⟨hv, rfl, hb⟩ | ⟨hv, g, rfl, hk, hg, hb⟩
  · go_wp2
    go_ret
    exact ⟨ret_int (by unfold full; rw [hv]; rfl), hb⟩
  · have hvv := vPool_len (Bool.and_eq_true_iff.1 hv).1
    have hm := amaxUp_lt (cs := pcs zs qs) (n := zs.length) (by omega)
    have hpl := pcs_len zs qs
    obtain ⟨b0, off0, rfl, _, hc0⟩ := (h.to hb).get hm
    have HV := Lib.hid hv
    have HP := Lib.hid hpl
    clear hv hpl
    go_wp2_with fail
    refine (c_MaxN _ _ _ (pcs zs qs) _ HP.out (RI.of_blk hk) (by omega) (by omega)).mono ?_
    rintro e w' ⟨rfl, rfl⟩
    go_wp2_with fail
    refine (c_IndexN _ _ _ _ (pcs zs qs) _ HP.out (RI.of_blk hk) hm (fun j hj => by have := amaxUp_first (cs := pcs zs qs) hj; simp; omega) (by omega)).mono ?_
    rintro e w' ⟨rfl, rfl⟩
    go_wp2
    go_ret
    exact ⟨ret_int (by unfold full; rw [HV.out]; rfl), hb⟩

theorem c_sFullestAddr (A B : Option Addr) (c d : Nat) (zs qs : List Int) (w : World) (h : RI w A zs) (h2 : RI w B qs) (hl : zs.length ≤ 1099511627776) (hl2 : qs.length ≤ 1099511627776) :
    Calls Try.prog 33 #[.slice A zs.length c, .slice B qs.length d] w fun e w' => e = .returned (.int .i64 (full zs qs)) ∧ Below w.heap.size w w' := by
  go_enter Try.func33, Try.ntmps33
  go_wp2_with fail
  refine (c_sPoolCounts _ _ _ _ _ _ _ h h2 hl hl2).mono ?_
  rintro e w1 hq
  rcases hq with ⟨hv, rfl, hb⟩ | ⟨hv, g, rfl, hk, hg, hb⟩
  · go_wp2
    go_ret
    exact ⟨ret_int (by unfold full; rw [hv]; rfl), hb⟩
  · have hvv := vPool_len (Bool.and_eq_true_iff.1 hv).1
    have hm := amaxUp_lt (cs := pcs zs qs) (n := zs.length) (by omega)
    obtain ⟨b0, off0, rfl, _, hc0⟩ := (h.to hb).get hm
    have HV := Lib.hid hv
    have HP := Lib.hid (pcs_len zs qs)
    have hri := RI.of_blk hk
    clear hv
    have hz0 : ((zs.length : Int) == 0) = false := by rw [beq_eq_false_iff_ne]; omega
    go_wp2
    go_loopw [6, 7] (fun m i wr => ∃ k q : Nat, 1 ≤ k ∧ k ≤ zs.length ∧ i = .int .i64 k ∧ m = .int .i64 (amaxUp (pcs zs qs) k : Nat) ∧ wr = w1.drewN q) (fun _ i _ => zs.length - (intOf i).toNat)
    case atStart => exact ⟨1, 0, by omega, by omega, rfl, by rw [amaxUp_one]; rfl, rfl⟩
    case round =>
      obtain ⟨k, q, hk1, hk2, rfl, rfl, rfl⟩ := hrel
      have ha := amaxUp_lt (cs := pcs zs qs) (n := k) (by omega)
      by_cases hlt : k < zs.length
      · obtain ⟨b1, off1, e1, _, hc1⟩ := hri.get (k := k) (by rw [HP.out]; exact hlt)
        cases e1
        obtain ⟨b2, off2, e2, _, hc2⟩ := hri.get (k := amaxUp (pcs zs qs) k) (by rw [HP.out]; omega)
        cases e2
        rw [Nat.zero_add] at hc1 hc2
        go_wp2
        go_quiet (fail)
        go_wp2
        all_goals
          go_roundw
          case rel =>
            refine ⟨k + 1, _, by omega, by omega, by go_num, ?_, rfl⟩
            congr 2
            conv => rhs; unfold amaxUp
            first
              | rw [if_pos (by assumption)]
              | rw [if_neg (by omega)]
          case measure => simp [intOf]; omega
      · obtain hkk : k = zs.length := by omega
        subst hkk
        go_wp2
        go_ret
        exact ⟨ret_int (by unfold full; rw [HV.out]; rfl), Bl.then hb (Bl.of_drewN _ _)⟩
theorem n_iFullestAddr (A B : Option Addr) (n m c d : Nat) (zs qs : List Int) (w : World) (h : RI w A zs) (h2 : RI w B qs) (e1 : zs.length = n) (e2 : qs.length = m) (hl : n ≤ 1099511627776) (hl2 : m ≤ 1099511627776) :
    Calls Try.prog 34 #[.slice A n c, .slice B m d] w fun e w' => e = .returned (.int .i64 (full zs qs)) ∧ Below w.heap.size w w' := by
  subst e1 e2; exact c_iFullestAddr A B c d zs qs w h h2 hl hl2
theorem n_sFullestAddr (A B : Option Addr) (n m c d : Nat) (zs qs : List Int) (w : World) (h : RI w A zs) (h2 : RI w B qs) (e1 : zs.length = n) (e2 : qs.length = m) (hl : n ≤ 1099511627776) (hl2 : m ≤ 1099511627776) :
    Calls Try.prog 33 #[.slice A n c, .slice B m d] w fun e w' => e = .returned (.int .i64 (full zs qs)) ∧ Below w.heap.size w w' := by
  subst e1 e2; exact c_sFullestAddr A B c d zs qs w h h2 hl hl2
end Go.Proofs.Ytcfleoobhgagoaa
