/- The laws on valid pools and on addresses of pools, as walks. -/
import Derived.Test.YtcfleoobhgagoaaGen3
namespace Go.Proofs.Ytcfleoobhgagoaa
open Go.RowKit
theorem l_FnExactValidPool (A : Option Addr) (c : Nat) (zs : List Int) (w : World) (h : RI w A zs) :
    Calls Try.prog 3 #[.slice A zs.length c] w fun e w' => e = .returned (.bool true) ∧ Below w.heap.size w w' := by
  by_cases hbig : 1048576 < zs.length
  · go_enter Try.func3, Try.ntmps3
    go_wp2
    go_ret
    exact ⟨rfl, Below.refl _ _⟩
  · go_enter Try.func3, Try.ntmps3
    go_wp2_with fail
    refine (c_toIntS _ _ _ _ h (by omega)).mono ?_
    rintro e w1 ⟨g1, rfl, k1, l1, b⟩
    replace h := h.to b
    have B := b
    clear b
    go_wp2_with fail
    refine (c_sValidPool _ _ _ _ (RI.of_blk k1) (by omega)).mono ?_
    rintro e w2 ⟨rfl, b⟩
    replace b := Bl.quiet b
    replace h := h.to b
    replace B := Bl.then B b
    clear b
    go_wp2_with fail
    refine (c_toIntS _ _ _ _ h (by omega)).mono ?_
    rintro e w3 ⟨g2, rfl, k2, l2, b⟩
    replace h := h.to b
    replace B := Bl.then B b
    clear b
    go_wp2_with fail
    refine (c_iValidPool _ _ _ _ (RI.of_blk k2) (by omega)).mono ?_
    rintro e w' ⟨rfl, rfl⟩
    have hn : (vPool zs != vPool zs) = false := by simp
    go_wp2_with fail
    refine (c_toIntS _ _ _ _ h (by omega)).mono ?_
    rintro e w4 ⟨g3, rfl, k3, l3, b⟩
    replace k2 := k2.to b
    replace B := Bl.then B b
    clear b
    go_wp2_with fail
    refine (c_eqIntS _ _ _ _ _ _ _ (RI.of_blk k2) (RI.of_blk k3) (by omega)).mono ?_
    rintro e w5 ⟨rfl, b⟩
    replace B := Bl.then B (Bl.quiet b)
    rw [eqL_same]
    go_wp2
    go_ret
    exact ⟨rfl, B⟩

theorem l_FnExactPoolAddr (A : Option Addr) (c : Nat) (zs : List Int) (a : Int) (w : World) (h : RI w A zs) :
    Calls Try.prog 4 #[.slice A zs.length c, .int .i64 a] w fun e w' => e = .returned (.bool true) ∧ Below w.heap.size w w' := by
  by_cases hbig : 1048576 < zs.length
  · go_enter Try.func4, Try.ntmps4
    go_wp2
    go_ret
    exact ⟨rfl, Below.refl _ _⟩
  · go_enter Try.func4, Try.ntmps4
    go_wp2_with fail
    refine (c_toIntS _ _ _ _ h (by omega)).mono ?_
    rintro e w1 ⟨g1, rfl, k1, l1, b⟩
    replace h := h.to b
    have B := b
    clear b
    go_wp2_with fail
    refine (c_sPoolAddr _ _ _ _ _ (RI.of_blk k1) (by omega)).mono ?_
    rintro e w2 ⟨rfl, b⟩
    replace b := Bl.quiet b
    replace h := h.to b
    replace B := Bl.then B b
    clear b
    go_wp2_with fail
    refine (c_toIntS _ _ _ _ h (by omega)).mono ?_
    rintro e w3 ⟨g2, rfl, k2, l2, b⟩
    replace h := h.to b
    replace B := Bl.then B b
    clear b
    go_wp2_with fail
    refine (c_iPoolAddr _ _ _ _ _ (RI.of_blk k2) (by omega)).mono ?_
    rintro e w' ⟨rfl, rfl⟩
    go_wp2_with fail
    refine (c_toIntS _ _ _ _ h (by omega)).mono ?_
    rintro e w4 ⟨g3, rfl, k3, l3, b⟩
    replace k2 := k2.to b
    replace B := Bl.then B b
    clear b
    go_wp2_with fail
    refine (c_eqIntS _ _ _ _ _ _ _ (RI.of_blk k2) (RI.of_blk k3) (by omega)).mono ?_
    rintro e w5 ⟨rfl, b⟩
    replace B := Bl.then B (Bl.quiet b)
    rw [eqL_same]
    go_wp2
    go_ret
    exact ⟨rfl, B⟩

theorem l_FnValidPool (A : Option Addr) (n c : Nat) (w : World) (h : RB w A n) (hc : n ≤ c) :
    Calls Try.prog 5 #[.slice A n c] w fun e w' => e = .returned (.bool true) ∧ Below w.heap.size w w' := by
  by_cases hbig : 1048576 < n
  · go_enter Try.func5, Try.ntmps5
    go_wp2
    go_ret
    exact ⟨rfl, Below.refl _ _⟩
  · go_enter Try.func5, Try.ntmps5
    go_wp2_with fail
    refine (c_DrawValidPool _ _ _ _ h hc).mono ?_
    rintro e w1 ⟨C, d, zs, rfl, hd, hl, hz, B⟩
    clear h
    have hn : (vPool zs != vPool zs) = false := by simp
    cases hv : vPool zs
    · go_wp2_with (first | (go_at_call 22; refine (c_iValidPool _ _ _ _ hz (by omega)).mono ?_; rintro e w' ⟨rfl, rfl⟩) | (go_at_call 20; refine (c_sValidPool _ _ _ _ (by first | exact hz | exact hz.drewN _) (by omega)).mono ?_; rintro e w' ⟨rfl, q, rfl⟩))
      go_ret
      exact ⟨rfl, Bl.then B (Bl.of_drewN _ _)⟩
    · have hvl := vPool_len hv
      by_cases h2 : zs.length < 2
      · go_wp2_with (first | (go_at_call 22; refine (c_iValidPool _ _ _ _ hz (by omega)).mono ?_; rintro e w' ⟨rfl, rfl⟩) | (go_at_call 20; refine (c_sValidPool _ _ _ _ (by first | exact hz | exact hz.drewN _) (by omega)).mono ?_; rintro e w' ⟨rfl, q, rfl⟩))
        go_ret
        exact ⟨rfl, Bl.then B (Bl.of_drewN _ _)⟩
      · go_wp2_with fail
        refine (c_iValidPool _ _ _ _ hz (by omega)).mono ?_
        rintro e w' ⟨rfl, rfl⟩
        go_wp2_with fail
        refine (c_sValidPool _ _ _ _ hz (by omega)).mono ?_
        rintro e w' ⟨rfl, q, rfl⟩
        go_wp2_with fail
        refine (c_iValidPoolN _ _ _ (zs.take (zs.length - 1)) _ (by rw [List.length_take]; omega) ((hz.drewN q).take _) (by omega)).mono ?_
        rintro e w' ⟨rfl, rfl⟩
        rw [vPool_take hv (by omega) (by omega)]
        go_wp2_with fail
        refine (c_iValidPoolN _ _ _ (zs.drop 1) _ (by rw [List.length_drop]) (RI.drop (hz.drewN q)) (by omega)).mono ?_
        rintro e w' ⟨rfl, rfl⟩
        rw [vPool_drop hv (by omega)]
        go_wp2
        go_ret
        exact ⟨rfl, Bl.then B (Bl.of_drewN _ _)⟩

theorem l_FnPoolAddrCycle (A : Option Addr) (n c : Nat) (w : World) (h : RB w A n) (hc : n ≤ c) :
    Calls Try.prog 7 #[.slice A n c] w fun e w' => e = .returned (.bool true) ∧ Below w.heap.size w w' := by
  by_cases hbig : 1048576 < n
  · go_enter Try.func7, Try.ntmps7
    go_wp2
    go_ret
    exact ⟨rfl, Below.refl _ _⟩
  · go_enter Try.func7, Try.ntmps7
    go_wp2_with fail
    refine (c_DrawPoolAddr _ _ _ _ h hc).mono ?_
    rintro e w1 ⟨C, d, zs, x, rfl, hd, hl, hz, x0, x1, B⟩
    clear h
    have hn : (pAddr zs x != pAddr zs x) = false := by simp
    by_cases hneg : pAddr zs x < 0 ∨ 65535 < x + 251
    · rcases hneg with hneg | hneg
      all_goals
        go_wp2_with (first | (go_at_call 25; refine (c_iPoolAddr _ _ _ _ _ hz (by omega)).mono ?_; rintro e w' ⟨rfl, rfl⟩) | (go_at_call 24; refine (c_sPoolAddr _ _ _ _ _ (by first | exact hz | exact hz.drewN _) (by omega)).mono ?_; rintro e w' ⟨rfl, q, rfl⟩))
        all_goals
          go_ret
          exact ⟨ret_bool (by simp), Bl.then B (Bl.of_drewN _ _)⟩
    · have hp : ¬ pAddr zs x < 0 := fun e => hneg (.inl e)
      have hx : ¬ 65535 < x + 251 := fun e => hneg (.inr e)
      have HE := Lib.hid (pAddr_cycle hp (by omega))
      clear hneg
      go_wp2_with fail
      refine (c_iPoolAddr _ _ _ _ _ hz (by omega)).mono ?_
      rintro e w' ⟨rfl, rfl⟩
      go_wp2_with fail
      refine (c_sPoolAddr _ _ _ _ _ hz (by omega)).mono ?_
      rintro e w' ⟨rfl, q, rfl⟩
      go_wp2_with fail
      refine (c_iPoolAddr _ _ _ _ _ (hz.drewN q) (by omega)).mono ?_
      rintro e w' ⟨rfl, rfl⟩
      rw [HE.out]
      go_wp2
      go_ret
      exact ⟨ret_bool (by simp), Bl.then B (Bl.of_drewN _ _)⟩

theorem l_FnPoolAddrMany (A : Option Addr) (n c : Nat) (w : World) (h : RB w A n) (hc : n ≤ c) :
    Calls Try.prog 8 #[.slice A n c] w fun e w' => e = .returned (.bool true) ∧ Below w.heap.size w w' := by
  by_cases hbig : 1048576 < n
  · go_enter Try.func8, Try.ntmps8
    go_wp2
    go_ret
    exact ⟨rfl, Below.refl _ _⟩
  · go_enter Try.func8, Try.ntmps8
    go_wp2_with fail
    refine (c_DrawPoolAddr _ _ _ _ h hc).mono ?_
    rintro e w1 ⟨C, d, zs, x, rfl, hd, hl, hz, x0, x1, B⟩
    clear h
    have hn : (pAddr zs x != pAddr zs x) = false := by simp
    by_cases hneg : pAddr zs x < 0 ∨ x < 251
    · rcases hneg with hneg | hneg
      all_goals
        go_wp2_with (first | (go_at_call 25; refine (c_iPoolAddr _ _ _ _ _ hz (by omega)).mono ?_; rintro e w' ⟨rfl, rfl⟩) | (go_at_call 24; refine (c_sPoolAddr _ _ _ _ _ (by first | exact hz | exact hz.drewN _) (by omega)).mono ?_; rintro e w' ⟨rfl, q, rfl⟩))
        all_goals
          go_ret
          exact ⟨ret_bool (by simp), Bl.then B (Bl.of_drewN _ _)⟩
    · have hp : ¬ pAddr zs x < 0 := fun e => hneg (.inl e)
      have hx : ¬ x < 251 := fun e => hneg (.inr e)
      have HE := Lib.hid (pAddr_many hp)
      clear hneg
      go_wp2_with fail
      refine (c_iPoolAddr _ _ _ _ _ hz (by omega)).mono ?_
      rintro e w' ⟨rfl, rfl⟩
      go_wp2_with fail
      refine (c_sPoolAddr _ _ _ _ _ hz (by omega)).mono ?_
      rintro e w' ⟨rfl, q, rfl⟩
      go_wp2_with fail
      refine (c_iPoolAddr _ _ _ _ _ (hz.drewN q) (by omega)).mono ?_
      rintro e w' ⟨rfl, rfl⟩
      rw [HE.out]
      go_wp2
      go_ret
      exact ⟨ret_bool (by simp), Bl.then B (Bl.of_drewN _ _)⟩

theorem l_FnPoolAddr (A : Option Addr) (n c : Nat) (w : World) (h : RB w A n) (hc : n ≤ c) :
    Calls Try.prog 9 #[.slice A n c] w fun e w' => e = .returned (.bool true) ∧ Below w.heap.size w w' := by
  by_cases hbig : 1048576 < n
  · go_enter Try.func9, Try.ntmps9
    go_wp2
    go_ret
    exact ⟨rfl, Below.refl _ _⟩
  · go_enter Try.func9, Try.ntmps9
    go_wp2_with fail
    refine (c_DrawPoolAddr _ _ _ _ h hc).mono ?_
    rintro e w1 ⟨C, d, zs, x, rfl, hd, hl, hz, x0, x1, B⟩
    clear h
    have hn : (pAddr zs x != pAddr zs x) = false := by simp
    by_cases hneg : pAddr zs x < 0
    · go_wp2_with (first | (go_at_call 25; refine (c_iPoolAddr _ _ _ _ _ hz (by omega)).mono ?_; rintro e w' ⟨rfl, rfl⟩) | (go_at_call 24; refine (c_sPoolAddr _ _ _ _ _ (by first | exact hz | exact hz.drewN _) (by omega)).mono ?_; rintro e w' ⟨rfl, q, rfl⟩))
      go_ret
      exact ⟨ret_bool (by simp), Bl.then B (Bl.of_drewN _ _)⟩
    · have hv := pAddr_pos hneg
      have hvl := vPool_len hv.1
      have HI := Lib.hid (pAddr_in hneg)
      have HF := Lib.hid (pAddr_first hneg)
      clear hv
      obtain ⟨b, off, rfl, _, hc0⟩ := hz.get (k := 0) (by omega)
      rw [Nat.add_zero] at hc0
      go_wp2_with fail
      refine (c_iPoolAddr _ _ _ _ _ hz (by omega)).mono ?_
      rintro e w' ⟨rfl, rfl⟩
      go_wp2_with fail
      refine (c_sPoolAddr _ _ _ _ _ hz (by omega)).mono ?_
      rintro e w2 ⟨rfl, b2⟩
      replace b2 := Bl.quiet b2
      replace hz := hz.to b2
      replace hc0 := (hz.get (k := 0) (by omega))
      replace B := Bl.then B b2
      clear b2
      obtain ⟨b', off', e, _, hc0⟩ := hc0
      cases e
      rw [Nat.add_zero] at hc0
      have kI : ∀ W, RI W (some ⟨b, off, none⟩) zs → Calls Try.prog 32 #[.slice (some ⟨b, off, none⟩) zs.length d, .int .i64 (pAddr zs x)] W fun e w' => e = .returned (.bool true) ∧ W = w' := fun W hW => by
        have k := c_isIn (some ⟨b, off, none⟩) d zs (pAddr zs x) W hW (by omega)
        rw [HI.out] at k
        exact k
      have HK := Lib.hid kI
      clear kI
      go_wp2_with fail
      go_quiet ((first | (go_at_call 32; exact quiet_eq (fun W hW => by subst hW; exact HK.out _ (hz.drewN _))) | (go_at_call 25; exact quiet_eq (fun W hW => by subst hW; exact c_iPoolAddrN _ _ _ (zs.take 1) _ _ (by rw [List.length_take]; omega) ((hz.drewN _).take _) (by omega)))))
      rw [HF.out]
      go_wp2
      go_ret
      exact ⟨ret_bool (by simp), Bl.then B (Bl.of_drewN _ _)⟩
end Go.Proofs.Ytcfleoobhgagoaa
