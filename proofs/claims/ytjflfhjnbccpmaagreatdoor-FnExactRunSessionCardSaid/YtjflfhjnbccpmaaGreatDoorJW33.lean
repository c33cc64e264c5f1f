/- Joined: W33. -/
import Derived.Test.YtjflfhjnbccpmaaGreatDoorJ14
import Derived.Test.YtjflfhjnbccpmaaGreatDoorJW32
set_option linter.unusedVariables false
set_option linter.unusedSimpArgs false
namespace Go.Proofs.YtjflfhjnbccpmaaGreatDoor
open Go.RowKit
set_option maxRecDepth 20000 in
set_option maxHeartbeats 1600000 in
theorem l_FnExactRunSession (A : Option Addr) (n c : Nat) (xs : List ByteArray) (w : World) (hn : xs.length = n) (hc : n ≤ c) (hcm : c ≤ maxLen) (h : RS w A xs) (hs : ∀ x ∈ xs, x.size ≤ maxLen) (hE : EnvP w) :
    Calls Tryz.prog 6 #[.slice A n c] w fun e w' => e = .returned (.bool true) ∧ Below w.heap.size w w' := by
  have HN := Lib.hid hn
  have HA : Hid (∀ W, Below w.heap.size w W → RS W A xs) := fun W b => Rd.to h b
  have HE : Hid (∀ W, Below w.heap.size w W → EnvP W) := fun W b => hE.to b
  have J := Lib.hid (c_szStringS A n c xs w hn h (by omega) hs)
  clear hn hcm h hs hE
  go_enter Tryz.func6, Tryz.ntmps6
  go_wp2_with fail
  refine J.out.mono ?_
  rintro e w1 ⟨r, rfl, hr, rfl⟩
  by_cases hneg : r < 0
  · have t0 : decide (r < 0) = true := by rw [decide_eq_true_eq]; exact hneg
    go_wp2
    go_ret
    exact ⟨rfl, Below.refl _ _⟩
  have t0 : decide (r < 0) = false := by rw [decide_eq_false_iff_not]; exact hneg
  have hr2 : n ≤ 1048576 ∧ ∀ x ∈ xs, x.size ≤ 1048576 := hr.resolve_left hneg
  have hn1 := hr2.1
  have HS : Hid (∀ x ∈ xs, x.size ≤ 4000000000) := Lib.hid (fun x hx => by have := hr2.2 x hx; omega)
  clear hr hr2 hneg
  obtain ⟨o, ho⟩ : ∃ o, (⟨(sesL (xs.map (·.data.toList))).toArray⟩ : ByteArray) = o := ⟨_, rfl⟩
  have HO := Lib.hid ho
  clear ho
  go_wp2_with fail
  refine (c_toStringS A n c xs w HN.out (HA.out _ (Below.refl _ _)) (by omega)).mono ?_
  rintro e w2 ⟨g, rfl, hg, B⟩
  go_wp2_with fail
  refine (c_sRun _ n n xs w2 HN.out hg (by omega) HS.out).mono ?_
  rw [HO.out]
  rintro e w3 ⟨rfl, hq⟩
  replace B := Bl.then B hq
  clear hq hg
  go_wp2_with fail
  refine (c_toStringS A n c xs w3 HN.out (HA.out _ B) (by omega)).mono ?_
  rintro e w4 ⟨g4, rfl, hg, hq⟩
  replace B := Bl.then B hq
  clear hq
  go_wp2_with fail
  refine (c_iRun _ n n xs w4 HN.out (Nat.le_refl _) hg (by omega) HS.out (HE.out _ B)).mono ?_
  rw [HO.out]
  rintro e w5 ⟨rfl, hq⟩
  replace B := Bl.then B hq
  replace hg := Rd.to hg hq
  clear hq
  go_wp2_with fail
  refine (c_toStringS A n c xs w5 HN.out (HA.out _ B) (by omega)).mono ?_
  rintro e w6 ⟨g6, rfl, hg6, hq⟩
  replace B := Bl.then B hq
  replace hg := Rd.to hg hq
  clear hq
  go_wp2_with fail
  refine (c_eqStringS _ _ n n n xs w6 HN.out hg hg6 (by omega)).mono ?_
  rintro e w7 ⟨rfl, hq⟩
  replace B := Bl.then B hq
  go_wp2
  go_ret
  exact ⟨rfl, B⟩
end Go.Proofs.YtjflfhjnbccpmaaGreatDoor
