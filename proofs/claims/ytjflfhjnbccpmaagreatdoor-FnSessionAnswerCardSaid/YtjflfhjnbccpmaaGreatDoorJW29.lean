/- Joined: W29. -/
import Derived.Test.YtjflfhjnbccpmaaGreatDoorJ14
import Derived.Test.YtjflfhjnbccpmaaGreatDoorJUV
set_option linter.unusedVariables false
set_option linter.unusedSimpArgs false
namespace Go.Proofs.YtjflfhjnbccpmaaGreatDoor
open Go.RowKit
def strsOf (ls : List (List UInt8)) : List ByteArray := ls.map (fun l => (⟨l.toArray⟩ : ByteArray))
theorem strs_of (ls : List (List UInt8)) : (strsOf ls).map (·.data.toList) = ls := by
  unfold strsOf
  rw [List.map_map]
  exact List.map_id _
set_option maxRecDepth 20000 in
set_option maxHeartbeats 1600000 in
theorem l_FnSessionAnswer (A : Option Addr) (n c : Nat) (w : World) (h : RB w A n) (hc : n ≤ c) (hE : EnvP w) : Calls Tryz.prog 7 #[.slice A n c] w fun e w' => e = .returned (.bool true) ∧ Below w.heap.size w w' := by
  by_cases hbig : 1048576 < n
  · go_enter Tryz.func7, Tryz.ntmps7
    go_wp2
    go_ret
    exact ⟨rfl, Below.refl _ _⟩
  have HE : Hid (∀ W, Below w.heap.size w W → EnvP W) := fun W b => hE.to b
  clear hE
  go_enter Tryz.func7, Tryz.ntmps7
  go_wp2_with fail
  refine (c_DrawRun _ _ _ _ h hc).mono ?_
  rintro e w1 ⟨A1, q, c1, xs, rfl, hq, hqc, hq16, hR, hsz, hfr, B⟩
  have HQ := Lib.hid hq
  have HSZ : Hid (∀ x ∈ xs, x.size ≤ 4000000000) := Lib.hid (fun x hx => by have := hsz x hx; omega)
  have HR : Hid (∀ W, Below w1.heap.size w1 W → RS W A1 xs) := fun W b => Rd.to hR b
  clear hq hsz hR hfr
  go_wp2_with fail
  refine (c_iRun A1 q c1 xs _ HQ.out hqc (HR.out _ (Below.refl _ _)) (by omega) HSZ.out (HE.out _ B)).mono ?_
  rintro e w2 ⟨rfl, hq2⟩
  have B2 := Bl.then B hq2
  obtain ⟨o, ho⟩ : ∃ o, (⟨(sesL (xs.map (·.data.toList))).toArray⟩ : ByteArray) = o := ⟨_, rfl⟩
  rw [ho]
  have HO := Lib.hid ho
  clear ho
  go_wp2_with fail
  refine (c_sRun A1 q c1 xs _ HQ.out (HR.out _ hq2) (by omega) HSZ.out).mono ?_
  rw [HO.out]
  rintro e w3 ⟨rfl, hq3⟩
  have B3 := Bl.then B2 hq3
  have hlit := rd_lit w3 (strsOf sesAns) 9
  have hB4 : Below w.heap.size w (w3.alloc (.cells ((strsOf sesAns).map Value.string).toArray 9)) := B3.alloc B3.size _
  have hls : ∀ x ∈ strsOf sesAns, x.size ≤ 4000000000 := by decide
  have hses : sesL ((strsOf sesAns).map (·.data.toList)) = outAns := by
    rw [strs_of]
    exact ses_Ans
  have J := Lib.hid (c_iRun (some ⟨w3.heap.size, 0, none⟩) _ _ (strsOf sesAns) (w3.alloc (.cells ((strsOf sesAns).map Value.string).toArray 9)) rfl (Nat.le_refl _) hlit (by decide) hls (HE.out _ hB4))
  rw [hses] at J
  have HB4 := Lib.hid hB4
  clear hlit hls hses hB4
  go_wp2_with fail
  refine J.out.mono ?_
  rintro e w5 ⟨rfl, hq5⟩
  have B5 := Bl.then HB4.out hq5
  go_wp2
  go_ret
  exact ⟨ret_bool (by decide +kernel), B5⟩
set_option maxRecDepth 20000 in
set_option maxHeartbeats 1600000 in
theorem l_FnSessionBetween (A : Option Addr) (n c : Nat) (w : World) (h : RB w A n) (hc : n ≤ c) (hE : EnvP w) : Calls Tryz.prog 3 #[.slice A n c] w fun e w' => e = .returned (.bool true) ∧ Below w.heap.size w w' := by
  by_cases hbig : 1048576 < n
  · go_enter Tryz.func3, Tryz.ntmps3
    go_wp2
    go_ret
    exact ⟨rfl, Below.refl _ _⟩
  have HE : Hid (∀ W, Below w.heap.size w W → EnvP W) := fun W b => hE.to b
  clear hE
  go_enter Tryz.func3, Tryz.ntmps3
  go_wp2_with fail
  refine (c_DrawRun _ _ _ _ h hc).mono ?_
  rintro e w1 ⟨A1, q, c1, xs, rfl, hq, hqc, hq16, hR, hsz, hfr, B⟩
  have HQ := Lib.hid hq
  have HSZ : Hid (∀ x ∈ xs, x.size ≤ 4000000000) := Lib.hid (fun x hx => by have := hsz x hx; omega)
  have HR : Hid (∀ W, Below w1.heap.size w1 W → RS W A1 xs) := fun W b => Rd.to hR b
  clear hq hsz hR hfr
  go_wp2_with fail
  refine (c_iRun A1 q c1 xs _ HQ.out hqc (HR.out _ (Below.refl _ _)) (by omega) HSZ.out (HE.out _ B)).mono ?_
  rintro e w2 ⟨rfl, hq2⟩
  have B2 := Bl.then B hq2
  obtain ⟨o, ho⟩ : ∃ o, (⟨(sesL (xs.map (·.data.toList))).toArray⟩ : ByteArray) = o := ⟨_, rfl⟩
  rw [ho]
  have HO := Lib.hid ho
  clear ho
  go_wp2_with fail
  refine (c_sRun A1 q c1 xs _ HQ.out (HR.out _ hq2) (by omega) HSZ.out).mono ?_
  rw [HO.out]
  rintro e w3 ⟨rfl, hq3⟩
  have B3 := Bl.then B2 hq3
  have hlit := rd_lit w3 (strsOf sesBtw) 9
  have hB4 : Below w.heap.size w (w3.alloc (.cells ((strsOf sesBtw).map Value.string).toArray 9)) := B3.alloc B3.size _
  have hls : ∀ x ∈ strsOf sesBtw, x.size ≤ 4000000000 := by decide
  have hses : sesL ((strsOf sesBtw).map (·.data.toList)) = outBtw := by
    rw [strs_of]
    exact ses_Btw
  have J := Lib.hid (c_iRun (some ⟨w3.heap.size, 0, none⟩) _ _ (strsOf sesBtw) (w3.alloc (.cells ((strsOf sesBtw).map Value.string).toArray 9)) rfl (Nat.le_refl _) hlit (by decide) hls (HE.out _ hB4))
  rw [hses] at J
  have HB4 := Lib.hid hB4
  clear hlit hls hses hB4
  go_wp2_with fail
  refine J.out.mono ?_
  rintro e w5 ⟨rfl, hq5⟩
  have B5 := Bl.then HB4.out hq5
  go_wp2
  go_ret
  exact ⟨ret_bool (by decide +kernel), B5⟩
end Go.Proofs.YtjflfhjnbccpmaaGreatDoor
