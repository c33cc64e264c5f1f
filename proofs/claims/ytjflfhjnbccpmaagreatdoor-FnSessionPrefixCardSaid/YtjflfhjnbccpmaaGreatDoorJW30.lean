/- Joined: W30. -/
import Derived.Test.YtjflfhjnbccpmaaGreatDoorJ14
set_option linter.unusedVariables false
set_option linter.unusedSimpArgs false
namespace Go.Proofs.YtjflfhjnbccpmaaGreatDoor
open Go.RowKit
theorem ses_prefix (xs : List ByteArray) (k : Nat) {o : ByteArray} (ho : (⟨(sesL (xs.map (·.data.toList))).toArray⟩ : ByteArray) = o) :
    ∃ p, (⟨(sesL ((xs.take k).map (·.data.toList))).toArray⟩ : ByteArray) = p ∧ p.size ≤ o.size ∧ o.extract 0 p.size = p := by
  obtain ⟨r, hr⟩ := sesL_take (xs.map (·.data.toList)) k
  rw [← List.map_take] at hr
  subst ho
  rw [hr]
  refine ⟨_, rfl, ?_, ?_⟩
  · simp [ByteArray.size]
  · apply ByteArray.ext
    apply Array.toList_inj.1
    rw [ByteArray.data_extract, Array.toList_extract]
    simp [ByteArray.size]
set_option maxRecDepth 20000 in
set_option maxHeartbeats 3200000 in
theorem l_FnSessionPrefix (A : Option Addr) (n c : Nat) (w : World) (h : RB w A n) (hc : n ≤ c) (hE : EnvP w) : Calls Tryz.prog 4 #[.slice A n c] w fun e w' => e = .returned (.bool true) ∧ Below w.heap.size w w' := by
  by_cases hbig : 1048576 < n
  · go_enter Tryz.func4, Tryz.ntmps4
    go_wp2
    go_ret
    exact ⟨rfl, Below.refl _ _⟩
  have HE : Hid (∀ W, Below w.heap.size w W → EnvP W) := fun W b => hE.to b
  clear hE
  go_enter Tryz.func4, Tryz.ntmps4
  go_wp2_with fail
  refine (c_DrawRun _ _ _ _ h hc).mono ?_
  rintro e w1 ⟨A1, q, c1, xs, rfl, hq, hqc, hq16, hR, hsz, hfr, B⟩
  have HQ := Lib.hid hq
  have HSM := Lib.hid hsz
  have HSZ : Hid (∀ x ∈ xs, x.size ≤ 4000000000) := Lib.hid (fun x hx => by have := hsz x hx; omega)
  have HR : Hid (∀ W, Below w1.heap.size w1 W → RS W A1 xs) := fun W b => Rd.to hR b
  have HB := Lib.hid B
  clear hq hsz hR hfr B
  go_wp2_with fail
  refine (c_iRun A1 q c1 xs _ HQ.out hqc (HR.out _ (Below.refl _ _)) (by omega) HSZ.out (HE.out _ HB.out)).mono ?_
  rintro e w2 ⟨rfl, hq2⟩
  obtain ⟨o, ho⟩ : ∃ o, (⟨(sesL (xs.map (·.data.toList))).toArray⟩ : ByteArray) = o := ⟨_, rfl⟩
  rw [ho]
  have HO := Lib.hid ho
  clear ho
  go_wp2_with fail
  refine (c_sRun A1 q c1 xs _ HQ.out (HR.out _ hq2) (by omega) HSZ.out).mono ?_
  rw [HO.out]
  rintro e w3 ⟨rfl, hq3⟩
  have HQ3 := Lib.hid (Bl.then hq2 hq3)
  clear hq2 hq3
  go_wp2
  go_loopw [5] (fun i wr => ∃ k : Nat, k ≤ q ∧ i = .int .i64 k ∧ Hid (Below w1.heap.size w1 wr)) (fun i _ => q - (intOf i).toNat)
  case atStart => exact ⟨0, Nat.zero_le _, rfl, HQ3.out⟩
  case round =>
    obtain ⟨k, hk, rfl, HW⟩ := hrel
    by_cases hlt : k < q
    · obtain ⟨p, hp, hps, hpe⟩ := ses_prefix xs k HO.out
      have HP := Lib.hid hp
      have e1 : (0 : Int) ≤ (k : Int) ∧ (k : Int) ≤ (c1 : Int) := by omega
      have e1' : (k : Int) ≤ (c1 : Int) := by omega
      have e2 : ¬ ((o.size : Int) < (p.size : Int)) := by omega
      have e2' : ¬ (o.size < p.size) := by omega
      have e3 : (p.size : Int) ≤ (o.size : Int) := by omega
      clear hp
      have J := Lib.hid (c_iRun A1 k c1 (xs.take k) _ (by rw [List.length_take, HQ.out]; omega) (by omega) (by have := Rd.take (HR.out _ HW.out) k; rw [← List.map_take] at this; exact this) (by omega) (fun x hx => HSZ.out x (List.mem_of_mem_take hx)) (HE.out _ (Bl.then HB.out HW.out)))
      go_wp2_with fail
      refine J.out.mono ?_
      rw [HP.out]
      rintro e w5 ⟨rfl, hq5⟩
      have HW5 := Lib.hid (Bl.then HW.out hq5)
      clear hq5
      go_wp2
      go_roundw
      case rel => exact ⟨k + 1, by omega, by go_num, HW5.out⟩
      case measure => simp [intOf]; omega
    · go_wp2
      go_ret
      exact ⟨rfl, Bl.then HB.out HW.out⟩
end Go.Proofs.YtjflfhjnbccpmaaGreatDoor
