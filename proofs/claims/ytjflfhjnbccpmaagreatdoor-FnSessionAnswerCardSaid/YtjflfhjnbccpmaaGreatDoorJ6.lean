/- Joined: W9. -/
import Derived.Test.YtjflfhjnbccpmaaGreatDoorJ5
set_option linter.unusedVariables false
set_option linter.unusedSimpArgs false
namespace Go.Proofs.YtjflfhjnbccpmaaGreatDoor
open Go.RowKit
theorem c_iValidPacket (p : Pk) (D : Option Addr) (dc : Nat) (w : World) (hp : vPk p = true) :
    Calls Tryz.prog 99 #[.agg #[.int .i64 0, .int .i64 p.fa, .int .i64 p.fp, .int .i64 p.ta, .int .i64 p.tp, .slice D 0 dc]] w fun e w' => e = .returned (.bool true) ∧ Below w.heap.size w w' := by
  have h1 : (inB p.fa 0 65535 && inB p.fp 0 65535) = true ∧ (inB p.ta 0 65535 && inB p.tp 0 65535) = true := by unfold vPk at hp; rw [Bool.and_eq_true] at hp; exact hp
  have HP := Lib.hid h1
  clear h1 hp
  have k1 := Blk.new w 74 #[.int .i64 0, .int .i64 p.fa, .int .i64 p.fp, .int .i64 p.ta, .int .i64 p.tp, .slice D 0 dc]
  have B : Below w.heap.size w (w.alloc (.cells #[.int .i64 0, .int .i64 p.fa, .int .i64 p.fp, .int .i64 p.ta, .int .i64 p.tp, .slice D 0 dc] 74)) := (Below.refl _ _).alloc (Nat.le_refl _) _
  have p0 := k1.cell 0; have p1 := k1.cell 1; have p2 := k1.cell 2; have p3 := k1.cell 3; have p4 := k1.cell 4; have p5 := k1.cell 5; have l1 := k1.lt; simp only [List.getElem?_toArray, List.getElem?_cons_zero, List.getElem?_cons_succ] at p0 p1 p2 p3 p4 p5
  have hi : inB (0 : Int) 0 2 = true := rfl
  go_enter Tryz.func99, Tryz.ntmps99
  go_wp2_with fail
  refine (c_in _ _ _ _).mono ?_
  rw [hi]
  rintro e w' ⟨rfl, rfl⟩
  go_wp2_with fail
  refine (c_endValid _ _ _).mono ?_
  rw [HP.out.1]
  rintro e w1 ⟨rfl, hq⟩
  clear p0 p1 p2 p3 p4 p5 l1
  replace k1 := k1.to hq
  replace B := Bl.then B hq
  clear hq
  have p0 := k1.cell 0; have p1 := k1.cell 1; have p2 := k1.cell 2; have p3 := k1.cell 3; have p4 := k1.cell 4; have p5 := k1.cell 5; have l1 := k1.lt; simp only [List.getElem?_toArray, List.getElem?_cons_zero, List.getElem?_cons_succ] at p0 p1 p2 p3 p4 p5
  go_wp2_with fail
  refine (c_endValid _ _ _).mono ?_
  rw [HP.out.2]
  rintro e w2 ⟨rfl, hq⟩
  clear p0 p1 p2 p3 p4 p5 l1
  replace k1 := k1.to hq
  replace B := Bl.then B hq
  clear hq
  have p0 := k1.cell 0; have p1 := k1.cell 1; have p2 := k1.cell 2; have p3 := k1.cell 3; have p4 := k1.cell 4; have p5 := k1.cell 5; have l1 := k1.lt; simp only [List.getElem?_toArray, List.getElem?_cons_zero, List.getElem?_cons_succ] at p0 p1 p2 p3 p4 p5
  go_wp2_with fail
  refine (c_areWords D dc [] _ (RI.nil _ _) (by simp)).mono ?_
  rintro e w' ⟨rfl, rfl⟩
  go_wp2
  go_ret
  exact ⟨rfl, B⟩
theorem c_sValidPacket (p : Pk) (D : Option Addr) (dc : Nat) (w : World) (hp : vPk p = true) :
    Calls Tryz.prog 136 #[.agg #[.int .i64 0, .int .i64 p.fa, .int .i64 p.fp, .int .i64 p.ta, .int .i64 p.tp, .slice D 0 dc]] w fun e w' => e = .returned (.bool true) ∧ Below w.heap.size w w' := by
  have h1 : (inB p.fa 0 65535 && inB p.fp 0 65535) = true ∧ (inB p.ta 0 65535 && inB p.tp 0 65535) = true := by unfold vPk at hp; rw [Bool.and_eq_true] at hp; exact hp
  have HP := Lib.hid h1
  clear h1 hp
  have k1 := Blk.new w 74 #[.int .i64 0, .int .i64 p.fa, .int .i64 p.fp, .int .i64 p.ta, .int .i64 p.tp, .slice D 0 dc]
  have B : Below w.heap.size w (w.alloc (.cells #[.int .i64 0, .int .i64 p.fa, .int .i64 p.fp, .int .i64 p.ta, .int .i64 p.tp, .slice D 0 dc] 74)) := (Below.refl _ _).alloc (Nat.le_refl _) _
  have p0 := k1.cell 0; have p1 := k1.cell 1; have p2 := k1.cell 2; have p3 := k1.cell 3; have p4 := k1.cell 4; have p5 := k1.cell 5; have l1 := k1.lt; simp only [List.getElem?_toArray, List.getElem?_cons_zero, List.getElem?_cons_succ] at p0 p1 p2 p3 p4 p5
  have hi : inB (0 : Int) 0 2 = true := rfl
  go_enter Tryz.func136, Tryz.ntmps136
  go_wp2_with fail
  refine (c_inRange _ _ _ _).mono ?_
  rw [hi]
  rintro e w' ⟨rfl, rfl⟩
  go_wp2_with fail
  refine (c_validEnd _ _ _).mono ?_
  rw [HP.out.1]
  rintro e w1 ⟨rfl, hq⟩
  clear p0 p1 p2 p3 p4 p5 l1
  replace k1 := k1.to hq
  replace B := Bl.then B hq
  clear hq
  have p0 := k1.cell 0; have p1 := k1.cell 1; have p2 := k1.cell 2; have p3 := k1.cell 3; have p4 := k1.cell 4; have p5 := k1.cell 5; have l1 := k1.lt; simp only [List.getElem?_toArray, List.getElem?_cons_zero, List.getElem?_cons_succ] at p0 p1 p2 p3 p4 p5
  go_wp2_with fail
  refine (c_validEnd _ _ _).mono ?_
  rw [HP.out.2]
  rintro e w2 ⟨rfl, hq⟩
  clear p0 p1 p2 p3 p4 p5 l1
  replace k1 := k1.to hq
  replace B := Bl.then B hq
  clear hq
  have p0 := k1.cell 0; have p1 := k1.cell 1; have p2 := k1.cell 2; have p3 := k1.cell 3; have p4 := k1.cell 4; have p5 := k1.cell 5; have l1 := k1.lt; simp only [List.getElem?_toArray, List.getElem?_cons_zero, List.getElem?_cons_succ] at p0 p1 p2 p3 p4 p5
  go_wp2_with fail
  refine (c_allIn D dc [] _ _ _ (RI.nil _ _) (by simp)).mono ?_
  rintro e w' ⟨rfl, rfl⟩
  go_wp2
  go_ret
  exact ⟨rfl, B⟩
theorem c_from (g : Gt) (p : Pk) (A : Option Addr) (n c : Nat) (C : Option Addr) (m d : Nat) (D : Option Addr) (dc : Nat) (w : World) (hv : vGate g = true) (hp : vPk p = true) (hn : g.tb.length = n) (hc : n ≤ c) (h : TM w A g.tb) (hm : g.cs.length = m) (hd : m ≤ d) (h' : TK w C g.cs) :
    Calls Tryz.prog 101 #[.agg #[.int .i64 g.ba, .int .i64 g.bi, .int .i64 g.ou, .slice A n c, .slice C m d, .int .i64 g.fi, .int .i64 g.ho, .int .i64 g.no], .agg #[.int .i64 0, .int .i64 p.fa, .int .i64 p.fp, .int .i64 p.ta, .int .i64 p.tp, .slice D 0 dc]] w fun e w' => e = .returned (.bool (inN g.ba g.bi p.fa)) ∧ Below w.heap.size w w' := by
  have HN := Lib.hid hn
  have HM := Lib.hid hm
  have HA : Hid (∀ W, Below w.heap.size w W → TM W A g.tb) := fun W b => h.to b
  have HC : Hid (∀ W, Below w.heap.size w W → TK W C g.cs) := fun W b => h'.to b
  have HV := Lib.hid hv
  have HP := Lib.hid hp
  have HG := Lib.hid (gate_nums hv)
  clear hn hm h h' hv hp
  have k0 := (Blk.new w 44 #[.int .i64 g.ba, .int .i64 g.bi, .int .i64 g.ou, .slice A n c, .slice C m d, .int .i64 g.fi, .int .i64 g.ho, .int .i64 g.no]).alloc (.cells #[.int .i64 0, .int .i64 p.fa, .int .i64 p.fp, .int .i64 p.ta, .int .i64 p.tp, .slice D 0 dc] 74)
  have k1 := Blk.new (w.alloc (.cells #[.int .i64 g.ba, .int .i64 g.bi, .int .i64 g.ou, .slice A n c, .slice C m d, .int .i64 g.fi, .int .i64 g.ho, .int .i64 g.no] 44)) 74 #[.int .i64 0, .int .i64 p.fa, .int .i64 p.fp, .int .i64 p.ta, .int .i64 p.tp, .slice D 0 dc]
  have B : Below w.heap.size w ((w.alloc (.cells #[.int .i64 g.ba, .int .i64 g.bi, .int .i64 g.ou, .slice A n c, .slice C m d, .int .i64 g.fi, .int .i64 g.ho, .int .i64 g.no] 44)).alloc (.cells #[.int .i64 0, .int .i64 p.fa, .int .i64 p.fp, .int .i64 p.ta, .int .i64 p.tp, .slice D 0 dc] 74)) := ((Below.refl _ _).alloc (Nat.le_refl _) _).alloc (by simp) _
  simp only [World.size_alloc] at k1
  have y0 := k0.cell 0; have y1 := k0.cell 1; have y2 := k0.cell 2; have y3 := k0.cell 3; have y4 := k0.cell 4; have y5 := k0.cell 5; have y6 := k0.cell 6; have y7 := k0.cell 7; have l0 := k0.lt; simp only [List.getElem?_toArray, List.getElem?_cons_zero, List.getElem?_cons_succ] at y0 y1 y2 y3 y4 y5 y6 y7
  have p0 := k1.cell 0; have p1 := k1.cell 1; have p2 := k1.cell 2; have p3 := k1.cell 3; have p4 := k1.cell 4; have p5 := k1.cell 5; have l1 := k1.lt; simp only [List.getElem?_toArray, List.getElem?_cons_zero, List.getElem?_cons_succ] at p0 p1 p2 p3 p4 p5
  go_enter Tryz.func101, Tryz.ntmps101
  go_wp2_with fail
  refine (c_ValidGate g A n c C m d _ HV.out HN.out hc (HA.out _ B) HM.out hd (HC.out _ B)).mono ?_
  rintro e w1 ⟨rfl, hq⟩
  clear y0 y1 y2 y3 y4 y5 y6 y7 l0; clear p0 p1 p2 p3 p4 p5 l1; replace k0 := k0.to hq; replace k1 := k1.to hq; replace B := Bl.then B hq; clear hq; have y0 := k0.cell 0; have y1 := k0.cell 1; have y2 := k0.cell 2; have y3 := k0.cell 3; have y4 := k0.cell 4; have y5 := k0.cell 5; have y6 := k0.cell 6; have y7 := k0.cell 7; have l0 := k0.lt; simp only [List.getElem?_toArray, List.getElem?_cons_zero, List.getElem?_cons_succ] at y0 y1 y2 y3 y4 y5 y6 y7; have p0 := k1.cell 0; have p1 := k1.cell 1; have p2 := k1.cell 2; have p3 := k1.cell 3; have p4 := k1.cell 4; have p5 := k1.cell 5; have l1 := k1.lt; simp only [List.getElem?_toArray, List.getElem?_cons_zero, List.getElem?_cons_succ] at p0 p1 p2 p3 p4 p5
  go_wp2_with fail
  refine (c_iValidPacket p D dc _ HP.out).mono ?_
  rintro e w2 ⟨rfl, hq⟩
  clear y0 y1 y2 y3 y4 y5 y6 y7 l0; clear p0 p1 p2 p3 p4 p5 l1; replace k0 := k0.to hq; replace k1 := k1.to hq; replace B := Bl.then B hq; clear hq; have y0 := k0.cell 0; have y1 := k0.cell 1; have y2 := k0.cell 2; have y3 := k0.cell 3; have y4 := k0.cell 4; have y5 := k0.cell 5; have y6 := k0.cell 6; have y7 := k0.cell 7; have l0 := k0.lt; simp only [List.getElem?_toArray, List.getElem?_cons_zero, List.getElem?_cons_succ] at y0 y1 y2 y3 y4 y5 y6 y7; have p0 := k1.cell 0; have p1 := k1.cell 1; have p2 := k1.cell 2; have p3 := k1.cell 3; have p4 := k1.cell 4; have p5 := k1.cell 5; have l1 := k1.lt; simp only [List.getElem?_toArray, List.getElem?_cons_zero, List.getElem?_cons_succ] at p0 p1 p2 p3 p4 p5
  go_wp2_with fail
  refine (c_has _ _ _ _ HG.out.1).mono ?_
  rintro e w3 ⟨rfl, hq⟩
  go_wp2
  go_ret
  exact ⟨rfl, Bl.then B hq⟩
/-- The way of a valid packet through a valid gate. -/
def wayV (g : Gt) (p : Pk) : Int := if inN g.ba g.bi p.fa then (if p.ta = g.ou then 3 else if inN g.ba g.bi p.ta then 0 else 1) else if p.ta = g.ou then 2 else 0
theorem wayV_eq {g : Gt} {p : Pk} (hv : vGate g = true) (hp : vPk p = true) : wayG g p = wayV g p := by unfold wayG wayV; rw [hv, hp]; rfl
set_option maxHeartbeats 800000 in
theorem c_way (g : Gt) (p : Pk) (A : Option Addr) (n c : Nat) (C : Option Addr) (m d : Nat) (D : Option Addr) (dc : Nat) (w : World) (hv : vGate g = true) :
    Calls Tryz.prog 100 #[.agg #[.int .i64 g.ba, .int .i64 g.bi, .int .i64 g.ou, .slice A n c, .slice C m d, .int .i64 g.fi, .int .i64 g.ho, .int .i64 g.no], .agg #[.int .i64 0, .int .i64 p.fa, .int .i64 p.fp, .int .i64 p.ta, .int .i64 p.tp, .slice D 0 dc]] w fun e w' => e = .returned (.int .i64 (wayV g p)) ∧ Below w.heap.size w w' := by
  have HG := Lib.hid (gate_nums hv)
  clear hv
  have k0 : Blk (((w.alloc (.cells #[.int .i64 g.ba, .int .i64 g.bi, .int .i64 g.ou, .slice A n c, .slice C m d, .int .i64 g.fi, .int .i64 g.ho, .int .i64 g.no] 44)).alloc (.cells #[.int .i64 0, .int .i64 p.fa, .int .i64 p.fp, .int .i64 p.ta, .int .i64 p.tp, .slice D 0 dc] 74)).drew) w.heap.size 44 #[.int .i64 g.ba, .int .i64 g.bi, .int .i64 g.ou, .slice A n c, .slice C m d, .int .i64 g.fi, .int .i64 g.ho, .int .i64 g.no] := (Blk.new w 44 #[.int .i64 g.ba, .int .i64 g.bi, .int .i64 g.ou, .slice A n c, .slice C m d, .int .i64 g.fi, .int .i64 g.ho, .int .i64 g.no]).alloc (.cells #[.int .i64 0, .int .i64 p.fa, .int .i64 p.fp, .int .i64 p.ta, .int .i64 p.tp, .slice D 0 dc] 74)
  have k1 : Blk (((w.alloc (.cells #[.int .i64 g.ba, .int .i64 g.bi, .int .i64 g.ou, .slice A n c, .slice C m d, .int .i64 g.fi, .int .i64 g.ho, .int .i64 g.no] 44)).alloc (.cells #[.int .i64 0, .int .i64 p.fa, .int .i64 p.fp, .int .i64 p.ta, .int .i64 p.tp, .slice D 0 dc] 74)).drew) (w.heap.size + 1) 74 #[.int .i64 0, .int .i64 p.fa, .int .i64 p.fp, .int .i64 p.ta, .int .i64 p.tp, .slice D 0 dc] := (by have := Blk.new (w.alloc (.cells #[.int .i64 g.ba, .int .i64 g.bi, .int .i64 g.ou, .slice A n c, .slice C m d, .int .i64 g.fi, .int .i64 g.ho, .int .i64 g.no] 44)) 74 #[.int .i64 0, .int .i64 p.fa, .int .i64 p.fp, .int .i64 p.ta, .int .i64 p.tp, .slice D 0 dc]; simp only [World.size_alloc] at this; exact this)
  have B : Below w.heap.size w (((w.alloc (.cells #[.int .i64 g.ba, .int .i64 g.bi, .int .i64 g.ou, .slice A n c, .slice C m d, .int .i64 g.fi, .int .i64 g.ho, .int .i64 g.no] 44)).alloc (.cells #[.int .i64 0, .int .i64 p.fa, .int .i64 p.fp, .int .i64 p.ta, .int .i64 p.tp, .slice D 0 dc] 74)).drew) := Bl.drewN (((Below.refl _ _).alloc (Nat.le_refl _) _).alloc (by simp) _) 1
  have HW : Hid (wayV g p = if inN g.ba g.bi p.fa then (if p.ta = g.ou then 3 else if inN g.ba g.bi p.ta then 0 else 1) else if p.ta = g.ou then 2 else 0) := rfl
  go_enter Tryz.func100, Tryz.ntmps100
  go_wp2
  cases hi : inN g.ba g.bi p.fa
  · by_cases ho : p.ta = g.ou
    · have t1 : (p.ta == g.ou) = true := beq_iff_eq.2 ho
      have HO := Lib.hid ho
      clear ho
      refine wp_region_held_drew (S := (fun w' => w'.cell? ⟨w.heap.size, 0, none⟩ = some (.int .i64 g.ba) ∧ w'.cell? ⟨w.heap.size, 1, none⟩ = some (.int .i64 g.bi) ∧ w'.cell? ⟨w.heap.size, 2, none⟩ = some (.int .i64 g.ou) ∧ w'.cell? ⟨w.heap.size + 1, 1, none⟩ = some (.int .i64 p.fa) ∧ w'.cell? ⟨w.heap.size + 1, 3, none⟩ = some (.int .i64 p.ta))) (by kernel_rfl) ?_ (fun hHeld => ?_)
      · (try dsimp only); exact ⟨k0.cell 0, k0.cell 1, k0.cell 2, k1.cell 1, k1.cell 3⟩
      refine wpAnyH_take (i := 0) (v := ?_) (arr_at rfl) (by kernel_rfl) (by kernel_rfl) (by kernel_rfl) (fun _ _ _ h => h) ?_ (by assumption) ?_
      rotate_left
      · first | (refine Or.inr ⟨by rfl, ?_⟩; with_reducible rfl) | (refine Or.inl ⟨by rfl, ?_⟩; intro w hSw; (try dsimp only at hSw); go_simp; first | done | with_reducible rfl)
      try simp only [Act.put, List.setIfInBounds_toArray, List.set_cons_zero, List.set_cons_succ]
      refine wpAnyH_take (i := 1) (v := ?_) (arr_at rfl) (by kernel_rfl) (by kernel_rfl) (by kernel_rfl) (fun _ _ _ h => h) ?_ (by assumption) ?_
      rotate_left
      · first | (refine Or.inr ⟨by rfl, ?_⟩; with_reducible rfl) | (refine Or.inl ⟨by rfl, ?_⟩; intro w hSw; (try dsimp only at hSw); go_simp; first | done | with_reducible rfl)
      try simp only [Act.put, List.setIfInBounds_toArray, List.set_cons_zero, List.set_cons_succ]
      refine wpAnyH_take (i := 2) (v := ?_) (arr_at rfl) (by kernel_rfl) (by kernel_rfl) (by kernel_rfl) (fun _ _ _ h => h) ?_ (by assumption) ?_
      rotate_left
      · first | (refine Or.inr ⟨by rfl, ?_⟩; with_reducible rfl) | (refine Or.inl ⟨by rfl, ?_⟩; intro w hSw; (try dsimp only at hSw); go_simp; first | done | with_reducible rfl)
      try simp only [Act.put, List.setIfInBounds_toArray, List.set_cons_zero, List.set_cons_succ]
      refine wpAnyH_take (i := 3) (v := ?_) (arr_at rfl) (by kernel_rfl) (by kernel_rfl) (by kernel_rfl) (fun _ _ _ h => h) ?_ (by assumption) ?_
      rotate_left
      · first | (refine Or.inr ⟨by rfl, ?_⟩; with_reducible rfl) | (refine Or.inl ⟨by rfl, ?_⟩; intro w hSw; (try dsimp only at hSw); go_simp; first | done | with_reducible rfl)
      try simp only [Act.put, List.setIfInBounds_toArray, List.set_cons_zero, List.set_cons_succ]
      refine wpAnyH_take (i := 4) (v := ?_) (arr_at rfl) (by kernel_rfl) (by kernel_rfl) (by kernel_rfl) (fun _ _ _ h => h) ?_ (by assumption) ?_
      rotate_left
      · first | (refine Or.inr ⟨by rfl, ?_⟩; with_reducible rfl) | (refine Or.inl ⟨by rfl, ?_⟩; intro w hSw; (try dsimp only at hSw); go_simp; first | done | with_reducible rfl)
      try simp only [Act.put, List.setIfInBounds_toArray, List.set_cons_zero, List.set_cons_succ]
      refine wpAnyH_take (i := 6) (v := ?_) (arr_at rfl) (by kernel_rfl) (by kernel_rfl) (by kernel_rfl) (fun _ _ _ h => h) ?_ (by assumption) ?_
      rotate_left
      · first | (refine Or.inr ⟨by rfl, ?_⟩; with_reducible rfl) | (refine Or.inl ⟨by rfl, ?_⟩; intro w hSw; (try dsimp only at hSw); go_simp; first | done | with_reducible rfl)
      try simp only [Act.put, List.setIfInBounds_toArray, List.set_cons_zero, List.set_cons_succ]
      refine wpAnyH_take (i := 7) (v := ?_) (arr_at rfl) (by kernel_rfl) (by kernel_rfl) (by kernel_rfl) (fun _ _ _ h => h) ?_ (by assumption) ?_
      rotate_left
      · first | (refine Or.inr ⟨by rfl, ?_⟩; with_reducible rfl) | (refine Or.inl ⟨by rfl, ?_⟩; intro w hSw; (try dsimp only at hSw); go_simp; first | done | with_reducible rfl)
      try simp only [Act.put, List.setIfInBounds_toArray, List.set_cons_zero, List.set_cons_succ]
      refine wpAnyH_take (i := 8) (v := ?_) (arr_at rfl) (by kernel_rfl) (by kernel_rfl) (by kernel_rfl) (fun _ _ _ h => h) ?_ (by assumption) ?_
      rotate_left
      · first | (refine Or.inr ⟨by rfl, ?_⟩; with_reducible rfl) | (refine Or.inl ⟨by rfl, ?_⟩; intro w hSw; (try dsimp only at hSw); go_simp; first | done | with_reducible rfl)
      try simp only [Act.put, List.setIfInBounds_toArray, List.set_cons_zero, List.set_cons_succ]
      refine wpAnyH_take (i := 9) (v := ?_) (arr_at rfl) (by kernel_rfl) (by kernel_rfl) (by kernel_rfl) (fun _ _ _ h => h) ?_ (by assumption) ?_
      rotate_left
      · first | (refine Or.inr ⟨by rfl, ?_⟩; with_reducible rfl) | (refine Or.inl ⟨by rfl, ?_⟩; intro w hSw; (try dsimp only at hSw); go_simp; first | done | with_reducible rfl)
      try simp only [Act.put, List.setIfInBounds_toArray, List.set_cons_zero, List.set_cons_succ]
      refine wpAnyH_take (i := 10) (v := ?_) (arr_at rfl) (by kernel_rfl) (by kernel_rfl) (by kernel_rfl) (fun _ _ _ h => h) ?_ (by assumption) ?_
      rotate_left
      · first | (refine Or.inr ⟨by rfl, ?_⟩; with_reducible rfl) | (refine Or.inl ⟨by rfl, ?_⟩; intro w hSw; (try dsimp only at hSw); go_simp; first | done | with_reducible rfl)
      try simp only [Act.put, List.setIfInBounds_toArray, List.set_cons_zero, List.set_cons_succ]
      refine wpAnyH_take (i := 11) (v := ?_) (arr_at rfl) (by kernel_rfl) (by kernel_rfl) (by kernel_rfl) (fun _ _ _ h => h) ?_ (by assumption) ?_
      rotate_left
      · first | (refine Or.inr ⟨by rfl, ?_⟩; with_reducible rfl) | (refine Or.inl ⟨by rfl, ?_⟩; intro w hSw; (try dsimp only at hSw); go_simp; first | done | with_reducible rfl)
      try simp only [Act.put, List.setIfInBounds_toArray, List.set_cons_zero, List.set_cons_succ]
      refine wpAnyH_ready (rs := [5]) (by kernel_rfl) (by simp) ?_
      refine AllReadyH.cons (arr_at rfl) (fun K hK => ?_) AllReadyH.nil
      go_simp
      go_at_call 102; refine (c_has _ _ _ _ HG.out.1).mono ?_; rw [hi]; rintro e w1 ⟨rfl, hq⟩; replace k0 := k0.to hq; replace k1 := k1.to hq; replace B := Bl.then B hq; clear hq
      refine hK.out _ _ ?_ (fun hHeld => ?_)
      · (try dsimp only); exact ⟨k0.cell 0, k0.cell 1, k0.cell 2, k1.cell 1, k1.cell 3⟩
      clear hK K
      try simp only [Act.put, List.setIfInBounds_toArray, List.set_cons_zero, List.set_cons_succ]
      refine wpAnyH_take (i := 12) (v := ?_) (arr_at rfl) (by kernel_rfl) (by kernel_rfl) (by kernel_rfl) (fun _ _ _ h => h) ?_ (by assumption) ?_
      rotate_left
      · first | (refine Or.inr ⟨by rfl, ?_⟩; with_reducible rfl) | (refine Or.inl ⟨by rfl, ?_⟩; intro w hSw; (try dsimp only at hSw); go_simp; first | done | with_reducible rfl)
      try simp only [Act.put, List.setIfInBounds_toArray, List.set_cons_zero, List.set_cons_succ]
      refine wpAnyH_take (i := 13) (v := ?_) (arr_at rfl) (by kernel_rfl) (by kernel_rfl) (by kernel_rfl) (fun _ _ _ h => h) ?_ (by assumption) ?_
      rotate_left
      · first | (refine Or.inr ⟨by rfl, ?_⟩; with_reducible rfl) | (refine Or.inl ⟨by rfl, ?_⟩; intro w hSw; (try dsimp only at hSw); go_simp; first | done | with_reducible rfl)
      try simp only [Act.put, List.setIfInBounds_toArray, List.set_cons_zero, List.set_cons_succ]
      refine wpAnyH_done (by kernel_rfl) ?_ _
      go_wp2
      go_ret
      exact ⟨ret_int (by rw [HW.out, hi, if_neg (by simp), if_pos HO.out]), B⟩
    · have t1 : (p.ta == g.ou) = false := beq_eq_false_iff_ne.2 ho
      have HO := Lib.hid ho
      clear ho
      refine wp_region_held_drew (S := (fun w' => w'.cell? ⟨w.heap.size, 0, none⟩ = some (.int .i64 g.ba) ∧ w'.cell? ⟨w.heap.size, 1, none⟩ = some (.int .i64 g.bi) ∧ w'.cell? ⟨w.heap.size, 2, none⟩ = some (.int .i64 g.ou) ∧ w'.cell? ⟨w.heap.size + 1, 1, none⟩ = some (.int .i64 p.fa) ∧ w'.cell? ⟨w.heap.size + 1, 3, none⟩ = some (.int .i64 p.ta))) (by kernel_rfl) ?_ (fun hHeld => ?_)
      · (try dsimp only); exact ⟨k0.cell 0, k0.cell 1, k0.cell 2, k1.cell 1, k1.cell 3⟩
      refine wpAnyH_take (i := 0) (v := ?_) (arr_at rfl) (by kernel_rfl) (by kernel_rfl) (by kernel_rfl) (fun _ _ _ h => h) ?_ (by assumption) ?_
      rotate_left
      · first | (refine Or.inr ⟨by rfl, ?_⟩; with_reducible rfl) | (refine Or.inl ⟨by rfl, ?_⟩; intro w hSw; (try dsimp only at hSw); go_simp; first | done | with_reducible rfl)
      try simp only [Act.put, List.setIfInBounds_toArray, List.set_cons_zero, List.set_cons_succ]
      refine wpAnyH_take (i := 1) (v := ?_) (arr_at rfl) (by kernel_rfl) (by kernel_rfl) (by kernel_rfl) (fun _ _ _ h => h) ?_ (by assumption) ?_
      rotate_left
      · first | (refine Or.inr ⟨by rfl, ?_⟩; with_reducible rfl) | (refine Or.inl ⟨by rfl, ?_⟩; intro w hSw; (try dsimp only at hSw); go_simp; first | done | with_reducible rfl)
      try simp only [Act.put, List.setIfInBounds_toArray, List.set_cons_zero, List.set_cons_succ]
      refine wpAnyH_take (i := 2) (v := ?_) (arr_at rfl) (by kernel_rfl) (by kernel_rfl) (by kernel_rfl) (fun _ _ _ h => h) ?_ (by assumption) ?_
      rotate_left
      · first | (refine Or.inr ⟨by rfl, ?_⟩; with_reducible rfl) | (refine Or.inl ⟨by rfl, ?_⟩; intro w hSw; (try dsimp only at hSw); go_simp; first | done | with_reducible rfl)
      try simp only [Act.put, List.setIfInBounds_toArray, List.set_cons_zero, List.set_cons_succ]
      refine wpAnyH_take (i := 3) (v := ?_) (arr_at rfl) (by kernel_rfl) (by kernel_rfl) (by kernel_rfl) (fun _ _ _ h => h) ?_ (by assumption) ?_
      rotate_left
      · first | (refine Or.inr ⟨by rfl, ?_⟩; with_reducible rfl) | (refine Or.inl ⟨by rfl, ?_⟩; intro w hSw; (try dsimp only at hSw); go_simp; first | done | with_reducible rfl)
      try simp only [Act.put, List.setIfInBounds_toArray, List.set_cons_zero, List.set_cons_succ]
      refine wpAnyH_take (i := 4) (v := ?_) (arr_at rfl) (by kernel_rfl) (by kernel_rfl) (by kernel_rfl) (fun _ _ _ h => h) ?_ (by assumption) ?_
      rotate_left
      · first | (refine Or.inr ⟨by rfl, ?_⟩; with_reducible rfl) | (refine Or.inl ⟨by rfl, ?_⟩; intro w hSw; (try dsimp only at hSw); go_simp; first | done | with_reducible rfl)
      try simp only [Act.put, List.setIfInBounds_toArray, List.set_cons_zero, List.set_cons_succ]
      refine wpAnyH_take (i := 6) (v := ?_) (arr_at rfl) (by kernel_rfl) (by kernel_rfl) (by kernel_rfl) (fun _ _ _ h => h) ?_ (by assumption) ?_
      rotate_left
      · first | (refine Or.inr ⟨by rfl, ?_⟩; with_reducible rfl) | (refine Or.inl ⟨by rfl, ?_⟩; intro w hSw; (try dsimp only at hSw); go_simp; first | done | with_reducible rfl)
      try simp only [Act.put, List.setIfInBounds_toArray, List.set_cons_zero, List.set_cons_succ]
      refine wpAnyH_take (i := 7) (v := ?_) (arr_at rfl) (by kernel_rfl) (by kernel_rfl) (by kernel_rfl) (fun _ _ _ h => h) ?_ (by assumption) ?_
      rotate_left
      · first | (refine Or.inr ⟨by rfl, ?_⟩; with_reducible rfl) | (refine Or.inl ⟨by rfl, ?_⟩; intro w hSw; (try dsimp only at hSw); go_simp; first | done | with_reducible rfl)
      try simp only [Act.put, List.setIfInBounds_toArray, List.set_cons_zero, List.set_cons_succ]
      refine wpAnyH_take (i := 8) (v := ?_) (arr_at rfl) (by kernel_rfl) (by kernel_rfl) (by kernel_rfl) (fun _ _ _ h => h) ?_ (by assumption) ?_
      rotate_left
      · first | (refine Or.inr ⟨by rfl, ?_⟩; with_reducible rfl) | (refine Or.inl ⟨by rfl, ?_⟩; intro w hSw; (try dsimp only at hSw); go_simp; first | done | with_reducible rfl)
      try simp only [Act.put, List.setIfInBounds_toArray, List.set_cons_zero, List.set_cons_succ]
      refine wpAnyH_take (i := 9) (v := ?_) (arr_at rfl) (by kernel_rfl) (by kernel_rfl) (by kernel_rfl) (fun _ _ _ h => h) ?_ (by assumption) ?_
      rotate_left
      · first | (refine Or.inr ⟨by rfl, ?_⟩; with_reducible rfl) | (refine Or.inl ⟨by rfl, ?_⟩; intro w hSw; (try dsimp only at hSw); go_simp; first | done | with_reducible rfl)
      try simp only [Act.put, List.setIfInBounds_toArray, List.set_cons_zero, List.set_cons_succ]
      refine wpAnyH_take (i := 10) (v := ?_) (arr_at rfl) (by kernel_rfl) (by kernel_rfl) (by kernel_rfl) (fun _ _ _ h => h) ?_ (by assumption) ?_
      rotate_left
      · first | (refine Or.inr ⟨by rfl, ?_⟩; with_reducible rfl) | (refine Or.inl ⟨by rfl, ?_⟩; intro w hSw; (try dsimp only at hSw); go_simp; first | done | with_reducible rfl)
      try simp only [Act.put, List.setIfInBounds_toArray, List.set_cons_zero, List.set_cons_succ]
      refine wpAnyH_take (i := 11) (v := ?_) (arr_at rfl) (by kernel_rfl) (by kernel_rfl) (by kernel_rfl) (fun _ _ _ h => h) ?_ (by assumption) ?_
      rotate_left
      · first | (refine Or.inr ⟨by rfl, ?_⟩; with_reducible rfl) | (refine Or.inl ⟨by rfl, ?_⟩; intro w hSw; (try dsimp only at hSw); go_simp; first | done | with_reducible rfl)
      try simp only [Act.put, List.setIfInBounds_toArray, List.set_cons_zero, List.set_cons_succ]
      refine wpAnyH_ready (rs := [5]) (by kernel_rfl) (by simp) ?_
      refine AllReadyH.cons (arr_at rfl) (fun K hK => ?_) AllReadyH.nil
      go_simp
      go_at_call 102; refine (c_has _ _ _ _ HG.out.1).mono ?_; rw [hi]; rintro e w1 ⟨rfl, hq⟩; replace k0 := k0.to hq; replace k1 := k1.to hq; replace B := Bl.then B hq; clear hq
      refine hK.out _ _ ?_ (fun hHeld => ?_)
      · (try dsimp only); exact ⟨k0.cell 0, k0.cell 1, k0.cell 2, k1.cell 1, k1.cell 3⟩
      clear hK K
      try simp only [Act.put, List.setIfInBounds_toArray, List.set_cons_zero, List.set_cons_succ]
      refine wpAnyH_take (i := 12) (v := ?_) (arr_at rfl) (by kernel_rfl) (by kernel_rfl) (by kernel_rfl) (fun _ _ _ h => h) ?_ (by assumption) ?_
      rotate_left
      · first | (refine Or.inr ⟨by rfl, ?_⟩; with_reducible rfl) | (refine Or.inl ⟨by rfl, ?_⟩; intro w hSw; (try dsimp only at hSw); go_simp; first | done | with_reducible rfl)
      try simp only [Act.put, List.setIfInBounds_toArray, List.set_cons_zero, List.set_cons_succ]
      refine wpAnyH_take (i := 13) (v := ?_) (arr_at rfl) (by kernel_rfl) (by kernel_rfl) (by kernel_rfl) (fun _ _ _ h => h) ?_ (by assumption) ?_
      rotate_left
      · first | (refine Or.inr ⟨by rfl, ?_⟩; with_reducible rfl) | (refine Or.inl ⟨by rfl, ?_⟩; intro w hSw; (try dsimp only at hSw); go_simp; first | done | with_reducible rfl)
      try simp only [Act.put, List.setIfInBounds_toArray, List.set_cons_zero, List.set_cons_succ]
      refine wpAnyH_done (by kernel_rfl) ?_ _
      go_wp2
      go_ret
      exact ⟨ret_int (by rw [HW.out, hi, if_neg (by simp), if_neg HO.out]), B⟩
  · by_cases ho : p.ta = g.ou
    · have t1 : (p.ta == g.ou) = true := beq_iff_eq.2 ho
      have HO := Lib.hid ho
      clear ho
      refine wp_region_held_drew (S := (fun w' => w'.cell? ⟨w.heap.size, 0, none⟩ = some (.int .i64 g.ba) ∧ w'.cell? ⟨w.heap.size, 1, none⟩ = some (.int .i64 g.bi) ∧ w'.cell? ⟨w.heap.size, 2, none⟩ = some (.int .i64 g.ou) ∧ w'.cell? ⟨w.heap.size + 1, 1, none⟩ = some (.int .i64 p.fa) ∧ w'.cell? ⟨w.heap.size + 1, 3, none⟩ = some (.int .i64 p.ta))) (by kernel_rfl) ?_ (fun hHeld => ?_)
      · (try dsimp only); exact ⟨k0.cell 0, k0.cell 1, k0.cell 2, k1.cell 1, k1.cell 3⟩
      refine wpAnyH_take (i := 0) (v := ?_) (arr_at rfl) (by kernel_rfl) (by kernel_rfl) (by kernel_rfl) (fun _ _ _ h => h) ?_ (by assumption) ?_
      rotate_left
      · first | (refine Or.inr ⟨by rfl, ?_⟩; with_reducible rfl) | (refine Or.inl ⟨by rfl, ?_⟩; intro w hSw; (try dsimp only at hSw); go_simp; first | done | with_reducible rfl)
      try simp only [Act.put, List.setIfInBounds_toArray, List.set_cons_zero, List.set_cons_succ]
      refine wpAnyH_take (i := 1) (v := ?_) (arr_at rfl) (by kernel_rfl) (by kernel_rfl) (by kernel_rfl) (fun _ _ _ h => h) ?_ (by assumption) ?_
      rotate_left
      · first | (refine Or.inr ⟨by rfl, ?_⟩; with_reducible rfl) | (refine Or.inl ⟨by rfl, ?_⟩; intro w hSw; (try dsimp only at hSw); go_simp; first | done | with_reducible rfl)
      try simp only [Act.put, List.setIfInBounds_toArray, List.set_cons_zero, List.set_cons_succ]
      refine wpAnyH_take (i := 2) (v := ?_) (arr_at rfl) (by kernel_rfl) (by kernel_rfl) (by kernel_rfl) (fun _ _ _ h => h) ?_ (by assumption) ?_
      rotate_left
      · first | (refine Or.inr ⟨by rfl, ?_⟩; with_reducible rfl) | (refine Or.inl ⟨by rfl, ?_⟩; intro w hSw; (try dsimp only at hSw); go_simp; first | done | with_reducible rfl)
      try simp only [Act.put, List.setIfInBounds_toArray, List.set_cons_zero, List.set_cons_succ]
      refine wpAnyH_take (i := 3) (v := ?_) (arr_at rfl) (by kernel_rfl) (by kernel_rfl) (by kernel_rfl) (fun _ _ _ h => h) ?_ (by assumption) ?_
      rotate_left
      · first | (refine Or.inr ⟨by rfl, ?_⟩; with_reducible rfl) | (refine Or.inl ⟨by rfl, ?_⟩; intro w hSw; (try dsimp only at hSw); go_simp; first | done | with_reducible rfl)
      try simp only [Act.put, List.setIfInBounds_toArray, List.set_cons_zero, List.set_cons_succ]
      refine wpAnyH_take (i := 4) (v := ?_) (arr_at rfl) (by kernel_rfl) (by kernel_rfl) (by kernel_rfl) (fun _ _ _ h => h) ?_ (by assumption) ?_
      rotate_left
      · first | (refine Or.inr ⟨by rfl, ?_⟩; with_reducible rfl) | (refine Or.inl ⟨by rfl, ?_⟩; intro w hSw; (try dsimp only at hSw); go_simp; first | done | with_reducible rfl)
      try simp only [Act.put, List.setIfInBounds_toArray, List.set_cons_zero, List.set_cons_succ]
      refine wpAnyH_take (i := 6) (v := ?_) (arr_at rfl) (by kernel_rfl) (by kernel_rfl) (by kernel_rfl) (fun _ _ _ h => h) ?_ (by assumption) ?_
      rotate_left
      · first | (refine Or.inr ⟨by rfl, ?_⟩; with_reducible rfl) | (refine Or.inl ⟨by rfl, ?_⟩; intro w hSw; (try dsimp only at hSw); go_simp; first | done | with_reducible rfl)
      try simp only [Act.put, List.setIfInBounds_toArray, List.set_cons_zero, List.set_cons_succ]
      refine wpAnyH_take (i := 7) (v := ?_) (arr_at rfl) (by kernel_rfl) (by kernel_rfl) (by kernel_rfl) (fun _ _ _ h => h) ?_ (by assumption) ?_
      rotate_left
      · first | (refine Or.inr ⟨by rfl, ?_⟩; with_reducible rfl) | (refine Or.inl ⟨by rfl, ?_⟩; intro w hSw; (try dsimp only at hSw); go_simp; first | done | with_reducible rfl)
      try simp only [Act.put, List.setIfInBounds_toArray, List.set_cons_zero, List.set_cons_succ]
      refine wpAnyH_take (i := 8) (v := ?_) (arr_at rfl) (by kernel_rfl) (by kernel_rfl) (by kernel_rfl) (fun _ _ _ h => h) ?_ (by assumption) ?_
      rotate_left
      · first | (refine Or.inr ⟨by rfl, ?_⟩; with_reducible rfl) | (refine Or.inl ⟨by rfl, ?_⟩; intro w hSw; (try dsimp only at hSw); go_simp; first | done | with_reducible rfl)
      try simp only [Act.put, List.setIfInBounds_toArray, List.set_cons_zero, List.set_cons_succ]
      refine wpAnyH_take (i := 9) (v := ?_) (arr_at rfl) (by kernel_rfl) (by kernel_rfl) (by kernel_rfl) (fun _ _ _ h => h) ?_ (by assumption) ?_
      rotate_left
      · first | (refine Or.inr ⟨by rfl, ?_⟩; with_reducible rfl) | (refine Or.inl ⟨by rfl, ?_⟩; intro w hSw; (try dsimp only at hSw); go_simp; first | done | with_reducible rfl)
      try simp only [Act.put, List.setIfInBounds_toArray, List.set_cons_zero, List.set_cons_succ]
      refine wpAnyH_take (i := 10) (v := ?_) (arr_at rfl) (by kernel_rfl) (by kernel_rfl) (by kernel_rfl) (fun _ _ _ h => h) ?_ (by assumption) ?_
      rotate_left
      · first | (refine Or.inr ⟨by rfl, ?_⟩; with_reducible rfl) | (refine Or.inl ⟨by rfl, ?_⟩; intro w hSw; (try dsimp only at hSw); go_simp; first | done | with_reducible rfl)
      try simp only [Act.put, List.setIfInBounds_toArray, List.set_cons_zero, List.set_cons_succ]
      refine wpAnyH_take (i := 11) (v := ?_) (arr_at rfl) (by kernel_rfl) (by kernel_rfl) (by kernel_rfl) (fun _ _ _ h => h) ?_ (by assumption) ?_
      rotate_left
      · first | (refine Or.inr ⟨by rfl, ?_⟩; with_reducible rfl) | (refine Or.inl ⟨by rfl, ?_⟩; intro w hSw; (try dsimp only at hSw); go_simp; first | done | with_reducible rfl)
      try simp only [Act.put, List.setIfInBounds_toArray, List.set_cons_zero, List.set_cons_succ]
      refine wpAnyH_ready (rs := [5]) (by kernel_rfl) (by simp) ?_
      refine AllReadyH.cons (arr_at rfl) (fun K hK => ?_) AllReadyH.nil
      go_simp
      go_at_call 102; refine (c_has _ _ _ _ HG.out.1).mono ?_; rw [hi]; rintro e w1 ⟨rfl, hq⟩; replace k0 := k0.to hq; replace k1 := k1.to hq; replace B := Bl.then B hq; clear hq
      refine hK.out _ _ ?_ (fun hHeld => ?_)
      · (try dsimp only); exact ⟨k0.cell 0, k0.cell 1, k0.cell 2, k1.cell 1, k1.cell 3⟩
      clear hK K
      try simp only [Act.put, List.setIfInBounds_toArray, List.set_cons_zero, List.set_cons_succ]
      refine wpAnyH_take (i := 12) (v := ?_) (arr_at rfl) (by kernel_rfl) (by kernel_rfl) (by kernel_rfl) (fun _ _ _ h => h) ?_ (by assumption) ?_
      rotate_left
      · first | (refine Or.inr ⟨by rfl, ?_⟩; with_reducible rfl) | (refine Or.inl ⟨by rfl, ?_⟩; intro w hSw; (try dsimp only at hSw); go_simp; first | done | with_reducible rfl)
      try simp only [Act.put, List.setIfInBounds_toArray, List.set_cons_zero, List.set_cons_succ]
      refine wpAnyH_take (i := 13) (v := ?_) (arr_at rfl) (by kernel_rfl) (by kernel_rfl) (by kernel_rfl) (fun _ _ _ h => h) ?_ (by assumption) ?_
      rotate_left
      · first | (refine Or.inr ⟨by rfl, ?_⟩; with_reducible rfl) | (refine Or.inl ⟨by rfl, ?_⟩; intro w hSw; (try dsimp only at hSw); go_simp; first | done | with_reducible rfl)
      try simp only [Act.put, List.setIfInBounds_toArray, List.set_cons_zero, List.set_cons_succ]
      refine wpAnyH_done (by kernel_rfl) ?_ _
      go_wp2
      go_ret
      exact ⟨ret_int (by rw [HW.out, hi, if_pos rfl, if_pos HO.out]), B⟩
    · have t1 : (p.ta == g.ou) = false := beq_eq_false_iff_ne.2 ho
      have HO := Lib.hid ho
      clear ho
      refine wp_region_held_drew (S := (fun w' => w'.cell? ⟨w.heap.size, 0, none⟩ = some (.int .i64 g.ba) ∧ w'.cell? ⟨w.heap.size, 1, none⟩ = some (.int .i64 g.bi) ∧ w'.cell? ⟨w.heap.size, 2, none⟩ = some (.int .i64 g.ou) ∧ w'.cell? ⟨w.heap.size + 1, 1, none⟩ = some (.int .i64 p.fa) ∧ w'.cell? ⟨w.heap.size + 1, 3, none⟩ = some (.int .i64 p.ta))) (by kernel_rfl) ?_ (fun hHeld => ?_)
      · (try dsimp only); exact ⟨k0.cell 0, k0.cell 1, k0.cell 2, k1.cell 1, k1.cell 3⟩
      refine wpAnyH_take (i := 0) (v := ?_) (arr_at rfl) (by kernel_rfl) (by kernel_rfl) (by kernel_rfl) (fun _ _ _ h => h) ?_ (by assumption) ?_
      rotate_left
      · first | (refine Or.inr ⟨by rfl, ?_⟩; with_reducible rfl) | (refine Or.inl ⟨by rfl, ?_⟩; intro w hSw; (try dsimp only at hSw); go_simp; first | done | with_reducible rfl)
      try simp only [Act.put, List.setIfInBounds_toArray, List.set_cons_zero, List.set_cons_succ]
      refine wpAnyH_take (i := 1) (v := ?_) (arr_at rfl) (by kernel_rfl) (by kernel_rfl) (by kernel_rfl) (fun _ _ _ h => h) ?_ (by assumption) ?_
      rotate_left
      · first | (refine Or.inr ⟨by rfl, ?_⟩; with_reducible rfl) | (refine Or.inl ⟨by rfl, ?_⟩; intro w hSw; (try dsimp only at hSw); go_simp; first | done | with_reducible rfl)
      try simp only [Act.put, List.setIfInBounds_toArray, List.set_cons_zero, List.set_cons_succ]
      refine wpAnyH_take (i := 2) (v := ?_) (arr_at rfl) (by kernel_rfl) (by kernel_rfl) (by kernel_rfl) (fun _ _ _ h => h) ?_ (by assumption) ?_
      rotate_left
      · first | (refine Or.inr ⟨by rfl, ?_⟩; with_reducible rfl) | (refine Or.inl ⟨by rfl, ?_⟩; intro w hSw; (try dsimp only at hSw); go_simp; first | done | with_reducible rfl)
      try simp only [Act.put, List.setIfInBounds_toArray, List.set_cons_zero, List.set_cons_succ]
      refine wpAnyH_take (i := 3) (v := ?_) (arr_at rfl) (by kernel_rfl) (by kernel_rfl) (by kernel_rfl) (fun _ _ _ h => h) ?_ (by assumption) ?_
      rotate_left
      · first | (refine Or.inr ⟨by rfl, ?_⟩; with_reducible rfl) | (refine Or.inl ⟨by rfl, ?_⟩; intro w hSw; (try dsimp only at hSw); go_simp; first | done | with_reducible rfl)
      try simp only [Act.put, List.setIfInBounds_toArray, List.set_cons_zero, List.set_cons_succ]
      refine wpAnyH_take (i := 4) (v := ?_) (arr_at rfl) (by kernel_rfl) (by kernel_rfl) (by kernel_rfl) (fun _ _ _ h => h) ?_ (by assumption) ?_
      rotate_left
      · first | (refine Or.inr ⟨by rfl, ?_⟩; with_reducible rfl) | (refine Or.inl ⟨by rfl, ?_⟩; intro w hSw; (try dsimp only at hSw); go_simp; first | done | with_reducible rfl)
      try simp only [Act.put, List.setIfInBounds_toArray, List.set_cons_zero, List.set_cons_succ]
      refine wpAnyH_take (i := 6) (v := ?_) (arr_at rfl) (by kernel_rfl) (by kernel_rfl) (by kernel_rfl) (fun _ _ _ h => h) ?_ (by assumption) ?_
      rotate_left
      · first | (refine Or.inr ⟨by rfl, ?_⟩; with_reducible rfl) | (refine Or.inl ⟨by rfl, ?_⟩; intro w hSw; (try dsimp only at hSw); go_simp; first | done | with_reducible rfl)
      try simp only [Act.put, List.setIfInBounds_toArray, List.set_cons_zero, List.set_cons_succ]
      refine wpAnyH_take (i := 7) (v := ?_) (arr_at rfl) (by kernel_rfl) (by kernel_rfl) (by kernel_rfl) (fun _ _ _ h => h) ?_ (by assumption) ?_
      rotate_left
      · first | (refine Or.inr ⟨by rfl, ?_⟩; with_reducible rfl) | (refine Or.inl ⟨by rfl, ?_⟩; intro w hSw; (try dsimp only at hSw); go_simp; first | done | with_reducible rfl)
      try simp only [Act.put, List.setIfInBounds_toArray, List.set_cons_zero, List.set_cons_succ]
      refine wpAnyH_take (i := 8) (v := ?_) (arr_at rfl) (by kernel_rfl) (by kernel_rfl) (by kernel_rfl) (fun _ _ _ h => h) ?_ (by assumption) ?_
      rotate_left
      · first | (refine Or.inr ⟨by rfl, ?_⟩; with_reducible rfl) | (refine Or.inl ⟨by rfl, ?_⟩; intro w hSw; (try dsimp only at hSw); go_simp; first | done | with_reducible rfl)
      try simp only [Act.put, List.setIfInBounds_toArray, List.set_cons_zero, List.set_cons_succ]
      refine wpAnyH_take (i := 9) (v := ?_) (arr_at rfl) (by kernel_rfl) (by kernel_rfl) (by kernel_rfl) (fun _ _ _ h => h) ?_ (by assumption) ?_
      rotate_left
      · first | (refine Or.inr ⟨by rfl, ?_⟩; with_reducible rfl) | (refine Or.inl ⟨by rfl, ?_⟩; intro w hSw; (try dsimp only at hSw); go_simp; first | done | with_reducible rfl)
      try simp only [Act.put, List.setIfInBounds_toArray, List.set_cons_zero, List.set_cons_succ]
      refine wpAnyH_take (i := 10) (v := ?_) (arr_at rfl) (by kernel_rfl) (by kernel_rfl) (by kernel_rfl) (fun _ _ _ h => h) ?_ (by assumption) ?_
      rotate_left
      · first | (refine Or.inr ⟨by rfl, ?_⟩; with_reducible rfl) | (refine Or.inl ⟨by rfl, ?_⟩; intro w hSw; (try dsimp only at hSw); go_simp; first | done | with_reducible rfl)
      try simp only [Act.put, List.setIfInBounds_toArray, List.set_cons_zero, List.set_cons_succ]
      refine wpAnyH_take (i := 11) (v := ?_) (arr_at rfl) (by kernel_rfl) (by kernel_rfl) (by kernel_rfl) (fun _ _ _ h => h) ?_ (by assumption) ?_
      rotate_left
      · first | (refine Or.inr ⟨by rfl, ?_⟩; with_reducible rfl) | (refine Or.inl ⟨by rfl, ?_⟩; intro w hSw; (try dsimp only at hSw); go_simp; first | done | with_reducible rfl)
      try simp only [Act.put, List.setIfInBounds_toArray, List.set_cons_zero, List.set_cons_succ]
      refine wpAnyH_ready (rs := [5]) (by kernel_rfl) (by simp) ?_
      refine AllReadyH.cons (arr_at rfl) (fun K hK => ?_) AllReadyH.nil
      go_simp
      go_at_call 102; refine (c_has _ _ _ _ HG.out.1).mono ?_; rw [hi]; rintro e w1 ⟨rfl, hq⟩; replace k0 := k0.to hq; replace k1 := k1.to hq; replace B := Bl.then B hq; clear hq
      refine hK.out _ _ ?_ (fun hHeld => ?_)
      · (try dsimp only); exact ⟨k0.cell 0, k0.cell 1, k0.cell 2, k1.cell 1, k1.cell 3⟩
      clear hK K
      try simp only [Act.put, List.setIfInBounds_toArray, List.set_cons_zero, List.set_cons_succ]
      refine wpAnyH_take (i := 12) (v := ?_) (arr_at rfl) (by kernel_rfl) (by kernel_rfl) (by kernel_rfl) (fun _ _ _ h => h) ?_ (by assumption) ?_
      rotate_left
      · first | (refine Or.inr ⟨by rfl, ?_⟩; with_reducible rfl) | (refine Or.inl ⟨by rfl, ?_⟩; intro w hSw; (try dsimp only at hSw); go_simp; first | done | with_reducible rfl)
      try simp only [Act.put, List.setIfInBounds_toArray, List.set_cons_zero, List.set_cons_succ]
      refine wpAnyH_take (i := 13) (v := ?_) (arr_at rfl) (by kernel_rfl) (by kernel_rfl) (by kernel_rfl) (fun _ _ _ h => h) ?_ (by assumption) ?_
      rotate_left
      · first | (refine Or.inr ⟨by rfl, ?_⟩; with_reducible rfl) | (refine Or.inl ⟨by rfl, ?_⟩; intro w hSw; (try dsimp only at hSw); go_simp; first | done | with_reducible rfl)
      try simp only [Act.put, List.setIfInBounds_toArray, List.set_cons_zero, List.set_cons_succ]
      refine wpAnyH_done (by kernel_rfl) ?_ _
      have y0 := k0.cell 0; have y1 := k0.cell 1; have y2 := k0.cell 2; have y3 := k0.cell 3; have y4 := k0.cell 4; have y5 := k0.cell 5; have y6 := k0.cell 6; have y7 := k0.cell 7; have l0 := k0.lt; simp only [List.getElem?_toArray, List.getElem?_cons_zero, List.getElem?_cons_succ] at y0 y1 y2 y3 y4 y5 y6 y7
      have p0 := k1.cell 0; have p1 := k1.cell 1; have p2 := k1.cell 2; have p3 := k1.cell 3; have p4 := k1.cell 4; have p5 := k1.cell 5; have l1 := k1.lt; simp only [List.getElem?_toArray, List.getElem?_cons_zero, List.getElem?_cons_succ] at p0 p1 p2 p3 p4 p5
      cases ht : inN g.ba g.bi p.ta
      · go_wp2_with fail
        refine (c_has _ _ _ _ HG.out.1).mono ?_
        rw [ht]
        rintro e w3 ⟨rfl, hq⟩
        go_wp2
        go_ret
        exact ⟨ret_int (by rw [HW.out, hi, if_pos rfl, if_neg HO.out, ht, if_neg (by simp)]), Bl.then B hq⟩
      · go_wp2_with fail
        refine (c_has _ _ _ _ HG.out.1).mono ?_
        rw [ht]
        rintro e w3 ⟨rfl, hq⟩
        go_wp2
        go_ret
        exact ⟨ret_int (by rw [HW.out, hi, if_pos rfl, if_neg HO.out, ht, if_pos rfl]), Bl.then B hq⟩
theorem c_iWayOf (g : Gt) (p : Pk) (A : Option Addr) (n c : Nat) (C : Option Addr) (m d : Nat) (D : Option Addr) (dc : Nat) (w : World) (hv : vGate g = true) (hp : vPk p = true) (hn : g.tb.length = n) (hc : n ≤ c) (h : TM w A g.tb) (hm : g.cs.length = m) (hd : m ≤ d) (h' : TK w C g.cs) :
    Calls Tryz.prog 63 #[.agg #[.int .i64 g.ba, .int .i64 g.bi, .int .i64 g.ou, .slice A n c, .slice C m d, .int .i64 g.fi, .int .i64 g.ho, .int .i64 g.no], .agg #[.int .i64 0, .int .i64 p.fa, .int .i64 p.fp, .int .i64 p.ta, .int .i64 p.tp, .slice D 0 dc]] w fun e w' => e = .returned (.int .i64 (wayV g p)) ∧ Below w.heap.size w w' := by
  have HN := Lib.hid hn
  have HM := Lib.hid hm
  have HA : Hid (∀ W, Below w.heap.size w W → TM W A g.tb) := fun W b => h.to b
  have HC : Hid (∀ W, Below w.heap.size w W → TK W C g.cs) := fun W b => h'.to b
  have HV := Lib.hid hv
  have HP := Lib.hid hp
  clear hn hm h h' hv hp
  have k0 := (Blk.new w 44 #[.int .i64 g.ba, .int .i64 g.bi, .int .i64 g.ou, .slice A n c, .slice C m d, .int .i64 g.fi, .int .i64 g.ho, .int .i64 g.no]).alloc (.cells #[.int .i64 0, .int .i64 p.fa, .int .i64 p.fp, .int .i64 p.ta, .int .i64 p.tp, .slice D 0 dc] 74)
  have k1 := Blk.new (w.alloc (.cells #[.int .i64 g.ba, .int .i64 g.bi, .int .i64 g.ou, .slice A n c, .slice C m d, .int .i64 g.fi, .int .i64 g.ho, .int .i64 g.no] 44)) 74 #[.int .i64 0, .int .i64 p.fa, .int .i64 p.fp, .int .i64 p.ta, .int .i64 p.tp, .slice D 0 dc]
  have B : Below w.heap.size w ((w.alloc (.cells #[.int .i64 g.ba, .int .i64 g.bi, .int .i64 g.ou, .slice A n c, .slice C m d, .int .i64 g.fi, .int .i64 g.ho, .int .i64 g.no] 44)).alloc (.cells #[.int .i64 0, .int .i64 p.fa, .int .i64 p.fp, .int .i64 p.ta, .int .i64 p.tp, .slice D 0 dc] 74)) := ((Below.refl _ _).alloc (Nat.le_refl _) _).alloc (by simp) _
  simp only [World.size_alloc] at k1
  have y0 := k0.cell 0; have y1 := k0.cell 1; have y2 := k0.cell 2; have y3 := k0.cell 3; have y4 := k0.cell 4; have y5 := k0.cell 5; have y6 := k0.cell 6; have y7 := k0.cell 7; have l0 := k0.lt; simp only [List.getElem?_toArray, List.getElem?_cons_zero, List.getElem?_cons_succ] at y0 y1 y2 y3 y4 y5 y6 y7
  have p0 := k1.cell 0; have p1 := k1.cell 1; have p2 := k1.cell 2; have p3 := k1.cell 3; have p4 := k1.cell 4; have p5 := k1.cell 5; have l1 := k1.lt; simp only [List.getElem?_toArray, List.getElem?_cons_zero, List.getElem?_cons_succ] at p0 p1 p2 p3 p4 p5
  go_enter Tryz.func63, Tryz.ntmps63
  go_wp2_with fail
  refine (c_ValidGate g A n c C m d _ HV.out HN.out hc (HA.out _ B) HM.out hd (HC.out _ B)).mono ?_
  rintro e w1 ⟨rfl, hq⟩
  clear y0 y1 y2 y3 y4 y5 y6 y7 l0; clear p0 p1 p2 p3 p4 p5 l1; replace k0 := k0.to hq; replace k1 := k1.to hq; replace B := Bl.then B hq; clear hq; have y0 := k0.cell 0; have y1 := k0.cell 1; have y2 := k0.cell 2; have y3 := k0.cell 3; have y4 := k0.cell 4; have y5 := k0.cell 5; have y6 := k0.cell 6; have y7 := k0.cell 7; have l0 := k0.lt; simp only [List.getElem?_toArray, List.getElem?_cons_zero, List.getElem?_cons_succ] at y0 y1 y2 y3 y4 y5 y6 y7; have p0 := k1.cell 0; have p1 := k1.cell 1; have p2 := k1.cell 2; have p3 := k1.cell 3; have p4 := k1.cell 4; have p5 := k1.cell 5; have l1 := k1.lt; simp only [List.getElem?_toArray, List.getElem?_cons_zero, List.getElem?_cons_succ] at p0 p1 p2 p3 p4 p5
  go_wp2_with fail
  refine (c_iValidPacket p D dc _ HP.out).mono ?_
  rintro e w2 ⟨rfl, hq⟩
  clear y0 y1 y2 y3 y4 y5 y6 y7 l0; clear p0 p1 p2 p3 p4 p5 l1; replace k0 := k0.to hq; replace k1 := k1.to hq; replace B := Bl.then B hq; clear hq; have y0 := k0.cell 0; have y1 := k0.cell 1; have y2 := k0.cell 2; have y3 := k0.cell 3; have y4 := k0.cell 4; have y5 := k0.cell 5; have y6 := k0.cell 6; have y7 := k0.cell 7; have l0 := k0.lt; simp only [List.getElem?_toArray, List.getElem?_cons_zero, List.getElem?_cons_succ] at y0 y1 y2 y3 y4 y5 y6 y7; have p0 := k1.cell 0; have p1 := k1.cell 1; have p2 := k1.cell 2; have p3 := k1.cell 3; have p4 := k1.cell 4; have p5 := k1.cell 5; have l1 := k1.lt; simp only [List.getElem?_toArray, List.getElem?_cons_zero, List.getElem?_cons_succ] at p0 p1 p2 p3 p4 p5
  go_wp2_with fail
  refine (c_way g p A n c C m d D dc _ HV.out).mono ?_
  rintro e w3 ⟨rfl, hq⟩
  go_wp2
  go_ret
  exact ⟨rfl, Bl.then B hq⟩
theorem any_idx (P : Nat → Bool) (n : Nat) : decide (0 ≤ idx P n) = anyUp P n := by
  rcases idx_cases P n with ⟨k, hk, h1, _, e⟩ | ⟨h1, e⟩
  · rw [e, anyUp_true hk h1, decide_eq_true_eq]; omega
  · rw [e, anyUp_false h1]; rfl
/-- LetsIn's predicate. -/
theorem p_lets (b1 b2 b3 : Nat) (fi port fa fp : Int) (w0 : World) (h1 : Blk w0 b1 3 #[.int .i64 port]) (h2 : Blk w0 b2 70 #[.int .i64 fa, .int .i64 fp]) (h3 : Blk w0 b3 3 #[.int .i64 fi]) :
    PredK 163 #[.pointer (some ⟨b1, 0, none⟩), .pointer (some ⟨b2, 0, none⟩), .pointer (some ⟨b3, 0, none⟩)] (letQ fi port fa fp) w0 := by
  intro W x hW
  have y1 := (h1.to hW).cell 0
  have y2 := (h2.to hW).cell 0
  have y3 := (h2.to hW).cell 1
  have y4 := (h3.to hW).cell 0
  have l1 := (h1.to hW).lt
  have l2 := (h2.to hW).lt
  have l3 := (h3.to hW).lt
  simp only [List.getElem?_toArray, List.getElem?_cons_zero, List.getElem?_cons_succ] at y1 y2 y3 y4
  have heql := eql_end
  have hgd := guard_end
  have HX : Hid (letQ fi port fa fp x = (decide (x.po = port) && (decide (x.ad = fa) && (decide (fi = 1) || decide (x.ep = fp))))) := rfl
  have B : Below W.heap.size W (W.alloc (.cells #[.int .i64 x.po, .int .i64 x.ad, .int .i64 x.ep] 129)) := (Below.refl _ _).alloc (Nat.le_refl _) _
  clear h1 h2 h3 hW
  by_cases hpo : x.po = port
  · have t1 : (x.po == port) = true := beq_iff_eq.2 hpo
    cases he : eqE x.ad x.ep fa fp
    · by_cases hf : fi = 1
      · have t2 : (fi == 1) = true := beq_iff_eq.2 hf
        have HZ : Hid (letQ fi port fa fp x = (x.ad == fa)) := Lib.hid (by rw [HX.out, decide_eq_true hpo, decide_eq_true hf]; simp; rfl)
        clear hf hpo
        go_enter Tryz.func163, Tryz.ntmps163
        go_wp2
        go_ret
        exact ⟨ret_bool (by rw [HZ.out]), B⟩
      · have t2 : (fi == 1) = false := beq_eq_false_iff_ne.2 hf
        have HZ : Hid (letQ fi port fa fp x = false) := Lib.hid (by
          rw [HX.out, decide_eq_true hpo, decide_eq_false hf, Bool.false_or]
          unfold eqE at he
          rw [← he]; simp; rfl)
        clear hf hpo
        go_enter Tryz.func163, Tryz.ntmps163
        go_wp2
        go_ret
        exact ⟨ret_bool (by rw [HZ.out]), B⟩
    · have HZ : Hid (letQ fi port fa fp x = true) := Lib.hid (by
        unfold eqE at he
        simp only [Bool.and_eq_true, beq_iff_eq] at he
        rw [HX.out, decide_eq_true hpo, decide_eq_true he.1, decide_eq_true he.2]; simp)
      clear hpo
      go_enter Tryz.func163, Tryz.ntmps163
      go_wp2
      go_ret
      exact ⟨ret_bool (by rw [HZ.out]), B⟩
  · have t1 : (x.po == port) = false := beq_eq_false_iff_ne.2 hpo
    have HZ : Hid (letQ fi port fa fp x = false) := by rw [HX.out, decide_eq_false hpo]; rfl
    clear hpo
    go_enter Tryz.func163, Tryz.ntmps163
    go_wp2
    go_ret
    exact ⟨ret_bool (by rw [HZ.out]), B⟩
theorem c_LetsIn (fi port fa fp : Int) (C : Option Addr) (m d : Nat) (l : List Con) (w : World) (hf : inB fi 0 2 = true) (hv : vCon l = true) (hm : l.length = m) (hd : m ≤ d) (h : TK w C l) :
    Calls Tryz.prog 104 #[.int .i64 fi, .slice C m d, .int .i64 port, .agg #[.int .i64 fa, .int .i64 fp]] w fun e w' => e = .returned (.bool (letG fi l port fa fp)) ∧ Below w.heap.size w w' := by
  have HM := Lib.hid hm
  have HC : Hid (∀ W, Below w.heap.size w W → TK W C l) := fun W b => h.to b
  have hm10 : m ≤ 10 := hm ▸ con_len hv
  have HV := Lib.hid hv
  have HF := Lib.hid hf
  clear hm h hv hf
  have k0 := ((Blk.new w 3 #[.int .i64 fi]).alloc (.cells #[.int .i64 port] 3)).alloc (.cells #[.int .i64 fa, .int .i64 fp] 70)
  have k1 := (Blk.new (w.alloc (.cells #[.int .i64 fi] 3)) 3 #[.int .i64 port]).alloc (.cells #[.int .i64 fa, .int .i64 fp] 70)
  have k2 := Blk.new ((w.alloc (.cells #[.int .i64 fi] 3)).alloc (.cells #[.int .i64 port] 3)) 70 #[.int .i64 fa, .int .i64 fp]
  have B : Below w.heap.size w (((w.alloc (.cells #[.int .i64 fi] 3)).alloc (.cells #[.int .i64 port] 3)).alloc (.cells #[.int .i64 fa, .int .i64 fp] 70)) := (((Below.refl _ _).alloc (Nat.le_refl _) _).alloc (by simp) _).alloc (by simp; omega) _
  simp only [World.size_alloc] at k1 k2
  have y0 := k0.cell 0
  simp only [List.getElem?_toArray, List.getElem?_cons_zero] at y0
  have hlt := k0.lt
  go_enter Tryz.func104, Tryz.ntmps104
  go_wp2_with fail
  refine (c_in _ _ _ _).mono ?_
  rw [HF.out]
  rintro e w' ⟨rfl, rfl⟩
  go_wp2_with fail
  refine (c_iValidContacts C m d l _ HM.out hd (HC.out _ B) (by omega)).mono ?_
  rw [HV.out]
  rintro e w1 ⟨rfl, hq⟩
  clear y0 hlt
  replace k0 := k0.to hq
  replace k1 := k1.to hq
  replace k2 := k2.to hq
  replace B := Bl.then B hq
  clear hq
  have y0 := k0.cell 0
  simp only [List.getElem?_toArray, List.getElem?_cons_zero] at y0
  have hlt := k0.lt
  by_cases h0 : fi = 0
  · have t0 : (fi == 0) = true := beq_iff_eq.2 h0
    have HZ : Hid (letG fi l port fa fp = true) := by unfold letG; rw [decide_eq_true h0]; rfl
    clear h0
    go_wp2
    go_ret
    exact ⟨ret_bool (by rw [HZ.out]), B⟩
  · have t0 : (fi == 0) = false := beq_eq_false_iff_ne.2 h0
    have HZ : Hid (letG fi l port fa fp = anyUp (fun k => letQ fi port fa fp (cn l k)) m) := by unfold letG; rw [decide_eq_false h0, HM.out]; rfl
    have HQ := Lib.hid (p_lets _ _ _ fi port fa fp _ k1 k2 k0)
    clear h0
    go_wp2_with fail
    refine (c_ContainsK 163 _ (letQ fi port fa fp) _ (enters_of Tryz.func163 (by kernel_rfl) rfl) C m d l _ HQ.out (Below.refl _ _) HM.out (HC.out _ B) (by omega)).mono ?_
    rw [any_idx]
    rintro e w2 ⟨rfl, hq⟩
    go_wp2
    go_ret
    exact ⟨ret_bool (by rw [HZ.out]), Bl.then B hq⟩
end Go.Proofs.YtjflfhjnbccpmaaGreatDoor
