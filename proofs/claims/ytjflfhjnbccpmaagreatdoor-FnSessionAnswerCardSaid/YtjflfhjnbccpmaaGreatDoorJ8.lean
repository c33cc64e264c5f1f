/- Joined: W11, W3, W12. -/
import Derived.Test.YtjflfhjnbccpmaaGreatDoorJ7
import Derived.Deep.RegionHeld3
set_option linter.unusedVariables false
set_option linter.unusedSimpArgs false
namespace Go.Proofs.YtjflfhjnbccpmaaGreatDoor
open Go.RowKit
/-- What passes between two ends inside. -/
def passG (g : Gt) (p : Pk) : Option (Pk × Gt) := match sendG g p with | none => none | some (q, g') => recvG g' q
theorem way_cases (g : Gt) (p : Pk) : (wayV g p = 1 ∧ inN g.ba g.bi p.fa = true ∧ inN g.ba g.bi p.ta = false ∧ p.ta ≠ g.ou) ∨ (wayV g p = 2 ∧ inN g.ba g.bi p.fa = false ∧ p.ta = g.ou) ∨ (wayV g p = 3 ∧ inN g.ba g.bi p.fa = true ∧ p.ta = g.ou) ∨ wayV g p = 0 := by
  unfold wayV
  cases h1 : inN g.ba g.bi p.fa <;> by_cases h2 : p.ta = g.ou <;> cases h3 : inN g.ba g.bi p.ta <;> simp [h2]
set_option maxHeartbeats 3200000 in
theorem c_iReceive (g : Gt) (p : Pk) (A : Option Addr) (n c : Nat) (C : Option Addr) (m d : Nat) (D : Option Addr) (dc : Nat) (w : World) (hv : vGate g = true) (hp : vPk p = true) (hto : p.ta = g.ou) (hfr : inN g.ba g.bi p.fa = false) (hn : g.tb.length = n) (hc : n ≤ c) (h : TM w A g.tb) (hm : g.cs.length = m) (hd : m ≤ d) (h' : TK w C g.cs) :
    Calls Tryz.prog 65 #[.agg #[.int .i64 g.ba, .int .i64 g.bi, .int .i64 g.ou, .slice A n c, .slice C m d, .int .i64 g.fi, .int .i64 g.ho, .int .i64 g.no], .agg #[.int .i64 0, .int .i64 p.fa, .int .i64 p.fp, .int .i64 p.ta, .int .i64 p.tp, .slice D 0 dc]] w (FwdR (recvG g p) w) := by

  have ht1 : (p.ta != g.ou) = false := by rw [hto]; simp
  have HF := Lib.hid hfr
  have HR : Hid (recvG g p = if byP g.tb p.tp n < 0 then none else if letG g.fi g.cs p.tp p.fa p.fp then some ({ p with ta := (mn g.tb (byP g.tb p.tp n).toNat).ad, tp := (mn g.tb (byP g.tb p.tp n).toNat).ep }, g) else none) := by unfold recvG; rw [hn]; rfl
  clear hto hfr
  have HN := Lib.hid hn
  have HM := Lib.hid hm
  have HA : Hid (∀ W, Below w.heap.size w W → TM W A g.tb) := fun W b => h.to b
  have HC : Hid (∀ W, Below w.heap.size w W → TK W C g.cs) := fun W b => h'.to b
  have HV := Lib.hid hv
  have HP := Lib.hid hp
  have HG := Lib.hid (gate_nums hv)
  have hn8 : n ≤ 8 := hn ▸ tab_len (gate_tab hv)
  have hm10 : m ≤ 10 := hm ▸ con_len (gate_con hv)
  clear hn hm h h' hv hp
  have k0 := (((Blk.new w 44 #[.int .i64 g.ba, .int .i64 g.bi, .int .i64 g.ou, .slice A n c, .slice C m d, .int .i64 g.fi, .int .i64 g.ho, .int .i64 g.no]).alloc (.cells #[.int .i64 0, .int .i64 p.fa, .int .i64 p.fp, .int .i64 p.ta, .int .i64 p.tp, .slice D 0 dc] 74)).alloc (.cells #[.int .i64 0, .int .i64 0, .int .i64 0, .int .i64 0, .int .i64 0, .slice none 0 0] 74)).alloc (.cells #[.int .i64 0, .int .i64 0, .int .i64 0, .slice none 0 0, .slice none 0 0, .int .i64 0, .int .i64 0, .int .i64 0] 44)
  have k1 := ((Blk.new (w.alloc (.cells #[.int .i64 g.ba, .int .i64 g.bi, .int .i64 g.ou, .slice A n c, .slice C m d, .int .i64 g.fi, .int .i64 g.ho, .int .i64 g.no] 44)) 74 #[.int .i64 0, .int .i64 p.fa, .int .i64 p.fp, .int .i64 p.ta, .int .i64 p.tp, .slice D 0 dc]).alloc (.cells #[.int .i64 0, .int .i64 0, .int .i64 0, .int .i64 0, .int .i64 0, .slice none 0 0] 74)).alloc (.cells #[.int .i64 0, .int .i64 0, .int .i64 0, .slice none 0 0, .slice none 0 0, .int .i64 0, .int .i64 0, .int .i64 0] 44)
  have k2 := (Blk.new ((w.alloc (.cells #[.int .i64 g.ba, .int .i64 g.bi, .int .i64 g.ou, .slice A n c, .slice C m d, .int .i64 g.fi, .int .i64 g.ho, .int .i64 g.no] 44)).alloc (.cells #[.int .i64 0, .int .i64 p.fa, .int .i64 p.fp, .int .i64 p.ta, .int .i64 p.tp, .slice D 0 dc] 74)) 74 #[.int .i64 0, .int .i64 0, .int .i64 0, .int .i64 0, .int .i64 0, .slice none 0 0]).alloc (.cells #[.int .i64 0, .int .i64 0, .int .i64 0, .slice none 0 0, .slice none 0 0, .int .i64 0, .int .i64 0, .int .i64 0] 44)
  have k3 := Blk.new (((w.alloc (.cells #[.int .i64 g.ba, .int .i64 g.bi, .int .i64 g.ou, .slice A n c, .slice C m d, .int .i64 g.fi, .int .i64 g.ho, .int .i64 g.no] 44)).alloc (.cells #[.int .i64 0, .int .i64 p.fa, .int .i64 p.fp, .int .i64 p.ta, .int .i64 p.tp, .slice D 0 dc] 74)).alloc (.cells #[.int .i64 0, .int .i64 0, .int .i64 0, .int .i64 0, .int .i64 0, .slice none 0 0] 74)) 44 #[.int .i64 0, .int .i64 0, .int .i64 0, .slice none 0 0, .slice none 0 0, .int .i64 0, .int .i64 0, .int .i64 0]
  have B : Below w.heap.size w ((((w.alloc (.cells #[.int .i64 g.ba, .int .i64 g.bi, .int .i64 g.ou, .slice A n c, .slice C m d, .int .i64 g.fi, .int .i64 g.ho, .int .i64 g.no] 44)).alloc (.cells #[.int .i64 0, .int .i64 p.fa, .int .i64 p.fp, .int .i64 p.ta, .int .i64 p.tp, .slice D 0 dc] 74)).alloc (.cells #[.int .i64 0, .int .i64 0, .int .i64 0, .int .i64 0, .int .i64 0, .slice none 0 0] 74)).alloc (.cells #[.int .i64 0, .int .i64 0, .int .i64 0, .slice none 0 0, .slice none 0 0, .int .i64 0, .int .i64 0, .int .i64 0] 44)) := ((((Below.refl _ _).alloc (Nat.le_refl _) _).alloc (by simp) _).alloc (by simp; omega) _).alloc (by simp; omega) _
  simp only [World.size_alloc] at k1 k2 k3
  have y0 := k0.cell 0; have y1 := k0.cell 1; have y2 := k0.cell 2; have y3 := k0.cell 3; have y4 := k0.cell 4; have y5 := k0.cell 5; have y6 := k0.cell 6; have y7 := k0.cell 7; have l0 := k0.lt; simp only [List.getElem?_toArray, List.getElem?_cons_zero, List.getElem?_cons_succ] at y0 y1 y2 y3 y4 y5 y6 y7
  have p0 := k1.cell 0; have p1 := k1.cell 1; have p2 := k1.cell 2; have p3 := k1.cell 3; have p4 := k1.cell 4; have p5 := k1.cell 5; have l1 := k1.lt; simp only [List.getElem?_toArray, List.getElem?_cons_zero, List.getElem?_cons_succ] at p0 p1 p2 p3 p4 p5
  go_enter Tryz.func65, Tryz.ntmps65
  go_wp2_with fail
  refine (c_ValidGate g A n c C m d _ HV.out HN.out hc (HA.out _ B) HM.out hd (HC.out _ B)).mono ?_
  rintro e w1 ⟨rfl, hq⟩
  clear y0 y1 y2 y3 y4 y5 y6 y7 l0; clear p0 p1 p2 p3 p4 p5 l1; replace k0 := k0.to hq; replace k1 := k1.to hq; replace k2 := k2.to hq; replace k3 := k3.to hq; replace B := Bl.then B hq; clear hq; have y0 := k0.cell 0; have y1 := k0.cell 1; have y2 := k0.cell 2; have y3 := k0.cell 3; have y4 := k0.cell 4; have y5 := k0.cell 5; have y6 := k0.cell 6; have y7 := k0.cell 7; have l0 := k0.lt; simp only [List.getElem?_toArray, List.getElem?_cons_zero, List.getElem?_cons_succ] at y0 y1 y2 y3 y4 y5 y6 y7; have p0 := k1.cell 0; have p1 := k1.cell 1; have p2 := k1.cell 2; have p3 := k1.cell 3; have p4 := k1.cell 4; have p5 := k1.cell 5; have l1 := k1.lt; simp only [List.getElem?_toArray, List.getElem?_cons_zero, List.getElem?_cons_succ] at p0 p1 p2 p3 p4 p5
  go_wp2_with fail
  refine (c_iValidPacket p D dc _ HP.out).mono ?_
  rintro e w2 ⟨rfl, hq⟩
  clear y0 y1 y2 y3 y4 y5 y6 y7 l0; clear p0 p1 p2 p3 p4 p5 l1; replace k0 := k0.to hq; replace k1 := k1.to hq; replace k2 := k2.to hq; replace k3 := k3.to hq; replace B := Bl.then B hq; clear hq; have y0 := k0.cell 0; have y1 := k0.cell 1; have y2 := k0.cell 2; have y3 := k0.cell 3; have y4 := k0.cell 4; have y5 := k0.cell 5; have y6 := k0.cell 6; have y7 := k0.cell 7; have l0 := k0.lt; simp only [List.getElem?_toArray, List.getElem?_cons_zero, List.getElem?_cons_succ] at y0 y1 y2 y3 y4 y5 y6 y7; have p0 := k1.cell 0; have p1 := k1.cell 1; have p2 := k1.cell 2; have p3 := k1.cell 3; have p4 := k1.cell 4; have p5 := k1.cell 5; have l1 := k1.lt; simp only [List.getElem?_toArray, List.getElem?_cons_zero, List.getElem?_cons_succ] at p0 p1 p2 p3 p4 p5
  go_wp2_with fail
  refine (c_has _ _ _ _ HG.out.1).mono ?_
  rw [HF.out]
  rintro e w3 ⟨rfl, hq⟩
  clear y0 y1 y2 y3 y4 y5 y6 y7 l0; clear p0 p1 p2 p3 p4 p5 l1; replace k0 := k0.to hq; replace k1 := k1.to hq; replace k2 := k2.to hq; replace k3 := k3.to hq; replace B := Bl.then B hq; clear hq; have y0 := k0.cell 0; have y1 := k0.cell 1; have y2 := k0.cell 2; have y3 := k0.cell 3; have y4 := k0.cell 4; have y5 := k0.cell 5; have y6 := k0.cell 6; have y7 := k0.cell 7; have l0 := k0.lt; simp only [List.getElem?_toArray, List.getElem?_cons_zero, List.getElem?_cons_succ] at y0 y1 y2 y3 y4 y5 y6 y7; have p0 := k1.cell 0; have p1 := k1.cell 1; have p2 := k1.cell 2; have p3 := k1.cell 3; have p4 := k1.cell 4; have p5 := k1.cell 5; have l1 := k1.lt; simp only [List.getElem?_toArray, List.getElem?_cons_zero, List.getElem?_cons_succ] at p0 p1 p2 p3 p4 p5
  go_wp2_with fail
  refine (c_byPort A n c g.tb _ _ HN.out (HA.out _ B) (by omega)).mono ?_
  rintro e w4 ⟨rfl, hq⟩
  clear y0 y1 y2 y3 y4 y5 y6 y7 l0; clear p0 p1 p2 p3 p4 p5 l1; replace k0 := k0.to hq; replace k1 := k1.to hq; replace k2 := k2.to hq; replace k3 := k3.to hq; replace B := Bl.then B hq; clear hq; have y0 := k0.cell 0; have y1 := k0.cell 1; have y2 := k0.cell 2; have y3 := k0.cell 3; have y4 := k0.cell 4; have y5 := k0.cell 5; have y6 := k0.cell 6; have y7 := k0.cell 7; have l0 := k0.lt; simp only [List.getElem?_toArray, List.getElem?_cons_zero, List.getElem?_cons_succ] at y0 y1 y2 y3 y4 y5 y6 y7; have p0 := k1.cell 0; have p1 := k1.cell 1; have p2 := k1.cell 2; have p3 := k1.cell 3; have p4 := k1.cell 4; have p5 := k1.cell 5; have l1 := k1.lt; simp only [List.getElem?_toArray, List.getElem?_cons_zero, List.getElem?_cons_succ] at p0 p1 p2 p3 p4 p5
  have hbd := idx_bd (fun k => isP (mn g.tb k) p.tp) n
  change -1 ≤ byP g.tb p.tp n ∧ byP g.tb p.tp n < n at hbd
  generalize hpl : byP g.tb p.tp n = at' at hbd HR ⊢
  have HPL := Lib.hid hpl
  clear hpl
  by_cases hneg : at' < 0
  · have t0 : decide (at' < 0) = true := by rw [decide_eq_true_eq]; omega
    have HZ : Hid (recvG g p = none) := by rw [HR.out, if_pos hneg]; rfl
    clear hneg
    clear y0 y1 y2 y3 y4 y5 y6 y7 l0
    clear p0 p1 p2 p3 p4 p5 l1
    have q0 := k2.cell 0; have q1 := k2.cell 1; have q2 := k2.cell 2; have q3 := k2.cell 3; have q4 := k2.cell 4; have q5 := k2.cell 5; have l2 := k2.lt; simp only [List.getElem?_toArray, List.getElem?_cons_zero, List.getElem?_cons_succ] at q0 q1 q2 q3 q4 q5
    have z0 := k3.cell 0; have z1 := k3.cell 1; have z2 := k3.cell 2; have z3 := k3.cell 3; have z4 := k3.cell 4; have z5 := k3.cell 5; have z6 := k3.cell 6; have z7 := k3.cell 7; have l3 := k3.lt; simp only [List.getElem?_toArray, List.getElem?_cons_zero, List.getElem?_cons_succ] at z0 z1 z2 z3 z4 z5 z6 z7
    have fq0 := k2.frozen 0; have fq1 := k2.frozen 1; have fq2 := k2.frozen 2; have fq3 := k2.frozen 3; have fq4 := k2.frozen 4; have fq5 := k2.frozen 5
    have fz0 := k3.frozen 0; have fz1 := k3.frozen 1; have fz2 := k3.frozen 2; have fz3 := k3.frozen 3; have fz4 := k3.frozen 4; have fz5 := k3.frozen 5; have fz6 := k3.frozen 6; have fz7 := k3.frozen 7
    go_wp2
    clear q0 q1 q2 q3 q4 q5 l2 z0 z1 z2 z3 z4 z5 z6 z7 l3 fq0 fq1 fq2 fq3 fq4 fq5 fz0 fz1 fz2 fz3 fz4 fz5 fz6 fz7
    obtain ⟨W5, e5, z5, hf5, hb5, hr5⟩ := put6 k2 (.int .i64 0) (.int .i64 0) (.int .i64 0) (.int .i64 0) (.int .i64 0) (.slice none 0 0)
    rw [e5]
    replace k3 := hf5 k3 (by omega)
    replace B := hb5 B (by omega)
    obtain ⟨W6, e6, z6, hf6, hb6, hr6⟩ := put8 k3 (.int .i64 0) (.int .i64 0) (.int .i64 0) (.slice none 0 0) (.slice none 0 0) (.int .i64 0) (.int .i64 0) (.int .i64 0)
    rw [e6]
    replace k2 := hf6 z5 (by omega)
    replace B := hb6 B (by omega)
    replace k3 := z6
    clear e5 e6 hf5 hb5 hr5 hf6 hb6 hr6 z5 z6
    have q0 := k2.cell 0; have q1 := k2.cell 1; have q2 := k2.cell 2; have q3 := k2.cell 3; have q4 := k2.cell 4; have q5 := k2.cell 5; have l2 := k2.lt; simp only [List.getElem?_toArray, List.getElem?_cons_zero, List.getElem?_cons_succ] at q0 q1 q2 q3 q4 q5
    have z0 := k3.cell 0; have z1 := k3.cell 1; have z2 := k3.cell 2; have z3 := k3.cell 3; have z4 := k3.cell 4; have z5 := k3.cell 5; have z6 := k3.cell 6; have z7 := k3.cell 7; have l3 := k3.lt; simp only [List.getElem?_toArray, List.getElem?_cons_zero, List.getElem?_cons_succ] at z0 z1 z2 z3 z4 z5 z6 z7
    refine bodyPost_ret (v := .tuple #[.agg #[.int .i64 0, .int .i64 0, .int .i64 0, .int .i64 0, .int .i64 0, .slice none 0 0], .agg #[.int .i64 0, .int .i64 0, .int .i64 0, .slice none 0 0, .slice none 0 0, .int .i64 0, .int .i64 0, .int .i64 0], .bool false]) (by simp [results, Tryz.results65, go_sem, q0, q1, q2, q3, q4, q5, z0, z1, z2, z3, z4, z5, z6, z7]) rfl ?_
    exact ⟨B, pk0, gt0, none, 0, none, 0, 0, none, 0, 0, false, rfl, HZ.out, rfl, Nat.le_refl _, Fr.none _, TM.nil _ _, rfl, Nat.le_refl _, Fr.none _, TK.nil _ _⟩
  · have t0 : decide (at' < 0) = false := by rw [decide_eq_false_iff_not]; omega
    obtain ⟨k, rfl⟩ := Int.eq_ofNat_of_zero_le (show 0 ≤ at' by omega)
    have hkn : k < n := by omega
    have hkl : Hid (k < g.tb.length) := Lib.hid (by rw [HN.out]; exact hkn)
    have e2 : 0 ≤ (k : Int) ∧ (k : Int) < n := by omega
    rw [if_neg hneg, Int.toNat_natCast] at HR
    clear hneg
    go_wp2_with fail
    refine (c_LetsIn _ _ _ _ C m d g.cs _ HG.out.2.2.2.1 (gate_con HV.out) HM.out hd (HC.out _ B)).mono ?_
    rintro e w5 ⟨rfl, hq⟩
    clear y0 y1 y2 y3 y4 y5 y6 y7 l0; clear p0 p1 p2 p3 p4 p5 l1; replace k0 := k0.to hq; replace k1 := k1.to hq; replace k2 := k2.to hq; replace k3 := k3.to hq; replace B := Bl.then B hq; clear hq; have y0 := k0.cell 0; have y1 := k0.cell 1; have y2 := k0.cell 2; have y3 := k0.cell 3; have y4 := k0.cell 4; have y5 := k0.cell 5; have y6 := k0.cell 6; have y7 := k0.cell 7; have l0 := k0.lt; simp only [List.getElem?_toArray, List.getElem?_cons_zero, List.getElem?_cons_succ] at y0 y1 y2 y3 y4 y5 y6 y7; have p0 := k1.cell 0; have p1 := k1.cell 1; have p2 := k1.cell 2; have p3 := k1.cell 3; have p4 := k1.cell 4; have p5 := k1.cell 5; have l1 := k1.lt; simp only [List.getElem?_toArray, List.getElem?_cons_zero, List.getElem?_cons_succ] at p0 p1 p2 p3 p4 p5
    cases hlet : letG g.fi g.cs p.tp p.fa p.fp
    · have HZ : Hid (recvG g p = none) := by rw [HR.out, hlet, if_neg (by simp)]; rfl
      clear hlet
      clear y0 y1 y2 y3 y4 y5 y6 y7 l0
      clear p0 p1 p2 p3 p4 p5 l1
      have q0 := k2.cell 0; have q1 := k2.cell 1; have q2 := k2.cell 2; have q3 := k2.cell 3; have q4 := k2.cell 4; have q5 := k2.cell 5; have l2 := k2.lt; simp only [List.getElem?_toArray, List.getElem?_cons_zero, List.getElem?_cons_succ] at q0 q1 q2 q3 q4 q5
      have z0 := k3.cell 0; have z1 := k3.cell 1; have z2 := k3.cell 2; have z3 := k3.cell 3; have z4 := k3.cell 4; have z5 := k3.cell 5; have z6 := k3.cell 6; have z7 := k3.cell 7; have l3 := k3.lt; simp only [List.getElem?_toArray, List.getElem?_cons_zero, List.getElem?_cons_succ] at z0 z1 z2 z3 z4 z5 z6 z7
      have fq0 := k2.frozen 0; have fq1 := k2.frozen 1; have fq2 := k2.frozen 2; have fq3 := k2.frozen 3; have fq4 := k2.frozen 4; have fq5 := k2.frozen 5
      have fz0 := k3.frozen 0; have fz1 := k3.frozen 1; have fz2 := k3.frozen 2; have fz3 := k3.frozen 3; have fz4 := k3.frozen 4; have fz5 := k3.frozen 5; have fz6 := k3.frozen 6; have fz7 := k3.frozen 7
      go_wp2
      clear q0 q1 q2 q3 q4 q5 l2 z0 z1 z2 z3 z4 z5 z6 z7 l3 fq0 fq1 fq2 fq3 fq4 fq5 fz0 fz1 fz2 fz3 fz4 fz5 fz6 fz7
      obtain ⟨W5, e5, z5, hf5, hb5, hr5⟩ := put6 k2 (.int .i64 0) (.int .i64 0) (.int .i64 0) (.int .i64 0) (.int .i64 0) (.slice none 0 0)
      rw [e5]
      replace k3 := hf5 k3 (by omega)
      replace B := hb5 B (by omega)
      obtain ⟨W6, e6, z6, hf6, hb6, hr6⟩ := put8 k3 (.int .i64 0) (.int .i64 0) (.int .i64 0) (.slice none 0 0) (.slice none 0 0) (.int .i64 0) (.int .i64 0) (.int .i64 0)
      rw [e6]
      replace k2 := hf6 z5 (by omega)
      replace B := hb6 B (by omega)
      replace k3 := z6
      clear e5 e6 hf5 hb5 hr5 hf6 hb6 hr6 z5 z6
      have q0 := k2.cell 0; have q1 := k2.cell 1; have q2 := k2.cell 2; have q3 := k2.cell 3; have q4 := k2.cell 4; have q5 := k2.cell 5; have l2 := k2.lt; simp only [List.getElem?_toArray, List.getElem?_cons_zero, List.getElem?_cons_succ] at q0 q1 q2 q3 q4 q5
      have z0 := k3.cell 0; have z1 := k3.cell 1; have z2 := k3.cell 2; have z3 := k3.cell 3; have z4 := k3.cell 4; have z5 := k3.cell 5; have z6 := k3.cell 6; have z7 := k3.cell 7; have l3 := k3.lt; simp only [List.getElem?_toArray, List.getElem?_cons_zero, List.getElem?_cons_succ] at z0 z1 z2 z3 z4 z5 z6 z7
      refine bodyPost_ret (v := .tuple #[.agg #[.int .i64 0, .int .i64 0, .int .i64 0, .int .i64 0, .int .i64 0, .slice none 0 0], .agg #[.int .i64 0, .int .i64 0, .int .i64 0, .slice none 0 0, .slice none 0 0, .int .i64 0, .int .i64 0, .int .i64 0], .bool false]) (by simp [results, Tryz.results65, go_sem, q0, q1, q2, q3, q4, q5, z0, z1, z2, z3, z4, z5, z6, z7]) rfl ?_
      exact ⟨B, pk0, gt0, none, 0, none, 0, 0, none, 0, 0, false, rfl, HZ.out, rfl, Nat.le_refl _, Fr.none _, TM.nil _ _, rfl, Nat.le_refl _, Fr.none _, TK.nil _ _⟩
    · have HZ : Hid (recvG g p = some ({ p with ta := (mn g.tb k).ad, tp := (mn g.tb k).ep }, g)) := by rw [HR.out, hlet, if_pos rfl]; rfl
      clear hlet
      go_wp2_with fail
      refine (c_PcopyOf p D dc _).mono ?_
      rintro e w6 ⟨D', rfl, hq⟩
      clear y0 y1 y2 y3 y4 y5 y6 y7 l0; clear p0 p1 p2 p3 p4 p5 l1; replace k0 := k0.to hq; replace k1 := k1.to hq; replace k2 := k2.to hq; replace k3 := k3.to hq; replace B := Bl.then B hq; clear hq; have y0 := k0.cell 0; have y1 := k0.cell 1; have y2 := k0.cell 2; have y3 := k0.cell 3; have y4 := k0.cell 4; have y5 := k0.cell 5; have y6 := k0.cell 6; have y7 := k0.cell 7; have l0 := k0.lt; simp only [List.getElem?_toArray, List.getElem?_cons_zero, List.getElem?_cons_succ] at y0 y1 y2 y3 y4 y5 y6 y7; have p0 := k1.cell 0; have p1 := k1.cell 1; have p2 := k1.cell 2; have p3 := k1.cell 3; have p4 := k1.cell 4; have p5 := k1.cell 5; have l1 := k1.lt; simp only [List.getElem?_toArray, List.getElem?_cons_zero, List.getElem?_cons_succ] at p0 p1 p2 p3 p4 p5
      obtain ⟨b0, off, rfl, hb0, c0, c1, c2, c3⟩ := (HA.out _ B).get hkl.out
      go_upto_region 8 with fail
      have kp := Blk.new w6 74 #[.int .i64 0, .int .i64 p.fa, .int .i64 p.fp, .int .i64 (mn g.tb k).ad, .int .i64 (mn g.tb k).ep, .slice D' 0 0]
      have hl8 := k3.lt
      obtain ⟨b8, hb8⟩ : ∃ b, w6.heap.size = b := ⟨_, rfl⟩
      rw [hb8] at kp hl8 ⊢
      have hq : Below w6.heap.size w6 (w6.alloc (.cells #[.int .i64 0, .int .i64 p.fa, .int .i64 p.fp, .int .i64 (mn g.tb k).ad, .int .i64 (mn g.tb k).ep, .slice D' 0 0] 74)) := (Below.refl _ _).alloc (Nat.le_refl _) _
      clear y0 y1 y2 y3 y4 y5 y6 y7 l0
      clear p0 p1 p2 p3 p4 p5 l1
      replace k0 := k0.to hq; replace k1 := k1.to hq; replace k2 := k2.to hq; replace k3 := k3.to hq; replace B := Bl.then B hq; clear hq
      clear c0 c1 c2 c3 hb8 hb0
      generalize w6.alloc (.cells #[.int .i64 0, .int .i64 p.fa, .int .i64 p.fp, .int .i64 (mn g.tb k).ad, .int .i64 (mn g.tb k).ep, .slice D' 0 0] 74) = w7 at *
      have hq : Below w7.heap.size w7 w7.drew := Bl.of_drewN w7 1
      replace kp := kp.to hq
      replace k0 := k0.to hq; replace k1 := k1.to hq; replace k2 := k2.to hq; replace k3 := k3.to hq; replace B := Bl.then B hq; clear hq
      go_wp2_with fail
      refine wp_region_held_drew (S := (fun w' => w'.cell? ⟨w.heap.size, 0, none⟩ = some (.int .i64 g.ba) ∧ w'.cell? ⟨w.heap.size, 1, none⟩ = some (.int .i64 g.bi) ∧ w'.cell? ⟨w.heap.size, 2, none⟩ = some (.int .i64 g.ou) ∧ w'.cell? ⟨w.heap.size, 3, none⟩ = some (.slice (some ⟨b0, off, none⟩) n c) ∧ w'.cell? ⟨w.heap.size, 4, none⟩ = some (.slice C m d) ∧ w'.cell? ⟨w.heap.size, 5, none⟩ = some (.int .i64 g.fi) ∧ w'.cell? ⟨w.heap.size, 6, none⟩ = some (.int .i64 g.ho) ∧ w'.cell? ⟨w.heap.size, 7, none⟩ = some (.int .i64 g.no) ∧ w'.cell? ⟨b8, 0, none⟩ = some (.int .i64 0) ∧ w'.cell? ⟨b8, 1, none⟩ = some (.int .i64 p.fa) ∧ w'.cell? ⟨b8, 2, none⟩ = some (.int .i64 p.fp) ∧ w'.cell? ⟨b8, 3, none⟩ = some (.int .i64 (mn g.tb k).ad) ∧ w'.cell? ⟨b8, 4, none⟩ = some (.int .i64 (mn g.tb k).ep) ∧ w'.cell? ⟨b8, 5, none⟩ = some (.slice D' 0 0))) (by kernel_rfl) ?_ (fun hHeld => ?_)
      · (try dsimp only); exact ⟨k0.cell 0, k0.cell 1, k0.cell 2, k0.cell 3, k0.cell 4, k0.cell 5, k0.cell 6, k0.cell 7, kp.cell 0, kp.cell 1, kp.cell 2, kp.cell 3, kp.cell 4, kp.cell 5⟩
      generalize World.drew w7 = w8 at *
      refine wpAnyH_take (i := 0) (v := ?_) (arr_at rfl) (by kernel_rfl) (by kernel_rfl) (by kernel_rfl) (fun _ _ _ h => h) ?_ (by assumption) ?_
      rotate_left
      · first | (refine Or.inr ⟨by rfl, ?_⟩; with_reducible rfl) | (refine Or.inl ⟨by rfl, ?_⟩; intro w hSw; (try dsimp only at hSw); go_simp; first | done | with_reducible rfl)
      try simp only [Act.put, List.setIfInBounds_toArray, List.set_cons_zero, List.set_cons_succ]
      refine wpAnyH_take (i := 1) (v := ?_) (arr_at rfl) (by kernel_rfl) (by kernel_rfl) (by kernel_rfl) (fun _ _ _ h => h) ?_ (by assumption) ?_
      rotate_left
      · first | (refine Or.inr ⟨by rfl, ?_⟩; with_reducible rfl) | (refine Or.inl ⟨by rfl, ?_⟩; intro w hSw; (try dsimp only at hSw); go_simp; first | done | with_reducible rfl)
      try simp only [Act.put, List.setIfInBounds_toArray, List.set_cons_zero, List.set_cons_succ]
      refine wpAnyH_ready (rs := [2]) (by kernel_rfl) (by simp) ?_
      refine AllReadyH.cons (arr_at rfl) (fun K hK => ?_) AllReadyH.nil
      go_simp
      go_at_call 70; refine (c_GcopyOf g (some ⟨b0, off, none⟩) n c C m d _ HN.out (HA.out _ B) HM.out (HC.out _ B) (by omega) (by omega)).mono ?_; rintro e wB ⟨T, T2, rfl, hFr, hTab, hFc, hCon, hq⟩; have hlp := kp.lt; replace hFr : Fr T (b8 + 1) := hFr.low (by omega); replace hFc : Fr T2 (b8 + 1) := hFc.low (by omega); replace kp := kp.to hq; clear hlp; replace k0 := k0.to hq; replace k1 := k1.to hq; replace k2 := k2.to hq; replace k3 := k3.to hq; replace B := Bl.then B hq; clear hq
      refine hK.out _ _ ?_ (fun hHeld => ?_)
      · (try dsimp only); exact ⟨k0.cell 0, k0.cell 1, k0.cell 2, k0.cell 3, k0.cell 4, k0.cell 5, k0.cell 6, k0.cell 7, kp.cell 0, kp.cell 1, kp.cell 2, kp.cell 3, kp.cell 4, kp.cell 5⟩
      clear hK K
      try simp only [Act.put, List.setIfInBounds_toArray, List.set_cons_zero, List.set_cons_succ]
      refine wpAnyH_ready (rs := [3]) (by kernel_rfl) (by simp) ?_
      refine AllReadyH.cons (arr_at rfl) (fun K hK => ?_) AllReadyH.nil
      have q0 := k2.cell 0; have q1 := k2.cell 1; have q2 := k2.cell 2; have q3 := k2.cell 3; have q4 := k2.cell 4; have q5 := k2.cell 5; have l2 := k2.lt; simp only [List.getElem?_toArray, List.getElem?_cons_zero, List.getElem?_cons_succ] at q0 q1 q2 q3 q4 q5; have fq0 := k2.frozen 0; have fq1 := k2.frozen 1; have fq2 := k2.frozen 2; have fq3 := k2.frozen 3; have fq4 := k2.frozen 4; have fq5 := k2.frozen 5; go_simp; clear q0 q1 q2 q3 q4 q5 fq0 fq1 fq2 fq3 fq4 fq5 l2; obtain ⟨W3, e, z, hf, hb, hr⟩ := put6 k2 (.int .i64 0) (.int .i64 p.fa) (.int .i64 p.fp) (.int .i64 (mn g.tb k).ad) (.int .i64 (mn g.tb k).ep) (.slice D' 0 0); rw [e]; clear e; replace k0 := hf k0 (by omega); replace k3 := hf k3 (by omega); replace kp := hf kp (by omega); replace B := hb B (by omega); replace hTab := hr.1 hTab hFr (by omega); replace hCon := hr.1 hCon hFc (by omega); replace k2 := z; clear z hf hb hr
      refine hK.out _ _ ?_ (fun hHeld => ?_)
      · (try dsimp only); exact ⟨k0.cell 0, k0.cell 1, k0.cell 2, k0.cell 3, k0.cell 4, k0.cell 5, k0.cell 6, k0.cell 7, kp.cell 0, kp.cell 1, kp.cell 2, kp.cell 3, kp.cell 4, kp.cell 5⟩
      clear hK K
      try simp only [Act.put, List.setIfInBounds_toArray, List.set_cons_zero, List.set_cons_succ]
      refine wpAnyH_ready (rs := [4]) (by kernel_rfl) (by simp) ?_
      refine AllReadyH.cons (arr_at rfl) (fun K hK => ?_) AllReadyH.nil
      have z0 := k3.cell 0; have z1 := k3.cell 1; have z2 := k3.cell 2; have z3 := k3.cell 3; have z4 := k3.cell 4; have z5 := k3.cell 5; have z6 := k3.cell 6; have z7 := k3.cell 7; have l3 := k3.lt; simp only [List.getElem?_toArray, List.getElem?_cons_zero, List.getElem?_cons_succ] at z0 z1 z2 z3 z4 z5 z6 z7; have fz0 := k3.frozen 0; have fz1 := k3.frozen 1; have fz2 := k3.frozen 2; have fz3 := k3.frozen 3; have fz4 := k3.frozen 4; have fz5 := k3.frozen 5; have fz6 := k3.frozen 6; have fz7 := k3.frozen 7; go_simp; clear z0 z1 z2 z3 z4 z5 z6 z7 fz0 fz1 fz2 fz3 fz4 fz5 fz6 fz7 l3; obtain ⟨W4, e, z, hf, hb, hr⟩ := put8 k3 (.int .i64 g.ba) (.int .i64 g.bi) (.int .i64 g.ou) (.slice T n n) (.slice T2 m m) (.int .i64 g.fi) (.int .i64 g.ho) (.int .i64 g.no); rw [e]; clear e; replace k0 := hf k0 (by omega); replace k2 := hf k2 (by omega); replace kp := hf kp (by omega); replace B := hb B (by omega); replace hTab := hr.1 hTab hFr (by omega); replace hCon := hr.1 hCon hFc (by omega); replace k3 := z; clear z hf hb hr
      refine hK.out _ _ ?_ (fun hHeld => ?_)
      · (try dsimp only); exact ⟨k0.cell 0, k0.cell 1, k0.cell 2, k0.cell 3, k0.cell 4, k0.cell 5, k0.cell 6, k0.cell 7, kp.cell 0, kp.cell 1, kp.cell 2, kp.cell 3, kp.cell 4, kp.cell 5⟩
      clear hK K
      try simp only [Act.put, List.setIfInBounds_toArray, List.set_cons_zero, List.set_cons_succ]
      refine wpAnyH_take (i := 5) (v := ?_) (arr_at rfl) (by kernel_rfl) (by kernel_rfl) (by kernel_rfl) (fun _ _ _ h => h) ?_ (by assumption) ?_
      rotate_left
      · first | (refine Or.inr ⟨by rfl, ?_⟩; with_reducible rfl) | (refine Or.inl ⟨by rfl, ?_⟩; intro w hSw; (try dsimp only at hSw); go_simp; first | done | with_reducible rfl)
      try simp only [Act.put, List.setIfInBounds_toArray, List.set_cons_zero, List.set_cons_succ]
      refine wpAnyH_done (by kernel_rfl) ?_ _
      go_wp2
      have q0 := k2.cell 0; have q1 := k2.cell 1; have q2 := k2.cell 2; have q3 := k2.cell 3; have q4 := k2.cell 4; have q5 := k2.cell 5; have l2 := k2.lt; simp only [List.getElem?_toArray, List.getElem?_cons_zero, List.getElem?_cons_succ] at q0 q1 q2 q3 q4 q5
      have z0 := k3.cell 0; have z1 := k3.cell 1; have z2 := k3.cell 2; have z3 := k3.cell 3; have z4 := k3.cell 4; have z5 := k3.cell 5; have z6 := k3.cell 6; have z7 := k3.cell 7; have l3 := k3.lt; simp only [List.getElem?_toArray, List.getElem?_cons_zero, List.getElem?_cons_succ] at z0 z1 z2 z3 z4 z5 z6 z7
      refine bodyPost_ret (v := .tuple #[.agg #[.int .i64 0, .int .i64 p.fa, .int .i64 p.fp, .int .i64 (mn g.tb k).ad, .int .i64 (mn g.tb k).ep, .slice D' 0 0], .agg #[.int .i64 g.ba, .int .i64 g.bi, .int .i64 g.ou, .slice T n n, .slice T2 m m, .int .i64 g.fi, .int .i64 g.ho, .int .i64 g.no], .bool true]) (by simp [results, Tryz.results65, go_sem, q0, q1, q2, q3, q4, q5, z0, z1, z2, z3, z4, z5, z6, z7]) rfl ?_
      exact ⟨B, { p with ta := (mn g.tb k).ad, tp := (mn g.tb k).ep }, g, D', 0, T, n, n, T2, m, m, true, rfl, HZ.out, HN.out, Nat.le_refl _, hFr.low (by omega), hTab, HM.out, Nat.le_refl _, hFc.low (by omega), hCon⟩
set_option maxHeartbeats 3200000 in
theorem c_iSendOut (g : Gt) (p : Pk) (A : Option Addr) (n c : Nat) (C : Option Addr) (m d : Nat) (D : Option Addr) (dc : Nat) (w : World) (hv : vGate g = true) (hp : vPk p = true) (hfr : inN g.ba g.bi p.fa = true) (hti : inN g.ba g.bi p.ta = false) (hto : p.ta ≠ g.ou) (hn : g.tb.length = n) (hc : n ≤ c) (h : TM w A g.tb) (hm : g.cs.length = m) (hd : m ≤ d) (h' : TK w C g.cs) :
    Calls Tryz.prog 64 #[.agg #[.int .i64 g.ba, .int .i64 g.bi, .int .i64 g.ou, .slice A n c, .slice C m d, .int .i64 g.fi, .int .i64 g.ho, .int .i64 g.no], .agg #[.int .i64 0, .int .i64 p.fa, .int .i64 p.fp, .int .i64 p.ta, .int .i64 p.tp, .slice D 0 dc]] w (FwdR (sendG g p) w) := by

  have ht1 : (p.ta == g.ou) = false := beq_eq_false_iff_ne.2 hto
  have HF := Lib.hid hfr
  have HI := Lib.hid hti
  clear hto hfr hti
  have HN := Lib.hid hn
  have HM := Lib.hid hm
  have HA : Hid (∀ W, Below w.heap.size w W → TM W A g.tb) := fun W b => h.to b
  have HC : Hid (∀ W, Below w.heap.size w W → TK W C g.cs) := fun W b => h'.to b
  have HV := Lib.hid hv
  have HP := Lib.hid hp
  have HG := Lib.hid (gate_nums hv)
  have hn8 : n ≤ 8 := hn ▸ tab_len (gate_tab hv)
  have hm10 : m ≤ 10 := hm ▸ con_len (gate_con hv)
  clear hn hm h h' hv hp
  have k0 := (((Blk.new w 44 #[.int .i64 g.ba, .int .i64 g.bi, .int .i64 g.ou, .slice A n c, .slice C m d, .int .i64 g.fi, .int .i64 g.ho, .int .i64 g.no]).alloc (.cells #[.int .i64 0, .int .i64 p.fa, .int .i64 p.fp, .int .i64 p.ta, .int .i64 p.tp, .slice D 0 dc] 74)).alloc (.cells #[.int .i64 0, .int .i64 0, .int .i64 0, .int .i64 0, .int .i64 0, .slice none 0 0] 74)).alloc (.cells #[.int .i64 0, .int .i64 0, .int .i64 0, .slice none 0 0, .slice none 0 0, .int .i64 0, .int .i64 0, .int .i64 0] 44)
  have k1 := ((Blk.new (w.alloc (.cells #[.int .i64 g.ba, .int .i64 g.bi, .int .i64 g.ou, .slice A n c, .slice C m d, .int .i64 g.fi, .int .i64 g.ho, .int .i64 g.no] 44)) 74 #[.int .i64 0, .int .i64 p.fa, .int .i64 p.fp, .int .i64 p.ta, .int .i64 p.tp, .slice D 0 dc]).alloc (.cells #[.int .i64 0, .int .i64 0, .int .i64 0, .int .i64 0, .int .i64 0, .slice none 0 0] 74)).alloc (.cells #[.int .i64 0, .int .i64 0, .int .i64 0, .slice none 0 0, .slice none 0 0, .int .i64 0, .int .i64 0, .int .i64 0] 44)
  have k2 := (Blk.new ((w.alloc (.cells #[.int .i64 g.ba, .int .i64 g.bi, .int .i64 g.ou, .slice A n c, .slice C m d, .int .i64 g.fi, .int .i64 g.ho, .int .i64 g.no] 44)).alloc (.cells #[.int .i64 0, .int .i64 p.fa, .int .i64 p.fp, .int .i64 p.ta, .int .i64 p.tp, .slice D 0 dc] 74)) 74 #[.int .i64 0, .int .i64 0, .int .i64 0, .int .i64 0, .int .i64 0, .slice none 0 0]).alloc (.cells #[.int .i64 0, .int .i64 0, .int .i64 0, .slice none 0 0, .slice none 0 0, .int .i64 0, .int .i64 0, .int .i64 0] 44)
  have k3 := Blk.new (((w.alloc (.cells #[.int .i64 g.ba, .int .i64 g.bi, .int .i64 g.ou, .slice A n c, .slice C m d, .int .i64 g.fi, .int .i64 g.ho, .int .i64 g.no] 44)).alloc (.cells #[.int .i64 0, .int .i64 p.fa, .int .i64 p.fp, .int .i64 p.ta, .int .i64 p.tp, .slice D 0 dc] 74)).alloc (.cells #[.int .i64 0, .int .i64 0, .int .i64 0, .int .i64 0, .int .i64 0, .slice none 0 0] 74)) 44 #[.int .i64 0, .int .i64 0, .int .i64 0, .slice none 0 0, .slice none 0 0, .int .i64 0, .int .i64 0, .int .i64 0]
  have B : Below w.heap.size w ((((w.alloc (.cells #[.int .i64 g.ba, .int .i64 g.bi, .int .i64 g.ou, .slice A n c, .slice C m d, .int .i64 g.fi, .int .i64 g.ho, .int .i64 g.no] 44)).alloc (.cells #[.int .i64 0, .int .i64 p.fa, .int .i64 p.fp, .int .i64 p.ta, .int .i64 p.tp, .slice D 0 dc] 74)).alloc (.cells #[.int .i64 0, .int .i64 0, .int .i64 0, .int .i64 0, .int .i64 0, .slice none 0 0] 74)).alloc (.cells #[.int .i64 0, .int .i64 0, .int .i64 0, .slice none 0 0, .slice none 0 0, .int .i64 0, .int .i64 0, .int .i64 0] 44)) := ((((Below.refl _ _).alloc (Nat.le_refl _) _).alloc (by simp) _).alloc (by simp; omega) _).alloc (by simp; omega) _
  simp only [World.size_alloc] at k1 k2 k3
  have y0 := k0.cell 0; have y1 := k0.cell 1; have y2 := k0.cell 2; have y3 := k0.cell 3; have y4 := k0.cell 4; have y5 := k0.cell 5; have y6 := k0.cell 6; have y7 := k0.cell 7; have l0 := k0.lt; simp only [List.getElem?_toArray, List.getElem?_cons_zero, List.getElem?_cons_succ] at y0 y1 y2 y3 y4 y5 y6 y7
  have p0 := k1.cell 0; have p1 := k1.cell 1; have p2 := k1.cell 2; have p3 := k1.cell 3; have p4 := k1.cell 4; have p5 := k1.cell 5; have l1 := k1.lt; simp only [List.getElem?_toArray, List.getElem?_cons_zero, List.getElem?_cons_succ] at p0 p1 p2 p3 p4 p5
  go_enter Tryz.func64, Tryz.ntmps64
  go_wp2_with fail
  refine (c_from g p A n c C m d D dc _ HV.out HP.out HN.out hc (HA.out _ B) HM.out hd (HC.out _ B)).mono ?_
  rw [HF.out]
  rintro e w1 ⟨rfl, hq⟩
  clear y0 y1 y2 y3 y4 y5 y6 y7 l0; clear p0 p1 p2 p3 p4 p5 l1; replace k0 := k0.to hq; replace k1 := k1.to hq; replace k2 := k2.to hq; replace k3 := k3.to hq; replace B := Bl.then B hq; clear hq; have y0 := k0.cell 0; have y1 := k0.cell 1; have y2 := k0.cell 2; have y3 := k0.cell 3; have y4 := k0.cell 4; have y5 := k0.cell 5; have y6 := k0.cell 6; have y7 := k0.cell 7; have l0 := k0.lt; simp only [List.getElem?_toArray, List.getElem?_cons_zero, List.getElem?_cons_succ] at y0 y1 y2 y3 y4 y5 y6 y7; have p0 := k1.cell 0; have p1 := k1.cell 1; have p2 := k1.cell 2; have p3 := k1.cell 3; have p4 := k1.cell 4; have p5 := k1.cell 5; have l1 := k1.lt; simp only [List.getElem?_toArray, List.getElem?_cons_zero, List.getElem?_cons_succ] at p0 p1 p2 p3 p4 p5
  go_wp2_with fail
  refine (c_has _ _ _ _ HG.out.1).mono ?_
  rw [HI.out]
  rintro e w3 ⟨rfl, hq⟩
  clear y0 y1 y2 y3 y4 y5 y6 y7 l0; clear p0 p1 p2 p3 p4 p5 l1; replace k0 := k0.to hq; replace k1 := k1.to hq; replace k2 := k2.to hq; replace k3 := k3.to hq; replace B := Bl.then B hq; clear hq; have y0 := k0.cell 0; have y1 := k0.cell 1; have y2 := k0.cell 2; have y3 := k0.cell 3; have y4 := k0.cell 4; have y5 := k0.cell 5; have y6 := k0.cell 6; have y7 := k0.cell 7; have l0 := k0.lt; simp only [List.getElem?_toArray, List.getElem?_cons_zero, List.getElem?_cons_succ] at y0 y1 y2 y3 y4 y5 y6 y7; have p0 := k1.cell 0; have p1 := k1.cell 1; have p2 := k1.cell 2; have p3 := k1.cell 3; have p4 := k1.cell 4; have p5 := k1.cell 5; have l1 := k1.lt; simp only [List.getElem?_toArray, List.getElem?_cons_zero, List.getElem?_cons_succ] at p0 p1 p2 p3 p4 p5
  go_wp2_with fail
  refine (c_iSend g p A n c C m d D dc _ HV.out HP.out HN.out hc (HA.out _ B) HM.out hd (HC.out _ B)).mono ?_
  have hl3 := k3.lt
  rintro e w4 ⟨hq, qq, gg, D', dc', A', n', c', C', m', d', ok, rfl, HO, hn', hc', hFr, hTab, hm', hd', hFc, hCon⟩
  replace hFr := hFr.low (c := w.heap.size + 4) (by omega)
  replace hFc := hFc.low (c := w.heap.size + 4) (by omega)
  clear y0 y1 y2 y3 y4 y5 y6 y7 l0
  clear p0 p1 p2 p3 p4 p5 l1
  replace k0 := k0.to hq; replace k1 := k1.to hq; replace k2 := k2.to hq; replace k3 := k3.to hq; replace B := Bl.then B hq; clear hq
  have q0 := k2.cell 0; have q1 := k2.cell 1; have q2 := k2.cell 2; have q3 := k2.cell 3; have q4 := k2.cell 4; have q5 := k2.cell 5; have l2 := k2.lt; simp only [List.getElem?_toArray, List.getElem?_cons_zero, List.getElem?_cons_succ] at q0 q1 q2 q3 q4 q5
  have z0 := k3.cell 0; have z1 := k3.cell 1; have z2 := k3.cell 2; have z3 := k3.cell 3; have z4 := k3.cell 4; have z5 := k3.cell 5; have z6 := k3.cell 6; have z7 := k3.cell 7; have l3 := k3.lt; simp only [List.getElem?_toArray, List.getElem?_cons_zero, List.getElem?_cons_succ] at z0 z1 z2 z3 z4 z5 z6 z7
  have fq0 := k2.frozen 0; have fq1 := k2.frozen 1; have fq2 := k2.frozen 2; have fq3 := k2.frozen 3; have fq4 := k2.frozen 4; have fq5 := k2.frozen 5
  have fz0 := k3.frozen 0; have fz1 := k3.frozen 1; have fz2 := k3.frozen 2; have fz3 := k3.frozen 3; have fz4 := k3.frozen 4; have fz5 := k3.frozen 5; have fz6 := k3.frozen 6; have fz7 := k3.frozen 7
  go_wp2
  clear q0 q1 q2 q3 q4 q5 l2 z0 z1 z2 z3 z4 z5 z6 z7 l3 fq0 fq1 fq2 fq3 fq4 fq5 fz0 fz1 fz2 fz3 fz4 fz5 fz6 fz7
  obtain ⟨W5, e5, z5, hf5, hb5, hr5⟩ := put6 k2 (.int .i64 0) (.int .i64 qq.fa) (.int .i64 qq.fp) (.int .i64 qq.ta) (.int .i64 qq.tp) (.slice D' 0 dc')
  rw [e5]
  replace k3 := hf5 k3 (by omega)
  replace B := hb5 B (by omega)
  replace hTab := hr5.1 hTab hFr (by omega)
  replace hCon := hr5.1 hCon hFc (by omega)
  obtain ⟨W6, e6, z6, hf6, hb6, hr6⟩ := put8 k3 (.int .i64 gg.ba) (.int .i64 gg.bi) (.int .i64 gg.ou) (.slice A' n' c') (.slice C' m' d') (.int .i64 gg.fi) (.int .i64 gg.ho) (.int .i64 gg.no)
  rw [e6]
  replace k2 := hf6 z5 (by omega)
  replace B := hb6 B (by omega)
  replace hTab := hr6.1 hTab hFr (by omega)
  replace hCon := hr6.1 hCon hFc (by omega)
  replace k3 := z6
  clear e5 e6 hf5 hb5 hr5 hf6 hb6 hr6 z5 z6
  have q0 := k2.cell 0; have q1 := k2.cell 1; have q2 := k2.cell 2; have q3 := k2.cell 3; have q4 := k2.cell 4; have q5 := k2.cell 5; have l2 := k2.lt; simp only [List.getElem?_toArray, List.getElem?_cons_zero, List.getElem?_cons_succ] at q0 q1 q2 q3 q4 q5
  have z0 := k3.cell 0; have z1 := k3.cell 1; have z2 := k3.cell 2; have z3 := k3.cell 3; have z4 := k3.cell 4; have z5 := k3.cell 5; have z6 := k3.cell 6; have z7 := k3.cell 7; have l3 := k3.lt; simp only [List.getElem?_toArray, List.getElem?_cons_zero, List.getElem?_cons_succ] at z0 z1 z2 z3 z4 z5 z6 z7
  refine bodyPost_ret (v := .tuple #[.agg #[.int .i64 0, .int .i64 qq.fa, .int .i64 qq.fp, .int .i64 qq.ta, .int .i64 qq.tp, .slice D' 0 dc'], .agg #[.int .i64 gg.ba, .int .i64 gg.bi, .int .i64 gg.ou, .slice A' n' c', .slice C' m' d', .int .i64 gg.fi, .int .i64 gg.ho, .int .i64 gg.no], .bool ok]) (by simp [results, Tryz.results64, go_sem, q0, q1, q2, q3, q4, q5, z0, z1, z2, z3, z4, z5, z6, z7]) rfl ?_
  exact ⟨B, qq, gg, D', dc', A', n', c', C', m', d', ok, rfl, HO, hn', hc', hFr.low (by omega), hTab, hm', hd', hFc.low (by omega), hCon⟩
set_option maxHeartbeats 3200000 in
theorem c_iPass (g : Gt) (p : Pk) (A : Option Addr) (n c : Nat) (C : Option Addr) (m d : Nat) (D : Option Addr) (dc : Nat) (w : World) (hv : vGate g = true) (hp : vPk p = true) (hfr : inN g.ba g.bi p.fa = true) (hto : p.ta = g.ou) (hn : g.tb.length = n) (hc : n ≤ c) (h : TM w A g.tb) (hm : g.cs.length = m) (hd : m ≤ d) (h' : TK w C g.cs) :
    Calls Tryz.prog 66 #[.agg #[.int .i64 g.ba, .int .i64 g.bi, .int .i64 g.ou, .slice A n c, .slice C m d, .int .i64 g.fi, .int .i64 g.ho, .int .i64 g.no], .agg #[.int .i64 0, .int .i64 p.fa, .int .i64 p.fp, .int .i64 p.ta, .int .i64 p.tp, .slice D 0 dc]] w (FwdR (passG g p) w) := by

  have ht1 : (p.ta != g.ou) = false := by rw [hto]; simp
  have HF := Lib.hid hfr
  have HT := Lib.hid hto
  clear hto hfr
  have HN := Lib.hid hn
  have HM := Lib.hid hm
  have HA : Hid (∀ W, Below w.heap.size w W → TM W A g.tb) := fun W b => h.to b
  have HC : Hid (∀ W, Below w.heap.size w W → TK W C g.cs) := fun W b => h'.to b
  have HV := Lib.hid hv
  have HP := Lib.hid hp
  have HG := Lib.hid (gate_nums hv)
  have hn8 : n ≤ 8 := hn ▸ tab_len (gate_tab hv)
  have hm10 : m ≤ 10 := hm ▸ con_len (gate_con hv)
  clear hn hm h h' hv hp
  have k0 := (((Blk.new w 44 #[.int .i64 g.ba, .int .i64 g.bi, .int .i64 g.ou, .slice A n c, .slice C m d, .int .i64 g.fi, .int .i64 g.ho, .int .i64 g.no]).alloc (.cells #[.int .i64 0, .int .i64 p.fa, .int .i64 p.fp, .int .i64 p.ta, .int .i64 p.tp, .slice D 0 dc] 74)).alloc (.cells #[.int .i64 0, .int .i64 0, .int .i64 0, .int .i64 0, .int .i64 0, .slice none 0 0] 74)).alloc (.cells #[.int .i64 0, .int .i64 0, .int .i64 0, .slice none 0 0, .slice none 0 0, .int .i64 0, .int .i64 0, .int .i64 0] 44)
  have k1 := ((Blk.new (w.alloc (.cells #[.int .i64 g.ba, .int .i64 g.bi, .int .i64 g.ou, .slice A n c, .slice C m d, .int .i64 g.fi, .int .i64 g.ho, .int .i64 g.no] 44)) 74 #[.int .i64 0, .int .i64 p.fa, .int .i64 p.fp, .int .i64 p.ta, .int .i64 p.tp, .slice D 0 dc]).alloc (.cells #[.int .i64 0, .int .i64 0, .int .i64 0, .int .i64 0, .int .i64 0, .slice none 0 0] 74)).alloc (.cells #[.int .i64 0, .int .i64 0, .int .i64 0, .slice none 0 0, .slice none 0 0, .int .i64 0, .int .i64 0, .int .i64 0] 44)
  have k2 := (Blk.new ((w.alloc (.cells #[.int .i64 g.ba, .int .i64 g.bi, .int .i64 g.ou, .slice A n c, .slice C m d, .int .i64 g.fi, .int .i64 g.ho, .int .i64 g.no] 44)).alloc (.cells #[.int .i64 0, .int .i64 p.fa, .int .i64 p.fp, .int .i64 p.ta, .int .i64 p.tp, .slice D 0 dc] 74)) 74 #[.int .i64 0, .int .i64 0, .int .i64 0, .int .i64 0, .int .i64 0, .slice none 0 0]).alloc (.cells #[.int .i64 0, .int .i64 0, .int .i64 0, .slice none 0 0, .slice none 0 0, .int .i64 0, .int .i64 0, .int .i64 0] 44)
  have k3 := Blk.new (((w.alloc (.cells #[.int .i64 g.ba, .int .i64 g.bi, .int .i64 g.ou, .slice A n c, .slice C m d, .int .i64 g.fi, .int .i64 g.ho, .int .i64 g.no] 44)).alloc (.cells #[.int .i64 0, .int .i64 p.fa, .int .i64 p.fp, .int .i64 p.ta, .int .i64 p.tp, .slice D 0 dc] 74)).alloc (.cells #[.int .i64 0, .int .i64 0, .int .i64 0, .int .i64 0, .int .i64 0, .slice none 0 0] 74)) 44 #[.int .i64 0, .int .i64 0, .int .i64 0, .slice none 0 0, .slice none 0 0, .int .i64 0, .int .i64 0, .int .i64 0]
  have B : Below w.heap.size w ((((w.alloc (.cells #[.int .i64 g.ba, .int .i64 g.bi, .int .i64 g.ou, .slice A n c, .slice C m d, .int .i64 g.fi, .int .i64 g.ho, .int .i64 g.no] 44)).alloc (.cells #[.int .i64 0, .int .i64 p.fa, .int .i64 p.fp, .int .i64 p.ta, .int .i64 p.tp, .slice D 0 dc] 74)).alloc (.cells #[.int .i64 0, .int .i64 0, .int .i64 0, .int .i64 0, .int .i64 0, .slice none 0 0] 74)).alloc (.cells #[.int .i64 0, .int .i64 0, .int .i64 0, .slice none 0 0, .slice none 0 0, .int .i64 0, .int .i64 0, .int .i64 0] 44)) := ((((Below.refl _ _).alloc (Nat.le_refl _) _).alloc (by simp) _).alloc (by simp; omega) _).alloc (by simp; omega) _
  simp only [World.size_alloc] at k1 k2 k3
  have y0 := k0.cell 0; have y1 := k0.cell 1; have y2 := k0.cell 2; have y3 := k0.cell 3; have y4 := k0.cell 4; have y5 := k0.cell 5; have y6 := k0.cell 6; have y7 := k0.cell 7; have l0 := k0.lt; simp only [List.getElem?_toArray, List.getElem?_cons_zero, List.getElem?_cons_succ] at y0 y1 y2 y3 y4 y5 y6 y7
  have p0 := k1.cell 0; have p1 := k1.cell 1; have p2 := k1.cell 2; have p3 := k1.cell 3; have p4 := k1.cell 4; have p5 := k1.cell 5; have l1 := k1.lt; simp only [List.getElem?_toArray, List.getElem?_cons_zero, List.getElem?_cons_succ] at p0 p1 p2 p3 p4 p5
  go_enter Tryz.func66, Tryz.ntmps66
  go_wp2_with fail
  refine (c_from g p A n c C m d D dc _ HV.out HP.out HN.out hc (HA.out _ B) HM.out hd (HC.out _ B)).mono ?_
  rw [HF.out]
  rintro e w1 ⟨rfl, hq⟩
  clear y0 y1 y2 y3 y4 y5 y6 y7 l0; clear p0 p1 p2 p3 p4 p5 l1; replace k0 := k0.to hq; replace k1 := k1.to hq; replace k2 := k2.to hq; replace k3 := k3.to hq; replace B := Bl.then B hq; clear hq; have y0 := k0.cell 0; have y1 := k0.cell 1; have y2 := k0.cell 2; have y3 := k0.cell 3; have y4 := k0.cell 4; have y5 := k0.cell 5; have y6 := k0.cell 6; have y7 := k0.cell 7; have l0 := k0.lt; simp only [List.getElem?_toArray, List.getElem?_cons_zero, List.getElem?_cons_succ] at y0 y1 y2 y3 y4 y5 y6 y7; have p0 := k1.cell 0; have p1 := k1.cell 1; have p2 := k1.cell 2; have p3 := k1.cell 3; have p4 := k1.cell 4; have p5 := k1.cell 5; have l1 := k1.lt; simp only [List.getElem?_toArray, List.getElem?_cons_zero, List.getElem?_cons_succ] at p0 p1 p2 p3 p4 p5
  go_wp2_with fail
  refine (c_iSend g p A n c C m d D dc _ HV.out HP.out HN.out hc (HA.out _ B) HM.out hd (HC.out _ B)).mono ?_
  have hl3 := k3.lt
  rintro e w4 ⟨hq, qq, gg, D', dc', A', n', c', C', m', d', ok, rfl, HO, hn', hc', hFr, hTab, hm', hd', hFc, hCon⟩
  replace hFr := hFr.low (c := w.heap.size + 4) (by omega)
  replace hFc := hFc.low (c := w.heap.size + 4) (by omega)
  clear y0 y1 y2 y3 y4 y5 y6 y7 l0
  clear p0 p1 p2 p3 p4 p5 l1
  replace k0 := k0.to hq; replace k1 := k1.to hq; replace k2 := k2.to hq; replace k3 := k3.to hq; replace B := Bl.then B hq; clear hq
  have hTN := Lib.hid (And.intro hn' (And.intro hc' (And.intro hm' hd')))
  clear hn' hc' hm' hd'
  go_upto_region 4 with fail
  have hl8 := k3.lt
  have k8 := (Blk.new w4 74 #[.int .i64 0, .int .i64 qq.fa, .int .i64 qq.fp, .int .i64 qq.ta, .int .i64 qq.tp, .slice D' 0 dc']).alloc (.cells #[.int .i64 gg.ba, .int .i64 gg.bi, .int .i64 gg.ou, .slice A' n' c', .slice C' m' d', .int .i64 gg.fi, .int .i64 gg.ho, .int .i64 gg.no] 44)
  have k9 := Blk.new (w4.alloc (.cells #[.int .i64 0, .int .i64 qq.fa, .int .i64 qq.fp, .int .i64 qq.ta, .int .i64 qq.tp, .slice D' 0 dc'] 74)) 44 #[.int .i64 gg.ba, .int .i64 gg.bi, .int .i64 gg.ou, .slice A' n' c', .slice C' m' d', .int .i64 gg.fi, .int .i64 gg.ho, .int .i64 gg.no]
  simp only [World.size_alloc] at k9
  have hq : Below w4.heap.size w4 ((w4.alloc (.cells #[.int .i64 0, .int .i64 qq.fa, .int .i64 qq.fp, .int .i64 qq.ta, .int .i64 qq.tp, .slice D' 0 dc'] 74)).alloc (.cells #[.int .i64 gg.ba, .int .i64 gg.bi, .int .i64 gg.ou, .slice A' n' c', .slice C' m' d', .int .i64 gg.fi, .int .i64 gg.ho, .int .i64 gg.no] 44)) := ((Below.refl _ _).alloc (Nat.le_refl _) _).alloc (by simp) _
  replace hTab := Rd.to hTab hq
  replace hCon := Rd.to hCon hq
  replace k0 := k0.to hq; replace k1 := k1.to hq; replace k2 := k2.to hq; replace k3 := k3.to hq; replace B := Bl.then B hq; clear hq
  generalize (w4.alloc (.cells #[.int .i64 0, .int .i64 qq.fa, .int .i64 qq.fp, .int .i64 qq.ta, .int .i64 qq.tp, .slice D' 0 dc'] 74)).alloc (.cells #[.int .i64 gg.ba, .int .i64 gg.bi, .int .i64 gg.ou, .slice A' n' c', .slice C' m' d', .int .i64 gg.fi, .int .i64 gg.ho, .int .i64 gg.no] 44) = w6 at *
  cases ok
  · have HZ : Hid (passG g p = none) := Lib.hid (by unfold passG; rw [HO]; rfl)
    clear HO hTab hCon hFr hFc k8 k9
    have q0 := k2.cell 0; have q1 := k2.cell 1; have q2 := k2.cell 2; have q3 := k2.cell 3; have q4 := k2.cell 4; have q5 := k2.cell 5; have l2 := k2.lt; simp only [List.getElem?_toArray, List.getElem?_cons_zero, List.getElem?_cons_succ] at q0 q1 q2 q3 q4 q5
    have z0 := k3.cell 0; have z1 := k3.cell 1; have z2 := k3.cell 2; have z3 := k3.cell 3; have z4 := k3.cell 4; have z5 := k3.cell 5; have z6 := k3.cell 6; have z7 := k3.cell 7; have l3 := k3.lt; simp only [List.getElem?_toArray, List.getElem?_cons_zero, List.getElem?_cons_succ] at z0 z1 z2 z3 z4 z5 z6 z7
    have fq0 := k2.frozen 0; have fq1 := k2.frozen 1; have fq2 := k2.frozen 2; have fq3 := k2.frozen 3; have fq4 := k2.frozen 4; have fq5 := k2.frozen 5
    have fz0 := k3.frozen 0; have fz1 := k3.frozen 1; have fz2 := k3.frozen 2; have fz3 := k3.frozen 3; have fz4 := k3.frozen 4; have fz5 := k3.frozen 5; have fz6 := k3.frozen 6; have fz7 := k3.frozen 7
    go_wp2
    clear q0 q1 q2 q3 q4 q5 l2 z0 z1 z2 z3 z4 z5 z6 z7 l3 fq0 fq1 fq2 fq3 fq4 fq5 fz0 fz1 fz2 fz3 fz4 fz5 fz6 fz7
    obtain ⟨W5, e5, z5, hf5, hb5, hr5⟩ := put6 k2 (.int .i64 0) (.int .i64 0) (.int .i64 0) (.int .i64 0) (.int .i64 0) (.slice none 0 0)
    rw [e5]
    replace k3 := hf5 k3 (by omega)
    replace B := hb5 B (by omega)
    obtain ⟨W6, e6, z6, hf6, hb6, hr6⟩ := put8 k3 (.int .i64 0) (.int .i64 0) (.int .i64 0) (.slice none 0 0) (.slice none 0 0) (.int .i64 0) (.int .i64 0) (.int .i64 0)
    rw [e6]
    replace k2 := hf6 z5 (by omega)
    replace B := hb6 B (by omega)
    replace k3 := z6
    clear e5 e6 hf5 hb5 hr5 hf6 hb6 hr6 z5 z6
    have q0 := k2.cell 0; have q1 := k2.cell 1; have q2 := k2.cell 2; have q3 := k2.cell 3; have q4 := k2.cell 4; have q5 := k2.cell 5; have l2 := k2.lt; simp only [List.getElem?_toArray, List.getElem?_cons_zero, List.getElem?_cons_succ] at q0 q1 q2 q3 q4 q5
    have z0 := k3.cell 0; have z1 := k3.cell 1; have z2 := k3.cell 2; have z3 := k3.cell 3; have z4 := k3.cell 4; have z5 := k3.cell 5; have z6 := k3.cell 6; have z7 := k3.cell 7; have l3 := k3.lt; simp only [List.getElem?_toArray, List.getElem?_cons_zero, List.getElem?_cons_succ] at z0 z1 z2 z3 z4 z5 z6 z7
    refine bodyPost_ret (v := .tuple #[.agg #[.int .i64 0, .int .i64 0, .int .i64 0, .int .i64 0, .int .i64 0, .slice none 0 0], .agg #[.int .i64 0, .int .i64 0, .int .i64 0, .slice none 0 0, .slice none 0 0, .int .i64 0, .int .i64 0, .int .i64 0], .bool false]) (by simp [results, Tryz.results66, go_sem, q0, q1, q2, q3, q4, q5, z0, z1, z2, z3, z4, z5, z6, z7]) rfl ?_
    exact ⟨B, pk0, gt0, none, 0, none, 0, 0, none, 0, 0, false, rfl, HZ.out, rfl, Nat.le_refl _, Fr.none _, TM.nil _ _, rfl, Nat.le_refl _, Fr.none _, TK.nil _ _⟩
  · have hs := send_valid HV.out HP.out HF.out HO
    have hvg := hs.1
    have hvp := hs.2.1
    have hto' : qq.ta = gg.ou := by rw [hs.2.2.1, HT.out, hs.2.2.2.2.2.2.2.1]
    have hfr' : inN gg.ba gg.bi qq.fa = false := by rw [hs.2.2.2.2.1, hs.2.2.2.2.2.1, hs.2.2.2.2.2.2.1]; exact HG.out.2.2.1
    have HZ : Hid (passG g p = recvG gg qq) := Lib.hid (by unfold passG; rw [HO]; rfl)
    have HS := Lib.hid (And.intro hvg (And.intro hvp (And.intro hto' hfr')))
    clear HO hs hvg hvp hto' hfr'
    have a0 := k8.cell 0
    have a1 := k8.cell 1
    have a2 := k8.cell 2
    have a3 := k8.cell 3
    have a4 := k8.cell 4
    have a5 := k8.cell 5
    have j0 := k9.cell 0
    have j1 := k9.cell 1
    have j2 := k9.cell 2
    have j3 := k9.cell 3
    have j4 := k9.cell 4
    have j5 := k9.cell 5
    have j6 := k9.cell 6
    have j7 := k9.cell 7
    have l8 := k8.lt
    have l9 := k9.lt
    simp only [List.getElem?_toArray, List.getElem?_cons_zero, List.getElem?_cons_succ] at a0 a1 a2 a3 a4 a5 j0 j1 j2 j3 j4 j5 j6 j7
    have hl3 := k3.lt
    have HTB := Lib.hid hTab
    have HCB := Lib.hid hCon
    clear hTab hCon hFr hFc
    go_wp2_with fail
    refine (c_iReceive gg qq A' n' c' C' m' d' D' dc' _ HS.out.1 HS.out.2.1 HS.out.2.2.1 HS.out.2.2.2 hTN.out.1 hTN.out.2.1 HTB.out hTN.out.2.2.1 hTN.out.2.2.2 HCB.out).mono ?_
    clear a0 a1 a2 a3 a4 a5 j0 j1 j2 j3 j4 j5 j6 j7 l8 l9 k8 k9
    rintro e w7 ⟨hq, qq, gg, D', dc', A', n', c', C', m', d', ok, rfl, HO, hn', hc', hFr, hTab, hm', hd', hFc, hCon⟩
    replace hFr := hFr.low (c := w.heap.size + 4) (by omega)
    replace hFc := hFc.low (c := w.heap.size + 4) (by omega)
    replace k0 := k0.to hq; replace k1 := k1.to hq; replace k2 := k2.to hq; replace k3 := k3.to hq; replace B := Bl.then B hq; clear hq
    have q0 := k2.cell 0; have q1 := k2.cell 1; have q2 := k2.cell 2; have q3 := k2.cell 3; have q4 := k2.cell 4; have q5 := k2.cell 5; have l2 := k2.lt; simp only [List.getElem?_toArray, List.getElem?_cons_zero, List.getElem?_cons_succ] at q0 q1 q2 q3 q4 q5
    have z0 := k3.cell 0; have z1 := k3.cell 1; have z2 := k3.cell 2; have z3 := k3.cell 3; have z4 := k3.cell 4; have z5 := k3.cell 5; have z6 := k3.cell 6; have z7 := k3.cell 7; have l3 := k3.lt; simp only [List.getElem?_toArray, List.getElem?_cons_zero, List.getElem?_cons_succ] at z0 z1 z2 z3 z4 z5 z6 z7
    have fq0 := k2.frozen 0; have fq1 := k2.frozen 1; have fq2 := k2.frozen 2; have fq3 := k2.frozen 3; have fq4 := k2.frozen 4; have fq5 := k2.frozen 5
    have fz0 := k3.frozen 0; have fz1 := k3.frozen 1; have fz2 := k3.frozen 2; have fz3 := k3.frozen 3; have fz4 := k3.frozen 4; have fz5 := k3.frozen 5; have fz6 := k3.frozen 6; have fz7 := k3.frozen 7
    go_wp2
    clear q0 q1 q2 q3 q4 q5 l2 z0 z1 z2 z3 z4 z5 z6 z7 l3 fq0 fq1 fq2 fq3 fq4 fq5 fz0 fz1 fz2 fz3 fz4 fz5 fz6 fz7
    obtain ⟨W5, e5, z5, hf5, hb5, hr5⟩ := put6 k2 (.int .i64 0) (.int .i64 qq.fa) (.int .i64 qq.fp) (.int .i64 qq.ta) (.int .i64 qq.tp) (.slice D' 0 dc')
    rw [e5]
    replace k3 := hf5 k3 (by omega)
    replace B := hb5 B (by omega)
    replace hTab := hr5.1 hTab hFr (by omega)
    replace hCon := hr5.1 hCon hFc (by omega)
    obtain ⟨W6, e6, z6, hf6, hb6, hr6⟩ := put8 k3 (.int .i64 gg.ba) (.int .i64 gg.bi) (.int .i64 gg.ou) (.slice A' n' c') (.slice C' m' d') (.int .i64 gg.fi) (.int .i64 gg.ho) (.int .i64 gg.no)
    rw [e6]
    replace k2 := hf6 z5 (by omega)
    replace B := hb6 B (by omega)
    replace hTab := hr6.1 hTab hFr (by omega)
    replace hCon := hr6.1 hCon hFc (by omega)
    replace k3 := z6
    clear e5 e6 hf5 hb5 hr5 hf6 hb6 hr6 z5 z6
    have q0 := k2.cell 0; have q1 := k2.cell 1; have q2 := k2.cell 2; have q3 := k2.cell 3; have q4 := k2.cell 4; have q5 := k2.cell 5; have l2 := k2.lt; simp only [List.getElem?_toArray, List.getElem?_cons_zero, List.getElem?_cons_succ] at q0 q1 q2 q3 q4 q5
    have z0 := k3.cell 0; have z1 := k3.cell 1; have z2 := k3.cell 2; have z3 := k3.cell 3; have z4 := k3.cell 4; have z5 := k3.cell 5; have z6 := k3.cell 6; have z7 := k3.cell 7; have l3 := k3.lt; simp only [List.getElem?_toArray, List.getElem?_cons_zero, List.getElem?_cons_succ] at z0 z1 z2 z3 z4 z5 z6 z7
    refine bodyPost_ret (v := .tuple #[.agg #[.int .i64 0, .int .i64 qq.fa, .int .i64 qq.fp, .int .i64 qq.ta, .int .i64 qq.tp, .slice D' 0 dc'], .agg #[.int .i64 gg.ba, .int .i64 gg.bi, .int .i64 gg.ou, .slice A' n' c', .slice C' m' d', .int .i64 gg.fi, .int .i64 gg.ho, .int .i64 gg.no], .bool ok]) (by simp [results, Tryz.results66, go_sem, q0, q1, q2, q3, q4, q5, z0, z1, z2, z3, z4, z5, z6, z7]) rfl ?_
    exact ⟨B, qq, gg, D', dc', A', n', c', C', m', d', ok, rfl, HZ.out.trans HO, hn', hc', hFr.low (by omega), hTab, hm', hd', hFc.low (by omega), hCon⟩
set_option maxHeartbeats 3200000 in
theorem c_iForward (g : Gt) (p : Pk) (A : Option Addr) (n c : Nat) (C : Option Addr) (m d : Nat) (D : Option Addr) (dc : Nat) (w : World) (hv : vGate g = true) (hp : vPk p = true) (hn : g.tb.length = n) (hc : n ≤ c) (h : TM w A g.tb) (hm : g.cs.length = m) (hd : m ≤ d) (h' : TK w C g.cs) :
    Calls Tryz.prog 41 #[.agg #[.int .i64 g.ba, .int .i64 g.bi, .int .i64 g.ou, .slice A n c, .slice C m d, .int .i64 g.fi, .int .i64 g.ho, .int .i64 g.no], .agg #[.int .i64 0, .int .i64 p.fa, .int .i64 p.fp, .int .i64 p.ta, .int .i64 p.tp, .slice D 0 dc]] w (FwdR (fwdG g p) w) := by

  have HW : Hid (wayG g p = wayV g p) := wayV_eq hv hp
  have hFW : fwdG g p = if wayG g p = 1 then sendG g p else if wayG g p = 2 then recvG g p else if wayG g p = 3 then passG g p else none := rfl
  have HFW := Lib.hid hFW
  clear hFW
  have HN := Lib.hid hn
  have HM := Lib.hid hm
  have HA : Hid (∀ W, Below w.heap.size w W → TM W A g.tb) := fun W b => h.to b
  have HC : Hid (∀ W, Below w.heap.size w W → TK W C g.cs) := fun W b => h'.to b
  have HV := Lib.hid hv
  have HP := Lib.hid hp
  have HG := Lib.hid (gate_nums hv)
  have hn8 : n ≤ 8 := hn ▸ tab_len (gate_tab hv)
  have hm10 : m ≤ 10 := hm ▸ con_len (gate_con hv)
  clear hn hm h h' hv hp
  have k0 := (((Blk.new w 44 #[.int .i64 g.ba, .int .i64 g.bi, .int .i64 g.ou, .slice A n c, .slice C m d, .int .i64 g.fi, .int .i64 g.ho, .int .i64 g.no]).alloc (.cells #[.int .i64 0, .int .i64 p.fa, .int .i64 p.fp, .int .i64 p.ta, .int .i64 p.tp, .slice D 0 dc] 74)).alloc (.cells #[.int .i64 0, .int .i64 0, .int .i64 0, .int .i64 0, .int .i64 0, .slice none 0 0] 74)).alloc (.cells #[.int .i64 0, .int .i64 0, .int .i64 0, .slice none 0 0, .slice none 0 0, .int .i64 0, .int .i64 0, .int .i64 0] 44)
  have k1 := ((Blk.new (w.alloc (.cells #[.int .i64 g.ba, .int .i64 g.bi, .int .i64 g.ou, .slice A n c, .slice C m d, .int .i64 g.fi, .int .i64 g.ho, .int .i64 g.no] 44)) 74 #[.int .i64 0, .int .i64 p.fa, .int .i64 p.fp, .int .i64 p.ta, .int .i64 p.tp, .slice D 0 dc]).alloc (.cells #[.int .i64 0, .int .i64 0, .int .i64 0, .int .i64 0, .int .i64 0, .slice none 0 0] 74)).alloc (.cells #[.int .i64 0, .int .i64 0, .int .i64 0, .slice none 0 0, .slice none 0 0, .int .i64 0, .int .i64 0, .int .i64 0] 44)
  have k2 := (Blk.new ((w.alloc (.cells #[.int .i64 g.ba, .int .i64 g.bi, .int .i64 g.ou, .slice A n c, .slice C m d, .int .i64 g.fi, .int .i64 g.ho, .int .i64 g.no] 44)).alloc (.cells #[.int .i64 0, .int .i64 p.fa, .int .i64 p.fp, .int .i64 p.ta, .int .i64 p.tp, .slice D 0 dc] 74)) 74 #[.int .i64 0, .int .i64 0, .int .i64 0, .int .i64 0, .int .i64 0, .slice none 0 0]).alloc (.cells #[.int .i64 0, .int .i64 0, .int .i64 0, .slice none 0 0, .slice none 0 0, .int .i64 0, .int .i64 0, .int .i64 0] 44)
  have k3 := Blk.new (((w.alloc (.cells #[.int .i64 g.ba, .int .i64 g.bi, .int .i64 g.ou, .slice A n c, .slice C m d, .int .i64 g.fi, .int .i64 g.ho, .int .i64 g.no] 44)).alloc (.cells #[.int .i64 0, .int .i64 p.fa, .int .i64 p.fp, .int .i64 p.ta, .int .i64 p.tp, .slice D 0 dc] 74)).alloc (.cells #[.int .i64 0, .int .i64 0, .int .i64 0, .int .i64 0, .int .i64 0, .slice none 0 0] 74)) 44 #[.int .i64 0, .int .i64 0, .int .i64 0, .slice none 0 0, .slice none 0 0, .int .i64 0, .int .i64 0, .int .i64 0]
  have B : Below w.heap.size w ((((w.alloc (.cells #[.int .i64 g.ba, .int .i64 g.bi, .int .i64 g.ou, .slice A n c, .slice C m d, .int .i64 g.fi, .int .i64 g.ho, .int .i64 g.no] 44)).alloc (.cells #[.int .i64 0, .int .i64 p.fa, .int .i64 p.fp, .int .i64 p.ta, .int .i64 p.tp, .slice D 0 dc] 74)).alloc (.cells #[.int .i64 0, .int .i64 0, .int .i64 0, .int .i64 0, .int .i64 0, .slice none 0 0] 74)).alloc (.cells #[.int .i64 0, .int .i64 0, .int .i64 0, .slice none 0 0, .slice none 0 0, .int .i64 0, .int .i64 0, .int .i64 0] 44)) := ((((Below.refl _ _).alloc (Nat.le_refl _) _).alloc (by simp) _).alloc (by simp; omega) _).alloc (by simp; omega) _
  simp only [World.size_alloc] at k1 k2 k3
  have y0 := k0.cell 0; have y1 := k0.cell 1; have y2 := k0.cell 2; have y3 := k0.cell 3; have y4 := k0.cell 4; have y5 := k0.cell 5; have y6 := k0.cell 6; have y7 := k0.cell 7; have l0 := k0.lt; simp only [List.getElem?_toArray, List.getElem?_cons_zero, List.getElem?_cons_succ] at y0 y1 y2 y3 y4 y5 y6 y7
  have p0 := k1.cell 0; have p1 := k1.cell 1; have p2 := k1.cell 2; have p3 := k1.cell 3; have p4 := k1.cell 4; have p5 := k1.cell 5; have l1 := k1.lt; simp only [List.getElem?_toArray, List.getElem?_cons_zero, List.getElem?_cons_succ] at p0 p1 p2 p3 p4 p5
  go_enter Tryz.func41, Tryz.ntmps41
  go_wp2_with fail
  refine (c_iWayOf g p A n c C m d D dc _ HV.out HP.out HN.out hc (HA.out _ B) HM.out hd (HC.out _ B)).mono ?_
  rintro e w1 ⟨rfl, hq⟩
  clear y0 y1 y2 y3 y4 y5 y6 y7 l0; clear p0 p1 p2 p3 p4 p5 l1; replace k0 := k0.to hq; replace k1 := k1.to hq; replace k2 := k2.to hq; replace k3 := k3.to hq; replace B := Bl.then B hq; clear hq; have y0 := k0.cell 0; have y1 := k0.cell 1; have y2 := k0.cell 2; have y3 := k0.cell 3; have y4 := k0.cell 4; have y5 := k0.cell 5; have y6 := k0.cell 6; have y7 := k0.cell 7; have l0 := k0.lt; simp only [List.getElem?_toArray, List.getElem?_cons_zero, List.getElem?_cons_succ] at y0 y1 y2 y3 y4 y5 y6 y7; have p0 := k1.cell 0; have p1 := k1.cell 1; have p2 := k1.cell 2; have p3 := k1.cell 3; have p4 := k1.cell 4; have p5 := k1.cell 5; have l1 := k1.lt; simp only [List.getElem?_toArray, List.getElem?_cons_zero, List.getElem?_cons_succ] at p0 p1 p2 p3 p4 p5
  rcases way_cases g p with ⟨hw, hc1, hc2, hc3⟩ | ⟨hw, hc1, hc2⟩ | ⟨hw, hc1, hc2⟩ | hw

  · have HH : Hid (inN g.ba g.bi p.fa = true ∧ inN g.ba g.bi p.ta = false ∧ p.ta ≠ g.ou) := Lib.hid (⟨hc1, hc2, hc3⟩)
    have HZ : Hid (fwdG g p = sendG g p) := Lib.hid (by rw [HFW.out, HW.out, hw, if_pos rfl])
    clear hc1 hc2 hc3
    have hl3 := k3.lt
    rw [hw]
    go_wp2_with fail
    refine (c_iSendOut g p A n c C m d D dc _ HV.out HP.out HH.out.1 HH.out.2.1 HH.out.2.2 HN.out hc (HA.out _ B) HM.out hd (HC.out _ B)).mono ?_
    rintro e w4 ⟨hq, qq, gg, D', dc', A', n', c', C', m', d', ok, rfl, HO, hn', hc', hFr, hTab, hm', hd', hFc, hCon⟩
    replace hFr := hFr.low (c := w.heap.size + 4) (by omega)
    replace hFc := hFc.low (c := w.heap.size + 4) (by omega)
    clear y0 y1 y2 y3 y4 y5 y6 y7 l0
    clear p0 p1 p2 p3 p4 p5 l1
    replace k0 := k0.to hq; replace k1 := k1.to hq; replace k2 := k2.to hq; replace k3 := k3.to hq; replace B := Bl.then B hq; clear hq
    have q0 := k2.cell 0; have q1 := k2.cell 1; have q2 := k2.cell 2; have q3 := k2.cell 3; have q4 := k2.cell 4; have q5 := k2.cell 5; have l2 := k2.lt; simp only [List.getElem?_toArray, List.getElem?_cons_zero, List.getElem?_cons_succ] at q0 q1 q2 q3 q4 q5
    have z0 := k3.cell 0; have z1 := k3.cell 1; have z2 := k3.cell 2; have z3 := k3.cell 3; have z4 := k3.cell 4; have z5 := k3.cell 5; have z6 := k3.cell 6; have z7 := k3.cell 7; have l3 := k3.lt; simp only [List.getElem?_toArray, List.getElem?_cons_zero, List.getElem?_cons_succ] at z0 z1 z2 z3 z4 z5 z6 z7
    have fq0 := k2.frozen 0; have fq1 := k2.frozen 1; have fq2 := k2.frozen 2; have fq3 := k2.frozen 3; have fq4 := k2.frozen 4; have fq5 := k2.frozen 5
    have fz0 := k3.frozen 0; have fz1 := k3.frozen 1; have fz2 := k3.frozen 2; have fz3 := k3.frozen 3; have fz4 := k3.frozen 4; have fz5 := k3.frozen 5; have fz6 := k3.frozen 6; have fz7 := k3.frozen 7
    go_wp2
    clear q0 q1 q2 q3 q4 q5 l2 z0 z1 z2 z3 z4 z5 z6 z7 l3 fq0 fq1 fq2 fq3 fq4 fq5 fz0 fz1 fz2 fz3 fz4 fz5 fz6 fz7
    obtain ⟨W5, e5, z5, hf5, hb5, hr5⟩ := put6 k2 (.int .i64 0) (.int .i64 qq.fa) (.int .i64 qq.fp) (.int .i64 qq.ta) (.int .i64 qq.tp) (.slice D' 0 dc')
    rw [e5]
    replace k3 := hf5 k3 (by omega)
    replace B := hb5 B (by omega)
    replace hTab := hr5.1 hTab hFr (by omega)
    replace hCon := hr5.1 hCon hFc (by omega)
    obtain ⟨W6, e6, z6, hf6, hb6, hr6⟩ := put8 k3 (.int .i64 gg.ba) (.int .i64 gg.bi) (.int .i64 gg.ou) (.slice A' n' c') (.slice C' m' d') (.int .i64 gg.fi) (.int .i64 gg.ho) (.int .i64 gg.no)
    rw [e6]
    replace k2 := hf6 z5 (by omega)
    replace B := hb6 B (by omega)
    replace hTab := hr6.1 hTab hFr (by omega)
    replace hCon := hr6.1 hCon hFc (by omega)
    replace k3 := z6
    clear e5 e6 hf5 hb5 hr5 hf6 hb6 hr6 z5 z6
    have q0 := k2.cell 0; have q1 := k2.cell 1; have q2 := k2.cell 2; have q3 := k2.cell 3; have q4 := k2.cell 4; have q5 := k2.cell 5; have l2 := k2.lt; simp only [List.getElem?_toArray, List.getElem?_cons_zero, List.getElem?_cons_succ] at q0 q1 q2 q3 q4 q5
    have z0 := k3.cell 0; have z1 := k3.cell 1; have z2 := k3.cell 2; have z3 := k3.cell 3; have z4 := k3.cell 4; have z5 := k3.cell 5; have z6 := k3.cell 6; have z7 := k3.cell 7; have l3 := k3.lt; simp only [List.getElem?_toArray, List.getElem?_cons_zero, List.getElem?_cons_succ] at z0 z1 z2 z3 z4 z5 z6 z7
    refine bodyPost_ret (v := .tuple #[.agg #[.int .i64 0, .int .i64 qq.fa, .int .i64 qq.fp, .int .i64 qq.ta, .int .i64 qq.tp, .slice D' 0 dc'], .agg #[.int .i64 gg.ba, .int .i64 gg.bi, .int .i64 gg.ou, .slice A' n' c', .slice C' m' d', .int .i64 gg.fi, .int .i64 gg.ho, .int .i64 gg.no], .bool ok]) (by simp [results, Tryz.results41, go_sem, q0, q1, q2, q3, q4, q5, z0, z1, z2, z3, z4, z5, z6, z7]) rfl ?_
    exact ⟨B, qq, gg, D', dc', A', n', c', C', m', d', ok, rfl, HZ.out.trans HO, hn', hc', hFr.low (by omega), hTab, hm', hd', hFc.low (by omega), hCon⟩
  · have HH : Hid (p.ta = g.ou ∧ inN g.ba g.bi p.fa = false) := Lib.hid (⟨hc2, hc1⟩)
    have HZ : Hid (fwdG g p = recvG g p) := Lib.hid (by rw [HFW.out, HW.out, hw, if_neg (by decide), if_pos rfl])
    clear hc1 hc2
    have hl3 := k3.lt
    rw [hw]
    go_wp2_with fail
    refine (c_iReceive g p A n c C m d D dc _ HV.out HP.out HH.out.1 HH.out.2 HN.out hc (HA.out _ B) HM.out hd (HC.out _ B)).mono ?_
    rintro e w4 ⟨hq, qq, gg, D', dc', A', n', c', C', m', d', ok, rfl, HO, hn', hc', hFr, hTab, hm', hd', hFc, hCon⟩
    replace hFr := hFr.low (c := w.heap.size + 4) (by omega)
    replace hFc := hFc.low (c := w.heap.size + 4) (by omega)
    clear y0 y1 y2 y3 y4 y5 y6 y7 l0
    clear p0 p1 p2 p3 p4 p5 l1
    replace k0 := k0.to hq; replace k1 := k1.to hq; replace k2 := k2.to hq; replace k3 := k3.to hq; replace B := Bl.then B hq; clear hq
    have q0 := k2.cell 0; have q1 := k2.cell 1; have q2 := k2.cell 2; have q3 := k2.cell 3; have q4 := k2.cell 4; have q5 := k2.cell 5; have l2 := k2.lt; simp only [List.getElem?_toArray, List.getElem?_cons_zero, List.getElem?_cons_succ] at q0 q1 q2 q3 q4 q5
    have z0 := k3.cell 0; have z1 := k3.cell 1; have z2 := k3.cell 2; have z3 := k3.cell 3; have z4 := k3.cell 4; have z5 := k3.cell 5; have z6 := k3.cell 6; have z7 := k3.cell 7; have l3 := k3.lt; simp only [List.getElem?_toArray, List.getElem?_cons_zero, List.getElem?_cons_succ] at z0 z1 z2 z3 z4 z5 z6 z7
    have fq0 := k2.frozen 0; have fq1 := k2.frozen 1; have fq2 := k2.frozen 2; have fq3 := k2.frozen 3; have fq4 := k2.frozen 4; have fq5 := k2.frozen 5
    have fz0 := k3.frozen 0; have fz1 := k3.frozen 1; have fz2 := k3.frozen 2; have fz3 := k3.frozen 3; have fz4 := k3.frozen 4; have fz5 := k3.frozen 5; have fz6 := k3.frozen 6; have fz7 := k3.frozen 7
    go_wp2
    clear q0 q1 q2 q3 q4 q5 l2 z0 z1 z2 z3 z4 z5 z6 z7 l3 fq0 fq1 fq2 fq3 fq4 fq5 fz0 fz1 fz2 fz3 fz4 fz5 fz6 fz7
    obtain ⟨W5, e5, z5, hf5, hb5, hr5⟩ := put6 k2 (.int .i64 0) (.int .i64 qq.fa) (.int .i64 qq.fp) (.int .i64 qq.ta) (.int .i64 qq.tp) (.slice D' 0 dc')
    rw [e5]
    replace k3 := hf5 k3 (by omega)
    replace B := hb5 B (by omega)
    replace hTab := hr5.1 hTab hFr (by omega)
    replace hCon := hr5.1 hCon hFc (by omega)
    obtain ⟨W6, e6, z6, hf6, hb6, hr6⟩ := put8 k3 (.int .i64 gg.ba) (.int .i64 gg.bi) (.int .i64 gg.ou) (.slice A' n' c') (.slice C' m' d') (.int .i64 gg.fi) (.int .i64 gg.ho) (.int .i64 gg.no)
    rw [e6]
    replace k2 := hf6 z5 (by omega)
    replace B := hb6 B (by omega)
    replace hTab := hr6.1 hTab hFr (by omega)
    replace hCon := hr6.1 hCon hFc (by omega)
    replace k3 := z6
    clear e5 e6 hf5 hb5 hr5 hf6 hb6 hr6 z5 z6
    have q0 := k2.cell 0; have q1 := k2.cell 1; have q2 := k2.cell 2; have q3 := k2.cell 3; have q4 := k2.cell 4; have q5 := k2.cell 5; have l2 := k2.lt; simp only [List.getElem?_toArray, List.getElem?_cons_zero, List.getElem?_cons_succ] at q0 q1 q2 q3 q4 q5
    have z0 := k3.cell 0; have z1 := k3.cell 1; have z2 := k3.cell 2; have z3 := k3.cell 3; have z4 := k3.cell 4; have z5 := k3.cell 5; have z6 := k3.cell 6; have z7 := k3.cell 7; have l3 := k3.lt; simp only [List.getElem?_toArray, List.getElem?_cons_zero, List.getElem?_cons_succ] at z0 z1 z2 z3 z4 z5 z6 z7
    refine bodyPost_ret (v := .tuple #[.agg #[.int .i64 0, .int .i64 qq.fa, .int .i64 qq.fp, .int .i64 qq.ta, .int .i64 qq.tp, .slice D' 0 dc'], .agg #[.int .i64 gg.ba, .int .i64 gg.bi, .int .i64 gg.ou, .slice A' n' c', .slice C' m' d', .int .i64 gg.fi, .int .i64 gg.ho, .int .i64 gg.no], .bool ok]) (by simp [results, Tryz.results41, go_sem, q0, q1, q2, q3, q4, q5, z0, z1, z2, z3, z4, z5, z6, z7]) rfl ?_
    exact ⟨B, qq, gg, D', dc', A', n', c', C', m', d', ok, rfl, HZ.out.trans HO, hn', hc', hFr.low (by omega), hTab, hm', hd', hFc.low (by omega), hCon⟩
  · have HH : Hid (inN g.ba g.bi p.fa = true ∧ p.ta = g.ou) := Lib.hid (⟨hc1, hc2⟩)
    have HZ : Hid (fwdG g p = (passG g p)) := Lib.hid (by rw [HFW.out, HW.out, hw, if_neg (by decide), if_neg (by decide), if_pos rfl])
    clear hc1 hc2
    have hl3 := k3.lt
    rw [hw]
    go_wp2_with fail
    refine (c_iPass g p A n c C m d D dc _ HV.out HP.out HH.out.1 HH.out.2 HN.out hc (HA.out _ B) HM.out hd (HC.out _ B)).mono ?_
    rintro e w4 ⟨hq, qq, gg, D', dc', A', n', c', C', m', d', ok, rfl, HO, hn', hc', hFr, hTab, hm', hd', hFc, hCon⟩
    replace hFr := hFr.low (c := w.heap.size + 4) (by omega)
    replace hFc := hFc.low (c := w.heap.size + 4) (by omega)
    clear y0 y1 y2 y3 y4 y5 y6 y7 l0
    clear p0 p1 p2 p3 p4 p5 l1
    replace k0 := k0.to hq; replace k1 := k1.to hq; replace k2 := k2.to hq; replace k3 := k3.to hq; replace B := Bl.then B hq; clear hq
    have q0 := k2.cell 0; have q1 := k2.cell 1; have q2 := k2.cell 2; have q3 := k2.cell 3; have q4 := k2.cell 4; have q5 := k2.cell 5; have l2 := k2.lt; simp only [List.getElem?_toArray, List.getElem?_cons_zero, List.getElem?_cons_succ] at q0 q1 q2 q3 q4 q5
    have z0 := k3.cell 0; have z1 := k3.cell 1; have z2 := k3.cell 2; have z3 := k3.cell 3; have z4 := k3.cell 4; have z5 := k3.cell 5; have z6 := k3.cell 6; have z7 := k3.cell 7; have l3 := k3.lt; simp only [List.getElem?_toArray, List.getElem?_cons_zero, List.getElem?_cons_succ] at z0 z1 z2 z3 z4 z5 z6 z7
    have fq0 := k2.frozen 0; have fq1 := k2.frozen 1; have fq2 := k2.frozen 2; have fq3 := k2.frozen 3; have fq4 := k2.frozen 4; have fq5 := k2.frozen 5
    have fz0 := k3.frozen 0; have fz1 := k3.frozen 1; have fz2 := k3.frozen 2; have fz3 := k3.frozen 3; have fz4 := k3.frozen 4; have fz5 := k3.frozen 5; have fz6 := k3.frozen 6; have fz7 := k3.frozen 7
    go_wp2
    clear q0 q1 q2 q3 q4 q5 l2 z0 z1 z2 z3 z4 z5 z6 z7 l3 fq0 fq1 fq2 fq3 fq4 fq5 fz0 fz1 fz2 fz3 fz4 fz5 fz6 fz7
    obtain ⟨W5, e5, z5, hf5, hb5, hr5⟩ := put6 k2 (.int .i64 0) (.int .i64 qq.fa) (.int .i64 qq.fp) (.int .i64 qq.ta) (.int .i64 qq.tp) (.slice D' 0 dc')
    rw [e5]
    replace k3 := hf5 k3 (by omega)
    replace B := hb5 B (by omega)
    replace hTab := hr5.1 hTab hFr (by omega)
    replace hCon := hr5.1 hCon hFc (by omega)
    obtain ⟨W6, e6, z6, hf6, hb6, hr6⟩ := put8 k3 (.int .i64 gg.ba) (.int .i64 gg.bi) (.int .i64 gg.ou) (.slice A' n' c') (.slice C' m' d') (.int .i64 gg.fi) (.int .i64 gg.ho) (.int .i64 gg.no)
    rw [e6]
    replace k2 := hf6 z5 (by omega)
    replace B := hb6 B (by omega)
    replace hTab := hr6.1 hTab hFr (by omega)
    replace hCon := hr6.1 hCon hFc (by omega)
    replace k3 := z6
    clear e5 e6 hf5 hb5 hr5 hf6 hb6 hr6 z5 z6
    have q0 := k2.cell 0; have q1 := k2.cell 1; have q2 := k2.cell 2; have q3 := k2.cell 3; have q4 := k2.cell 4; have q5 := k2.cell 5; have l2 := k2.lt; simp only [List.getElem?_toArray, List.getElem?_cons_zero, List.getElem?_cons_succ] at q0 q1 q2 q3 q4 q5
    have z0 := k3.cell 0; have z1 := k3.cell 1; have z2 := k3.cell 2; have z3 := k3.cell 3; have z4 := k3.cell 4; have z5 := k3.cell 5; have z6 := k3.cell 6; have z7 := k3.cell 7; have l3 := k3.lt; simp only [List.getElem?_toArray, List.getElem?_cons_zero, List.getElem?_cons_succ] at z0 z1 z2 z3 z4 z5 z6 z7
    refine bodyPost_ret (v := .tuple #[.agg #[.int .i64 0, .int .i64 qq.fa, .int .i64 qq.fp, .int .i64 qq.ta, .int .i64 qq.tp, .slice D' 0 dc'], .agg #[.int .i64 gg.ba, .int .i64 gg.bi, .int .i64 gg.ou, .slice A' n' c', .slice C' m' d', .int .i64 gg.fi, .int .i64 gg.ho, .int .i64 gg.no], .bool ok]) (by simp [results, Tryz.results41, go_sem, q0, q1, q2, q3, q4, q5, z0, z1, z2, z3, z4, z5, z6, z7]) rfl ?_
    exact ⟨B, qq, gg, D', dc', A', n', c', C', m', d', ok, rfl, HZ.out.trans HO, hn', hc', hFr.low (by omega), hTab, hm', hd', hFc.low (by omega), hCon⟩
  · have HZ : Hid (fwdG g p = none) := Lib.hid (by rw [HFW.out, HW.out, hw, if_neg (by decide), if_neg (by decide), if_neg (by decide)])
    rw [hw]
    clear y0 y1 y2 y3 y4 y5 y6 y7 l0
    clear p0 p1 p2 p3 p4 p5 l1
    have q0 := k2.cell 0; have q1 := k2.cell 1; have q2 := k2.cell 2; have q3 := k2.cell 3; have q4 := k2.cell 4; have q5 := k2.cell 5; have l2 := k2.lt; simp only [List.getElem?_toArray, List.getElem?_cons_zero, List.getElem?_cons_succ] at q0 q1 q2 q3 q4 q5
    have z0 := k3.cell 0; have z1 := k3.cell 1; have z2 := k3.cell 2; have z3 := k3.cell 3; have z4 := k3.cell 4; have z5 := k3.cell 5; have z6 := k3.cell 6; have z7 := k3.cell 7; have l3 := k3.lt; simp only [List.getElem?_toArray, List.getElem?_cons_zero, List.getElem?_cons_succ] at z0 z1 z2 z3 z4 z5 z6 z7
    have fq0 := k2.frozen 0; have fq1 := k2.frozen 1; have fq2 := k2.frozen 2; have fq3 := k2.frozen 3; have fq4 := k2.frozen 4; have fq5 := k2.frozen 5
    have fz0 := k3.frozen 0; have fz1 := k3.frozen 1; have fz2 := k3.frozen 2; have fz3 := k3.frozen 3; have fz4 := k3.frozen 4; have fz5 := k3.frozen 5; have fz6 := k3.frozen 6; have fz7 := k3.frozen 7
    go_wp2
    clear q0 q1 q2 q3 q4 q5 l2 z0 z1 z2 z3 z4 z5 z6 z7 l3 fq0 fq1 fq2 fq3 fq4 fq5 fz0 fz1 fz2 fz3 fz4 fz5 fz6 fz7
    obtain ⟨W5, e5, z5, hf5, hb5, hr5⟩ := put6 k2 (.int .i64 0) (.int .i64 0) (.int .i64 0) (.int .i64 0) (.int .i64 0) (.slice none 0 0)
    rw [e5]
    replace k3 := hf5 k3 (by omega)
    replace B := hb5 B (by omega)
    obtain ⟨W6, e6, z6, hf6, hb6, hr6⟩ := put8 k3 (.int .i64 0) (.int .i64 0) (.int .i64 0) (.slice none 0 0) (.slice none 0 0) (.int .i64 0) (.int .i64 0) (.int .i64 0)
    rw [e6]
    replace k2 := hf6 z5 (by omega)
    replace B := hb6 B (by omega)
    replace k3 := z6
    clear e5 e6 hf5 hb5 hr5 hf6 hb6 hr6 z5 z6
    have q0 := k2.cell 0; have q1 := k2.cell 1; have q2 := k2.cell 2; have q3 := k2.cell 3; have q4 := k2.cell 4; have q5 := k2.cell 5; have l2 := k2.lt; simp only [List.getElem?_toArray, List.getElem?_cons_zero, List.getElem?_cons_succ] at q0 q1 q2 q3 q4 q5
    have z0 := k3.cell 0; have z1 := k3.cell 1; have z2 := k3.cell 2; have z3 := k3.cell 3; have z4 := k3.cell 4; have z5 := k3.cell 5; have z6 := k3.cell 6; have z7 := k3.cell 7; have l3 := k3.lt; simp only [List.getElem?_toArray, List.getElem?_cons_zero, List.getElem?_cons_succ] at z0 z1 z2 z3 z4 z5 z6 z7
    refine bodyPost_ret (v := .tuple #[.agg #[.int .i64 0, .int .i64 0, .int .i64 0, .int .i64 0, .int .i64 0, .slice none 0 0], .agg #[.int .i64 0, .int .i64 0, .int .i64 0, .slice none 0 0, .slice none 0 0, .int .i64 0, .int .i64 0, .int .i64 0], .bool false]) (by simp [results, Tryz.results41, go_sem, q0, q1, q2, q3, q4, q5, z0, z1, z2, z3, z4, z5, z6, z7]) rfl ?_
    exact ⟨B, pk0, gt0, none, 0, none, 0, 0, none, 0, 0, false, rfl, HZ.out, rfl, Nat.le_refl _, Fr.none _, TM.nil _ _, rfl, Nat.le_refl _, Fr.none _, TK.nil _ _⟩
end Go.Proofs.YtjflfhjnbccpmaaGreatDoor
namespace Go.Proofs.YtjflfhjnbccpmaaGreatDoor
open Go.RowKit
set_option maxHeartbeats 3200000 in
theorem c_validGate (g : Gt) (A : Option Addr) (n c : Nat) (C : Option Addr) (m d : Nat) (w : World) (hv : vGate g = true) (hn : g.tb.length = n) (h : TM w A g.tb) (hm : g.cs.length = m) (h' : TK w C g.cs) :
    Calls Tryz.prog 87 #[.agg #[.int .i64 g.ba, .int .i64 g.bi, .int .i64 g.ou, .slice A n c, .slice C m d, .int .i64 g.fi, .int .i64 g.ho, .int .i64 g.no]] w fun e w' => e = .returned (.bool true) ∧ Below w.heap.size w w' := by
  have HN := Lib.hid hn
  have HM := Lib.hid hm
  have HA : Hid (∀ W, Below w.heap.size w W → TM W A g.tb) := fun W b => h.to b
  have HC : Hid (∀ W, Below w.heap.size w W → TK W C g.cs) := fun W b => h'.to b
  have hn8 : n ≤ 8 := hn ▸ tab_len (gate_tab hv)
  have hm10 : m ≤ 10 := hm ▸ con_len (gate_con hv)
  have HV := Lib.hid hv
  have HG := Lib.hid (gate_nums hv)
  clear hn hm h h' hv
  have k0 : Blk (w.alloc (.cells (gtC g (.slice A n c) (.slice C m d)) 44)) w.heap.size 44 (gtC g (.slice A n c) (.slice C m d)) := Blk.new w 44 _
  have B : Below w.heap.size w (w.alloc (.cells (gtC g (.slice A n c) (.slice C m d)) 44)) := (Below.refl _ _).alloc (Nat.le_refl _) _
  have y0 := k0.cell 0; have y1 := k0.cell 1; have y2 := k0.cell 2; have y3 := k0.cell 3; have y4 := k0.cell 4; have y5 := k0.cell 5; have y6 := k0.cell 6; have y7 := k0.cell 7; have hlt := k0.lt; simp only [gtC, List.getElem?_toArray, List.getElem?_cons_zero, List.getElem?_cons_succ] at y0 y1 y2 y3 y4 y5 y6 y7
  go_enter Tryz.func87, Tryz.ntmps87
  go_wp2_with fail
  refine (c_validNet _ _ _).mono ?_
  rw [HG.out.1]
  rintro e w1 ⟨rfl, hq⟩
  replace k0 := k0.to hq; replace B := Bl.then B hq; clear y0 y1 y2 y3 y4 y5 y6 y7 hlt hq
  have y0 := k0.cell 0; have y1 := k0.cell 1; have y2 := k0.cell 2; have y3 := k0.cell 3; have y4 := k0.cell 4; have y5 := k0.cell 5; have y6 := k0.cell 6; have y7 := k0.cell 7; have hlt := k0.lt; simp only [gtC, List.getElem?_toArray, List.getElem?_cons_zero, List.getElem?_cons_succ] at y0 y1 y2 y3 y4 y5 y6 y7
  go_wp2_with fail
  refine (c_validAddr _ _).mono ?_
  rw [HG.out.2.1]
  rintro e w' ⟨rfl, rfl⟩
  go_wp2_with fail
  refine (c_inNet _ _ _ _ HG.out.1).mono ?_
  rw [HG.out.2.2.1]
  rintro e w2 ⟨rfl, hq⟩
  replace k0 := k0.to hq; replace B := Bl.then B hq; clear y0 y1 y2 y3 y4 y5 y6 y7 hlt hq
  have y0 := k0.cell 0; have y1 := k0.cell 1; have y2 := k0.cell 2; have y3 := k0.cell 3; have y4 := k0.cell 4; have y5 := k0.cell 5; have y6 := k0.cell 6; have y7 := k0.cell 7; have hlt := k0.lt; simp only [gtC, List.getElem?_toArray, List.getElem?_cons_zero, List.getElem?_cons_succ] at y0 y1 y2 y3 y4 y5 y6 y7
  go_wp2_with fail
  refine (c_sValidTable A n c g.tb _ HN.out (HA.out _ B) (by omega)).mono ?_
  rw [gate_tab HV.out]
  rintro e w3 ⟨rfl, hq⟩
  replace k0 := k0.to hq; replace B := Bl.then B hq; clear y0 y1 y2 y3 y4 y5 y6 y7 hlt hq
  have y0 := k0.cell 0; have y1 := k0.cell 1; have y2 := k0.cell 2; have y3 := k0.cell 3; have y4 := k0.cell 4; have y5 := k0.cell 5; have y6 := k0.cell 6; have y7 := k0.cell 7; have hlt := k0.lt; simp only [gtC, List.getElem?_toArray, List.getElem?_cons_zero, List.getElem?_cons_succ] at y0 y1 y2 y3 y4 y5 y6 y7
  go_wp2_with fail
  refine (c_sValidContacts C m d g.cs _ HM.out (HC.out _ B) (by omega)).mono ?_
  rw [gate_con HV.out]
  rintro e w4 ⟨rfl, hq⟩
  replace k0 := k0.to hq; replace B := Bl.then B hq; clear y0 y1 y2 y3 y4 y5 y6 y7 hlt hq
  have y0 := k0.cell 0; have y1 := k0.cell 1; have y2 := k0.cell 2; have y3 := k0.cell 3; have y4 := k0.cell 4; have y5 := k0.cell 5; have y6 := k0.cell 6; have y7 := k0.cell 7; have hlt := k0.lt; simp only [gtC, List.getElem?_toArray, List.getElem?_cons_zero, List.getElem?_cons_succ] at y0 y1 y2 y3 y4 y5 y6 y7
  go_wp2_with fail
  refine (c_inRange _ _ _ _).mono ?_
  rw [HG.out.2.2.2.1]
  rintro e w' ⟨rfl, rfl⟩
  go_wp2_with fail
  refine (c_inRange _ _ _ _).mono ?_
  rw [HG.out.2.2.2.2.1]
  rintro e w' ⟨rfl, rfl⟩
  go_wp2_with fail
  refine (c_inRange _ _ _ _).mono ?_
  rw [HG.out.2.2.2.2.2]
  rintro e w' ⟨rfl, rfl⟩
  go_wp2
  go_loopw [3] (fun i wr => ∃ k : Nat, k ≤ n ∧ i = .int .i64 k ∧ Hid (Blk wr w.heap.size 44 (gtC g (.slice A n c) (.slice C m d))) ∧ Hid (Below w.heap.size w wr)) (fun i _ => n - (intOf i).toNat)
  case atStart => exact ⟨0, Nat.zero_le _, rfl, k0, B⟩
  case round =>
    clear k0 B y0 y1 y2 y3 y4 y5 y6 y7 hlt
    obtain ⟨k, hk, rfl, HK, HB⟩ := hrel
    have k0 := HK.out
    have B := HB.out
    clear HK HB
    by_cases hlt' : k < n
    · have hkl : Hid (k < g.tb.length) := Lib.hid (by rw [HN.out]; exact hlt')
      obtain ⟨b, off, rfl, hb, c0, c1, c2, c3⟩ := (HA.out _ B).get hkl.out
      have hm := (vGate_list.1 HV.out).2.2.2.1 _ (mn_mem hkl.out)
      have ho := okM_iff.1 ((vTab_list.1 (gate_tab HV.out)).1 _ (mn_mem hkl.out))
      have hg := inB_true HG.out.2.2.2.2.2
      unfold mOk keepM at hm
      obtain ⟨t1, t2, t3⟩ := hm
      rw [Bool.not_eq_true'] at t3
      have t4 : -4611686018427387904 ≤ g.no - (mn g.tb k).la := by omega
      have t5 : g.no - (mn g.tb k).la ≤ 4611686018427387904 := by omega
      have t2' : decide (g.no < (mn g.tb k).la) = false := by rw [decide_eq_false_iff_not]; omega
      have e2 : 0 ≤ (k : Int) ∧ (k : Int) < n := by omega
      clear ho hg
      have HT := Lib.hid (And.intro t4 t5)
      have y0 := k0.cell 0; have y1 := k0.cell 1; have y2 := k0.cell 2; have y3 := k0.cell 3; have y4 := k0.cell 4; have y5 := k0.cell 5; have y6 := k0.cell 6; have y7 := k0.cell 7; have hlt := k0.lt; simp only [gtC, List.getElem?_toArray, List.getElem?_cons_zero, List.getElem?_cons_succ] at y0 y1 y2 y3 y4 y5 y6 y7
      go_wp2_with fail
      replace k0 : Blk wr.drew w.heap.size 44 _ := k0
      replace B : Below w.heap.size w wr.drew := Bl.drewN B 1
      clear y0 y1 y2 y3 y4 y5 y6 y7 hlt
      refine wp_region_held_drew (S := (fun w' => w'.cell? ⟨w.heap.size, 0, none⟩ = some (.int .i64 g.ba) ∧ w'.cell? ⟨w.heap.size, 1, none⟩ = some (.int .i64 g.bi) ∧ w'.cell? ⟨w.heap.size, 3, none⟩ = some (.slice (some ⟨b, off, none⟩) n c) ∧ w'.cell? ⟨w.heap.size, 6, none⟩ = some (.int .i64 g.ho) ∧ w'.cell? ⟨w.heap.size, 7, none⟩ = some (.int .i64 g.no) ∧ w'.cell? ⟨b, off + k * 4, none⟩ = some (.int .i64 (mn g.tb k).ad) ∧ w'.cell? ⟨b, off + k * 4 + 1, none⟩ = some (.int .i64 (mn g.tb k).ep) ∧ w'.cell? ⟨b, off + k * 4 + 2, none⟩ = some (.int .i64 (mn g.tb k).po) ∧ w'.cell? ⟨b, off + k * 4 + 3, none⟩ = some (.int .i64 (mn g.tb k).la))) (by kernel_rfl) ?_ (fun hHeld => ?_)
      · (try dsimp only); exact ⟨k0.cell 0, k0.cell 1, k0.cell 3, k0.cell 6, k0.cell 7, c0, c1, c2, c3⟩
      refine wpAnyH_take (i := 0) (v := ?_) (arr_at rfl) (by kernel_rfl) (by kernel_rfl) (by kernel_rfl) (fun _ _ _ h => h) ?_ (by assumption) ?_
      rotate_left
      · first | (refine Or.inr ⟨by rfl, ?_⟩; with_reducible rfl) | (refine Or.inl ⟨by rfl, ?_⟩; intro w hSw; (try dsimp only at hSw); go_simp; first | done | with_reducible rfl)
      try simp only [Act.put, List.setIfInBounds_toArray, List.set_cons_zero, List.set_cons_succ]
      refine wpAnyH_take (i := 1) (v := ?_) (arr_at rfl) (by kernel_rfl) (by kernel_rfl) (by kernel_rfl) (fun _ _ _ h => h) ?_ (by assumption) ?_
      rotate_left
      · first | (refine Or.inr ⟨by rfl, ?_⟩; with_reducible rfl) | (refine Or.inl ⟨by rfl, ?_⟩; intro w hSw; (try dsimp only at hSw); go_simp; first | done | with_reducible rfl)
      try simp only [Act.put, List.setIfInBounds_toArray, List.set_cons_zero, List.set_cons_succ]
      refine wpAnyH_take (i := 2) (v := ?_) (arr_at rfl) (by kernel_rfl) (by kernel_rfl) (by kernel_rfl) (fun _ _ _ h => h) ?_ (by assumption) ?_
      rotate_left
      · first | (refine Or.inr ⟨by rfl, ?_⟩; with_reducible rfl) | (refine Or.inl ⟨by rfl, ?_⟩; intro w hSw; (try dsimp only at hSw); go_simp; first | done | with_reducible rfl)
      try simp only [Act.put, List.setIfInBounds_toArray, List.set_cons_zero, List.set_cons_succ]
      refine wpAnyH_take (i := 3) (v := ?_) (arr_at rfl) (by kernel_rfl) (by kernel_rfl) (by kernel_rfl) (fun _ _ _ h => h) ?_ (by assumption) ?_
      rotate_left
      · first | (refine Or.inr ⟨by rfl, ?_⟩; with_reducible rfl) | (refine Or.inl ⟨by rfl, ?_⟩; intro w hSw; (try dsimp only at hSw); go_simp; first | done | with_reducible rfl)
      try simp only [Act.put, List.setIfInBounds_toArray, List.set_cons_zero, List.set_cons_succ]
      refine wpAnyH_take (i := 4) (v := ?_) (arr_at rfl) (by kernel_rfl) (by kernel_rfl) (by kernel_rfl) (fun _ _ _ h => h) ?_ (by assumption) ?_
      rotate_left
      · first | (refine Or.inr ⟨by rfl, ?_⟩; with_reducible rfl) | (refine Or.inl ⟨by rfl, ?_⟩; intro w hSw; (try dsimp only at hSw); go_simp; first | done | with_reducible rfl)
      try simp only [Act.put, List.setIfInBounds_toArray, List.set_cons_zero, List.set_cons_succ]
      refine wpAnyH_take (i := 5) (v := ?_) (arr_at rfl) (by kernel_rfl) (by kernel_rfl) (by kernel_rfl) (fun _ _ _ h => h) ?_ (by assumption) ?_
      rotate_left
      · first | (refine Or.inr ⟨by rfl, ?_⟩; with_reducible rfl) | (refine Or.inl ⟨by rfl, ?_⟩; intro w hSw; (try dsimp only at hSw); go_simp; first | done | with_reducible rfl)
      try simp only [Act.put, List.setIfInBounds_toArray, List.set_cons_zero, List.set_cons_succ]
      refine wpAnyH_take (i := 6) (v := ?_) (arr_at rfl) (by kernel_rfl) (by kernel_rfl) (by kernel_rfl) (fun _ _ _ h => h) ?_ (by assumption) ?_
      rotate_left
      · first | (refine Or.inr ⟨by rfl, ?_⟩; with_reducible rfl) | (refine Or.inl ⟨by rfl, ?_⟩; intro w hSw; (try dsimp only at hSw); go_simp; first | done | with_reducible rfl)
      try simp only [Act.put, List.setIfInBounds_toArray, List.set_cons_zero, List.set_cons_succ]
      refine wpAnyH_take (i := 7) (v := ?_) (arr_at rfl) (by kernel_rfl) (by kernel_rfl) (by kernel_rfl) (fun _ _ _ h => h) ?_ (by assumption) ?_
      rotate_left
      · first | (refine Or.inr ⟨by rfl, ?_⟩; with_reducible rfl) | (refine Or.inl ⟨by rfl, ?_⟩; intro w hSw; (try dsimp only at hSw); go_simp; first | done | with_reducible rfl)
      try simp only [Act.put, List.setIfInBounds_toArray, List.set_cons_zero, List.set_cons_succ]
      refine wpAnyH_take (i := 8) (v := ?_) (arr_at rfl) (by kernel_rfl) (by kernel_rfl) (by kernel_rfl) (fun _ _ _ h => h) ?_ (by assumption) ?_
      rotate_left
      · first | (refine Or.inr ⟨by rfl, ?_⟩; with_reducible rfl) | (refine Or.inl ⟨by rfl, ?_⟩; intro w hSw; (try dsimp only at hSw); go_simp; first | done | with_reducible rfl)
      try simp only [Act.put, List.setIfInBounds_toArray, List.set_cons_zero, List.set_cons_succ]
      refine wpAnyH_ready (rs := [9]) (by kernel_rfl) (by simp) ?_
      refine AllReadyH.cons (arr_at rfl) (fun K hK => ?_) AllReadyH.nil
      go_simp
      go_at_call 139; refine (c_inNet _ _ _ _ HG.out.1).mono ?_; rw [t1]; rintro e w2 ⟨rfl, hq⟩; obtain ⟨b0', off', e', hb1, f0, f1, f2, f3⟩ := ((HA.out _ B).to hq).get hkl.out; cases e'; replace k0 := k0.to hq; replace B := Bl.then B hq; clear hq c0 c1 c2 c3; have c0 := f0; have c1 := f1; have c2 := f2; have c3 := f3; clear f0 f1 f2 f3
      refine hK.out _ _ ?_ (fun hHeld => ?_)
      · (try dsimp only); exact ⟨k0.cell 0, k0.cell 1, k0.cell 3, k0.cell 6, k0.cell 7, c0, c1, c2, c3⟩
      clear hK K
      try simp only [Act.put, List.setIfInBounds_toArray, List.set_cons_zero, List.set_cons_succ]
      refine wpAnyH_take (i := 10) (v := ?_) (arr_at rfl) (by kernel_rfl) (by kernel_rfl) (by kernel_rfl) (fun _ _ _ h => h) ?_ (by assumption) ?_
      rotate_left
      · first | (refine Or.inr ⟨by rfl, ?_⟩; with_reducible rfl) | (refine Or.inl ⟨by rfl, ?_⟩; intro w hSw; (try dsimp only at hSw); go_simp; first | done | with_reducible rfl)
      try simp only [Act.put, List.setIfInBounds_toArray, List.set_cons_zero, List.set_cons_succ]
      refine wpAnyH_take (i := 11) (v := ?_) (arr_at rfl) (by kernel_rfl) (by kernel_rfl) (by kernel_rfl) (fun _ _ _ h => h) ?_ (by assumption) ?_
      rotate_left
      · first | (refine Or.inr ⟨by rfl, ?_⟩; with_reducible rfl) | (refine Or.inl ⟨by rfl, ?_⟩; intro w hSw; (try dsimp only at hSw); go_simp; first | done | with_reducible rfl)
      try simp only [Act.put, List.setIfInBounds_toArray, List.set_cons_zero, List.set_cons_succ]
      refine wpAnyH_take (i := 12) (v := ?_) (arr_at rfl) (by kernel_rfl) (by kernel_rfl) (by kernel_rfl) (fun _ _ _ h => h) ?_ (by assumption) ?_
      rotate_left
      · first | (refine Or.inr ⟨by rfl, ?_⟩; with_reducible rfl) | (refine Or.inl ⟨by rfl, ?_⟩; intro w hSw; (try dsimp only at hSw); go_simp; first | done | with_reducible rfl)
      try simp only [Act.put, List.setIfInBounds_toArray, List.set_cons_zero, List.set_cons_succ]
      refine wpAnyH_take (i := 13) (v := ?_) (arr_at rfl) (by kernel_rfl) (by kernel_rfl) (by kernel_rfl) (fun _ _ _ h => h) ?_ (by assumption) ?_
      rotate_left
      · first | (refine Or.inr ⟨by rfl, ?_⟩; with_reducible rfl) | (refine Or.inl ⟨by rfl, ?_⟩; intro w hSw; (try dsimp only at hSw); go_simp; first | done | with_reducible rfl)
      try simp only [Act.put, List.setIfInBounds_toArray, List.set_cons_zero, List.set_cons_succ]
      refine wpAnyH_take (i := 14) (v := ?_) (arr_at rfl) (by kernel_rfl) (by kernel_rfl) (by kernel_rfl) (fun _ _ _ h => h) ?_ (by assumption) ?_
      rotate_left
      · first | (refine Or.inr ⟨by rfl, ?_⟩; with_reducible rfl) | (refine Or.inl ⟨by rfl, ?_⟩; intro w hSw; (try dsimp only at hSw); go_simp; first | done | with_reducible rfl)
      try simp only [Act.put, List.setIfInBounds_toArray, List.set_cons_zero, List.set_cons_succ]
      refine wpAnyH_take (i := 15) (v := ?_) (arr_at rfl) (by kernel_rfl) (by kernel_rfl) (by kernel_rfl) (fun _ _ _ h => h) ?_ (by assumption) ?_
      rotate_left
      · first | (refine Or.inr ⟨by rfl, ?_⟩; with_reducible rfl) | (refine Or.inl ⟨by rfl, ?_⟩; intro w hSw; (try dsimp only at hSw); go_simp; first | done | with_reducible rfl)
      try simp only [Act.put, List.setIfInBounds_toArray, List.set_cons_zero, List.set_cons_succ]
      refine wpAnyH_take (i := 16) (v := ?_) (arr_at rfl) (by kernel_rfl) (by kernel_rfl) (by kernel_rfl) (fun _ _ _ h => h) ?_ (by assumption) ?_
      rotate_left
      · first | (refine Or.inr ⟨by rfl, ?_⟩; with_reducible rfl) | (refine Or.inl ⟨by rfl, ?_⟩; intro w hSw; (try dsimp only at hSw); go_simp; first | done | with_reducible rfl)
      try simp only [Act.put, List.setIfInBounds_toArray, List.set_cons_zero, List.set_cons_succ]
      refine wpAnyH_take (i := 17) (v := ?_) (arr_at rfl) (by kernel_rfl) (by kernel_rfl) (by kernel_rfl) (fun _ _ _ h => h) ?_ (by assumption) ?_
      rotate_left
      · first | (refine Or.inr ⟨by rfl, ?_⟩; with_reducible rfl) | (refine Or.inl ⟨by rfl, ?_⟩; intro w hSw; (try dsimp only at hSw); go_simp; first | done | with_reducible rfl)
      try simp only [Act.put, List.setIfInBounds_toArray, List.set_cons_zero, List.set_cons_succ]
      refine wpAnyH_take (i := 18) (v := ?_) (arr_at rfl) (by kernel_rfl) (by kernel_rfl) (by kernel_rfl) (fun _ _ _ h => h) ?_ (by assumption) ?_
      rotate_left
      · first | (refine Or.inr ⟨by rfl, ?_⟩; with_reducible rfl) | (refine Or.inl ⟨by rfl, ?_⟩; intro w hSw; (try dsimp only at hSw); go_simp; first | done | with_reducible rfl)
      try simp only [Act.put, List.setIfInBounds_toArray, List.set_cons_zero, List.set_cons_succ]
      refine wpAnyH_take (i := 19) (v := ?_) (arr_at rfl) (by kernel_rfl) (by kernel_rfl) (by kernel_rfl) (fun _ _ _ h => h) ?_ (by assumption) ?_
      rotate_left
      · first | (refine Or.inr ⟨by rfl, ?_⟩; with_reducible rfl) | (refine Or.inl ⟨by rfl, ?_⟩; intro w hSw; (try dsimp only at hSw); go_simp; first | done | with_reducible rfl)
      try simp only [Act.put, List.setIfInBounds_toArray, List.set_cons_zero, List.set_cons_succ]
      refine wpAnyH_take (i := 20) (v := ?_) (arr_at rfl) (by kernel_rfl) (by kernel_rfl) (by kernel_rfl) (fun _ _ _ h => h) ?_ (by assumption) ?_
      rotate_left
      · first | (refine Or.inr ⟨by rfl, ?_⟩; with_reducible rfl) | (refine Or.inl ⟨by rfl, ?_⟩; intro w hSw; (try dsimp only at hSw); go_simp; first | done | with_reducible rfl)
      try simp only [Act.put, List.setIfInBounds_toArray, List.set_cons_zero, List.set_cons_succ]
      refine wpAnyH_take (i := 21) (v := ?_) (arr_at rfl) (by kernel_rfl) (by kernel_rfl) (by kernel_rfl) (fun _ _ _ h => h) ?_ (by assumption) ?_
      rotate_left
      · first | (refine Or.inr ⟨by rfl, ?_⟩; with_reducible rfl) | (refine Or.inl ⟨by rfl, ?_⟩; intro w hSw; (try dsimp only at hSw); go_simp; first | done | with_reducible rfl)
      try simp only [Act.put, List.setIfInBounds_toArray, List.set_cons_zero, List.set_cons_succ]
      refine wpAnyH_take (i := 22) (v := ?_) (arr_at rfl) (by kernel_rfl) (by kernel_rfl) (by kernel_rfl) (fun _ _ _ h => h) ?_ (by assumption) ?_
      rotate_left
      · first | (refine Or.inr ⟨by rfl, ?_⟩; with_reducible rfl) | (refine Or.inl ⟨by rfl, ?_⟩; intro w hSw; (try dsimp only at hSw); go_simp; first | done | with_reducible rfl)
      try simp only [Act.put, List.setIfInBounds_toArray, List.set_cons_zero, List.set_cons_succ]
      refine wpAnyH_take (i := 23) (v := ?_) (arr_at rfl) (by kernel_rfl) (by kernel_rfl) (by kernel_rfl) (fun _ _ _ h => h) ?_ (by assumption) ?_
      rotate_left
      · first | (refine Or.inr ⟨by rfl, ?_⟩; with_reducible rfl) | (refine Or.inl ⟨by rfl, ?_⟩; intro w hSw; (try dsimp only at hSw); go_simp; first | done | with_reducible rfl)
      try simp only [Act.put, List.setIfInBounds_toArray, List.set_cons_zero, List.set_cons_succ]
      refine wpAnyH_take (i := 24) (v := ?_) (arr_at rfl) (by kernel_rfl) (by kernel_rfl) (by kernel_rfl) (fun _ _ _ h => h) ?_ (by assumption) ?_
      rotate_left
      · first | (refine Or.inr ⟨by rfl, ?_⟩; with_reducible rfl) | (refine Or.inl ⟨by rfl, ?_⟩; intro w hSw; (try dsimp only at hSw); go_simp; first | done | with_reducible rfl)
      try simp only [Act.put, List.setIfInBounds_toArray, List.set_cons_zero, List.set_cons_succ]
      refine wpAnyH_take (i := 25) (v := ?_) (arr_at rfl) (by kernel_rfl) (by kernel_rfl) (by kernel_rfl) (fun _ _ _ h => h) ?_ (by assumption) ?_
      rotate_left
      · first | (refine Or.inr ⟨by rfl, ?_⟩; with_reducible rfl) | (refine Or.inl ⟨by rfl, ?_⟩; intro w hSw; (try dsimp only at hSw); go_simp; first | done | with_reducible rfl)
      try simp only [Act.put, List.setIfInBounds_toArray, List.set_cons_zero, List.set_cons_succ]
      refine wpAnyH_take (i := 26) (v := ?_) (arr_at rfl) (by kernel_rfl) (by kernel_rfl) (by kernel_rfl) (fun _ _ _ h => h) ?_ (by assumption) ?_
      rotate_left
      · first | (refine Or.inr ⟨by rfl, ?_⟩; with_reducible rfl) | (refine Or.inl ⟨by rfl, ?_⟩; intro w hSw; (try dsimp only at hSw); go_simp; first | done | with_reducible rfl)
      try simp only [Act.put, List.setIfInBounds_toArray, List.set_cons_zero, List.set_cons_succ]
      refine wpAnyH_take (i := 27) (v := ?_) (arr_at rfl) (by kernel_rfl) (by kernel_rfl) (by kernel_rfl) (fun _ _ _ h => h) ?_ (by assumption) ?_
      rotate_left
      · first | (refine Or.inr ⟨by rfl, ?_⟩; with_reducible rfl) | (refine Or.inl ⟨by rfl, ?_⟩; intro w hSw; (try dsimp only at hSw); go_simp; first | done | with_reducible rfl)
      try simp only [Act.put, List.setIfInBounds_toArray, List.set_cons_zero, List.set_cons_succ]
      refine wpAnyH_take (i := 28) (v := ?_) (arr_at rfl) (by kernel_rfl) (by kernel_rfl) (by kernel_rfl) (fun _ _ _ h => h) ?_ (by assumption) ?_
      rotate_left
      · first | (refine Or.inr ⟨by rfl, ?_⟩; with_reducible rfl) | (refine Or.inl ⟨by rfl, ?_⟩; intro w hSw; (try dsimp only at hSw); go_simp; first | done | with_reducible rfl)
      try simp only [Act.put, List.setIfInBounds_toArray, List.set_cons_zero, List.set_cons_succ]
      refine wpAnyH_take (i := 29) (v := ?_) (arr_at rfl) (by kernel_rfl) (by kernel_rfl) (by kernel_rfl) (fun _ _ _ h => h) ?_ (by assumption) ?_
      rotate_left
      · first | (refine Or.inr ⟨by rfl, ?_⟩; with_reducible rfl) | (refine Or.inl ⟨by rfl, ?_⟩; intro w hSw; (try dsimp only at hSw); go_simp; first | done | with_reducible rfl)
      try simp only [Act.put, List.setIfInBounds_toArray, List.set_cons_zero, List.set_cons_succ]
      refine wpAnyH_take (i := 30) (v := ?_) (arr_at rfl) (by kernel_rfl) (by kernel_rfl) (by kernel_rfl) (fun _ _ _ h => h) ?_ (by assumption) ?_
      rotate_left
      · first | (refine Or.inr ⟨by rfl, ?_⟩; with_reducible rfl) | (refine Or.inl ⟨by rfl, ?_⟩; intro w hSw; (try dsimp only at hSw); go_simp; first | done | with_reducible rfl)
      try simp only [Act.put, List.setIfInBounds_toArray, List.set_cons_zero, List.set_cons_succ]
      refine wpAnyH_take (i := 31) (v := ?_) (arr_at rfl) (by kernel_rfl) (by kernel_rfl) (by kernel_rfl) (fun _ _ _ h => h) ?_ (by assumption) ?_
      rotate_left
      · first | (refine Or.inr ⟨by rfl, ?_⟩; with_reducible rfl) | (refine Or.inl ⟨by rfl, ?_⟩; intro w hSw; (try dsimp only at hSw); go_simp; first | done | with_reducible rfl)
      try simp only [Act.put, List.setIfInBounds_toArray, List.set_cons_zero, List.set_cons_succ]
      refine wpAnyH_ready (rs := [32]) (by kernel_rfl) (by simp) ?_
      refine AllReadyH.cons (arr_at rfl) (fun K hK => ?_) AllReadyH.nil
      go_simp
      go_at_call 148; refine (c_expired (mn g.tb k) _ _ _ t4 t5).mono ?_; rw [t3]; rintro e w3 ⟨rfl, hq⟩; obtain ⟨b0', off', e', hb1, f0, f1, f2, f3⟩ := ((HA.out _ B).to hq).get hkl.out; cases e'; replace k0 := k0.to hq; replace B := Bl.then B hq; clear hq c0 c1 c2 c3; have c0 := f0; have c1 := f1; have c2 := f2; have c3 := f3; clear f0 f1 f2 f3
      refine hK.out _ _ ?_ (fun hHeld => ?_)
      · (try dsimp only); exact ⟨k0.cell 0, k0.cell 1, k0.cell 3, k0.cell 6, k0.cell 7, c0, c1, c2, c3⟩
      clear hK K
      try simp only [Act.put, List.setIfInBounds_toArray, List.set_cons_zero, List.set_cons_succ]
      refine wpAnyH_take (i := 33) (v := ?_) (arr_at rfl) (by kernel_rfl) (by kernel_rfl) (by kernel_rfl) (fun _ _ _ h => h) ?_ (by assumption) ?_
      rotate_left
      · first | (refine Or.inr ⟨by rfl, ?_⟩; with_reducible rfl) | (refine Or.inl ⟨by rfl, ?_⟩; intro w hSw; (try dsimp only at hSw); go_simp; first | done | with_reducible rfl)
      try simp only [Act.put, List.setIfInBounds_toArray, List.set_cons_zero, List.set_cons_succ]
      refine wpAnyH_done (by kernel_rfl) ?_ _
      go_wp2
      go_roundw
      case rel => exact ⟨k + 1, by omega, by go_num, k0, B⟩
      case measure => simp [intOf]; omega
    · have y0 := k0.cell 0; have y1 := k0.cell 1; have y2 := k0.cell 2; have y3 := k0.cell 3; have y4 := k0.cell 4; have y5 := k0.cell 5; have y6 := k0.cell 6; have y7 := k0.cell 7; have hlt := k0.lt; simp only [gtC, List.getElem?_toArray, List.getElem?_cons_zero, List.getElem?_cons_succ] at y0 y1 y2 y3 y4 y5 y6 y7
      go_wp2
      clear y0 y1 y2 y3 y4 y5 y6 y7 hlt hlt' hk
      go_loopw [4] (fun i wr => ∃ k : Nat, k ≤ m ∧ i = .int .i64 k ∧ Hid (Blk wr w.heap.size 44 (gtC g (.slice A n c) (.slice C m d))) ∧ Hid (Below w.heap.size w wr)) (fun i _ => m - (intOf i).toNat)
      case atStart => exact ⟨0, Nat.zero_le _, rfl, k0, B⟩
      case round =>
        clear k0 B
        obtain ⟨k, hk, rfl, HK, HB⟩ := hrel
        have k0 := HK.out
        have B := HB.out
        clear HK HB
        by_cases hlt' : k < m
        · have hkl : Hid (k < g.cs.length) := Lib.hid (by rw [HM.out]; exact hlt')
          obtain ⟨b, off, rfl, hb, c0, c1, c2⟩ := (HC.out _ B).get hkl.out
          have hm := (vGate_list.1 HV.out).2.2.2.2 _ (cn_mem hkl.out)
          have t1 := byP_has.2 hm
          rw [HN.out] at t1
          have t2 : decide (byP g.tb (cn g.cs k).po n < 0) = false := by rw [decide_eq_false_iff_not]; omega
          have e2 : 0 ≤ (k : Int) ∧ (k : Int) < m := by omega
          clear hm t1
          have y0 := k0.cell 0; have y1 := k0.cell 1; have y2 := k0.cell 2; have y3 := k0.cell 3; have y4 := k0.cell 4; have y5 := k0.cell 5; have y6 := k0.cell 6; have y7 := k0.cell 7; have hlt := k0.lt; simp only [gtC, List.getElem?_toArray, List.getElem?_cons_zero, List.getElem?_cons_succ] at y0 y1 y2 y3 y4 y5 y6 y7
          go_wp2_with fail
          replace k0 : Blk wr.drew w.heap.size 44 _ := k0
          replace B : Below w.heap.size w wr.drew := Bl.drewN B 1
          clear y0 y1 y2 y3 y4 y5 y6 y7 hlt
          refine wp_region_held_drew (S := (fun w' => w'.cell? ⟨w.heap.size, 3, none⟩ = some (.slice A n c) ∧ w'.cell? ⟨w.heap.size, 4, none⟩ = some (.slice (some ⟨b, off, none⟩) m d) ∧ w'.cell? ⟨b, off + k * 3, none⟩ = some (.int .i64 (cn g.cs k).po))) (by kernel_rfl) ?_ (fun hHeld => ?_)
          · (try dsimp only); exact ⟨k0.cell 3, k0.cell 4, c0⟩
          refine wpAnyH_take (i := 0) (v := ?_) (arr_at rfl) (by kernel_rfl) (by kernel_rfl) (by kernel_rfl) (fun _ _ _ h => h) ?_ (by assumption) ?_
          rotate_left
          · first | (refine Or.inr ⟨by rfl, ?_⟩; with_reducible rfl) | (refine Or.inl ⟨by rfl, ?_⟩; intro w hSw; (try dsimp only at hSw); go_simp; first | done | with_reducible rfl)
          try simp only [Act.put, List.setIfInBounds_toArray, List.set_cons_zero, List.set_cons_succ]
          refine wpAnyH_take (i := 1) (v := ?_) (arr_at rfl) (by kernel_rfl) (by kernel_rfl) (by kernel_rfl) (fun _ _ _ h => h) ?_ (by assumption) ?_
          rotate_left
          · first | (refine Or.inr ⟨by rfl, ?_⟩; with_reducible rfl) | (refine Or.inl ⟨by rfl, ?_⟩; intro w hSw; (try dsimp only at hSw); go_simp; first | done | with_reducible rfl)
          try simp only [Act.put, List.setIfInBounds_toArray, List.set_cons_zero, List.set_cons_succ]
          refine wpAnyH_take (i := 2) (v := ?_) (arr_at rfl) (by kernel_rfl) (by kernel_rfl) (by kernel_rfl) (fun _ _ _ h => h) ?_ (by assumption) ?_
          rotate_left
          · first | (refine Or.inr ⟨by rfl, ?_⟩; with_reducible rfl) | (refine Or.inl ⟨by rfl, ?_⟩; intro w hSw; (try dsimp only at hSw); go_simp; first | done | with_reducible rfl)
          try simp only [Act.put, List.setIfInBounds_toArray, List.set_cons_zero, List.set_cons_succ]
          refine wpAnyH_take (i := 3) (v := ?_) (arr_at rfl) (by kernel_rfl) (by kernel_rfl) (by kernel_rfl) (fun _ _ _ h => h) ?_ (by assumption) ?_
          rotate_left
          · first | (refine Or.inr ⟨by rfl, ?_⟩; with_reducible rfl) | (refine Or.inl ⟨by rfl, ?_⟩; intro w hSw; (try dsimp only at hSw); go_simp; first | done | with_reducible rfl)
          try simp only [Act.put, List.setIfInBounds_toArray, List.set_cons_zero, List.set_cons_succ]
          refine wpAnyH_take (i := 4) (v := ?_) (arr_at rfl) (by kernel_rfl) (by kernel_rfl) (by kernel_rfl) (fun _ _ _ h => h) ?_ (by assumption) ?_
          rotate_left
          · first | (refine Or.inr ⟨by rfl, ?_⟩; with_reducible rfl) | (refine Or.inl ⟨by rfl, ?_⟩; intro w hSw; (try dsimp only at hSw); go_simp; first | done | with_reducible rfl)
          try simp only [Act.put, List.setIfInBounds_toArray, List.set_cons_zero, List.set_cons_succ]
          refine wpAnyH_take (i := 5) (v := ?_) (arr_at rfl) (by kernel_rfl) (by kernel_rfl) (by kernel_rfl) (fun _ _ _ h => h) ?_ (by assumption) ?_
          rotate_left
          · first | (refine Or.inr ⟨by rfl, ?_⟩; with_reducible rfl) | (refine Or.inl ⟨by rfl, ?_⟩; intro w hSw; (try dsimp only at hSw); go_simp; first | done | with_reducible rfl)
          try simp only [Act.put, List.setIfInBounds_toArray, List.set_cons_zero, List.set_cons_succ]
          refine wpAnyH_take (i := 6) (v := ?_) (arr_at rfl) (by kernel_rfl) (by kernel_rfl) (by kernel_rfl) (fun _ _ _ h => h) ?_ (by assumption) ?_
          rotate_left
          · first | (refine Or.inr ⟨by rfl, ?_⟩; with_reducible rfl) | (refine Or.inl ⟨by rfl, ?_⟩; intro w hSw; (try dsimp only at hSw); go_simp; first | done | with_reducible rfl)
          try simp only [Act.put, List.setIfInBounds_toArray, List.set_cons_zero, List.set_cons_succ]
          refine wpAnyH_take (i := 7) (v := ?_) (arr_at rfl) (by kernel_rfl) (by kernel_rfl) (by kernel_rfl) (fun _ _ _ h => h) ?_ (by assumption) ?_
          rotate_left
          · first | (refine Or.inr ⟨by rfl, ?_⟩; with_reducible rfl) | (refine Or.inl ⟨by rfl, ?_⟩; intro w hSw; (try dsimp only at hSw); go_simp; first | done | with_reducible rfl)
          try simp only [Act.put, List.setIfInBounds_toArray, List.set_cons_zero, List.set_cons_succ]
          refine wpAnyH_ready (rs := [8]) (by kernel_rfl) (by simp) ?_
          refine AllReadyH.cons (arr_at rfl) (fun K hK => ?_) AllReadyH.nil
          go_simp
          go_at_call 144; refine (c_sByPort _ _ _ g.tb _ _ HN.out (HA.out _ B) (by omega)).mono ?_; rintro e w2 ⟨rfl, rfl⟩
          refine hK.out _ _ ?_ (fun hHeld => ?_)
          · (try dsimp only); exact ⟨k0.cell 3, k0.cell 4, c0⟩
          clear hK K
          try simp only [Act.put, List.setIfInBounds_toArray, List.set_cons_zero, List.set_cons_succ]
          refine wpAnyH_take (i := 9) (v := ?_) (arr_at rfl) (by kernel_rfl) (by kernel_rfl) (by kernel_rfl) (fun _ _ _ h => h) ?_ (by assumption) ?_
          rotate_left
          · first | (refine Or.inr ⟨by rfl, ?_⟩; with_reducible rfl) | (refine Or.inl ⟨by rfl, ?_⟩; intro w hSw; (try dsimp only at hSw); go_simp; first | done | with_reducible rfl)
          try simp only [Act.put, List.setIfInBounds_toArray, List.set_cons_zero, List.set_cons_succ]
          refine wpAnyH_done (by kernel_rfl) ?_ _
          go_wp2
          go_roundw
          case rel => exact ⟨k + 1, by omega, by go_num, k0, B⟩
          case measure => simp [intOf]; omega
        · have y0 := k0.cell 0; have y1 := k0.cell 1; have y2 := k0.cell 2; have y3 := k0.cell 3; have y4 := k0.cell 4; have y5 := k0.cell 5; have y6 := k0.cell 6; have y7 := k0.cell 7; have hlt := k0.lt; simp only [gtC, List.getElem?_toArray, List.getElem?_cons_zero, List.getElem?_cons_succ] at y0 y1 y2 y3 y4 y5 y6 y7
          go_wp2
          go_ret
          exact ⟨rfl, B⟩
end Go.Proofs.YtjflfhjnbccpmaaGreatDoor
namespace Go.Proofs.YtjflfhjnbccpmaaGreatDoor
open Go.RowKit
theorem Rd.grownN {w w' : World} {A : Option Addr} {vs : List Value} {row : Option Nat} (h : Rd w A vs) (hg : w.grownBy w' row) (hne : ∀ a, A = some a → vs ≠ [] → some a.block ≠ row) : Rd w' A vs := fun k v hk => by
  obtain ⟨b, off, rfl, hb, hc⟩ := h k v hk
  have hx : vs ≠ [] := by rintro rfl; simp at hk
  refine ⟨b, off, rfl, Nat.lt_of_lt_of_le hb hg.size, ?_⟩
  have he := hg.block b hb (hne _ rfl hx)
  rw [← hc]
  unfold World.cell?
  simp only [he]
theorem c_copyPacket (p : Pk) (D : Option Addr) (dc : Nat) (w : World) :
    Calls Tryz.prog 143 #[.agg #[.int .i64 0, .int .i64 p.fa, .int .i64 p.fp, .int .i64 p.ta, .int .i64 p.tp, .slice D 0 dc]] w fun e w' => ∃ D' dc', e = .returned (.agg #[.int .i64 0, .int .i64 p.fa, .int .i64 p.fp, .int .i64 p.ta, .int .i64 p.tp, .slice D' 0 dc']) ∧ Below w.heap.size w w' := by
  have k1 := (Blk.new w 74 #[.int .i64 0, .int .i64 p.fa, .int .i64 p.fp, .int .i64 p.ta, .int .i64 p.tp, .slice D 0 dc]).alloc (.cells #[.int .i64 0, .int .i64 0, .int .i64 0, .int .i64 0, .int .i64 0, .slice none 0 0] 74)
  have k2 := Blk.new (w.alloc (.cells #[.int .i64 0, .int .i64 p.fa, .int .i64 p.fp, .int .i64 p.ta, .int .i64 p.tp, .slice D 0 dc] 74)) 74 #[.int .i64 0, .int .i64 0, .int .i64 0, .int .i64 0, .int .i64 0, .slice none 0 0]
  have B : Below w.heap.size w ((w.alloc (.cells #[.int .i64 0, .int .i64 p.fa, .int .i64 p.fp, .int .i64 p.ta, .int .i64 p.tp, .slice D 0 dc] 74)).alloc (.cells #[.int .i64 0, .int .i64 0, .int .i64 0, .int .i64 0, .int .i64 0, .slice none 0 0] 74)) := ((Below.refl _ _).alloc (Nat.le_refl _) _).alloc (by simp) _
  simp only [World.size_alloc] at k2
  have p0 := k1.cell 0; have p1 := k1.cell 1; have p2 := k1.cell 2; have p3 := k1.cell 3; have p4 := k1.cell 4; have p5 := k1.cell 5; have l1 := k1.lt; simp only [List.getElem?_toArray, List.getElem?_cons_zero, List.getElem?_cons_succ] at p0 p1 p2 p3 p4 p5
  go_enter Tryz.func143, Tryz.ntmps143
  go_wp2_with fail
  refine (c_copyInts D dc [] _ (RI.nil _ _) (by simp)).mono ?_
  rintro e w1 ⟨v, rfl, ho, hq⟩
  obtain ⟨D', dc', rfl, -, -, -⟩ := own_slice ho
  clear ho
  replace k1 := k1.to hq
  replace k2 := k2.to hq
  replace B := Bl.then B hq
  clear p0 p1 p2 p3 p4 p5 l1
  clear hq
  have p0 := k1.cell 0; have p1 := k1.cell 1; have p2 := k1.cell 2; have p3 := k1.cell 3; have p4 := k1.cell 4; have p5 := k1.cell 5; have l1 := k1.lt; simp only [List.getElem?_toArray, List.getElem?_cons_zero, List.getElem?_cons_succ] at p0 p1 p2 p3 p4 p5
  have fp5 := k1.frozen 5
  have hne : w.heap.size + 1 ≠ w.heap.size := by omega
  go_upto_region 2 with fail
  have k1' : Blk (w1.setCell ⟨w.heap.size, 5, none⟩ (.slice D' 0 dc')) w.heap.size 74 #[.int .i64 0, .int .i64 p.fa, .int .i64 p.fp, .int .i64 p.ta, .int .i64 p.tp, .slice D' 0 dc'] := (k1.set_ 5 _)
  have k2' := (k2.far (p := ⟨w.heap.size, 5, none⟩) (by show _ ≠ w.heap.size; exact hne) (.slice D' 0 dc'))
  have B' := (B.setCell (p := ⟨w.heap.size, 5, none⟩) (by show _ ≤ w.heap.size; omega) (.slice D' 0 dc'))
  generalize hwX : (w1.setCell ⟨w.heap.size, 5, none⟩ (.slice D' 0 dc')) = w2 at k1' k2' B' ⊢
  clear hwX k1 k2 B
  have k1 := k1'
  have k2 := k2'
  have B := B'
  clear k1' k2' B'
  clear p0 p1 p2 p3 p4 p5 l1
  clear fp5
  have p0 := k1.cell 0; have p1 := k1.cell 1; have p2 := k1.cell 2; have p3 := k1.cell 3; have p4 := k1.cell 4; have p5 := k1.cell 5; have l1 := k1.lt; simp only [List.getElem?_toArray, List.getElem?_cons_zero, List.getElem?_cons_succ] at p0 p1 p2 p3 p4 p5
  have q0 := k2.cell 0; have q1 := k2.cell 1; have q2 := k2.cell 2; have q3 := k2.cell 3; have q4 := k2.cell 4; have q5 := k2.cell 5; have l2 := k2.lt; simp only [List.getElem?_toArray, List.getElem?_cons_zero, List.getElem?_cons_succ] at q0 q1 q2 q3 q4 q5
  have fq0 := k2.frozen 0; have fq1 := k2.frozen 1; have fq2 := k2.frozen 2; have fq3 := k2.frozen 3; have fq4 := k2.frozen 4; have fq5 := k2.frozen 5
  go_wp2
  clear q0 q1 q2 q3 q4 q5 l2
  obtain ⟨W, e, z, _, hb, _⟩ := put6 k2 (.int .i64 0) (.int .i64 p.fa) (.int .i64 p.fp) (.int .i64 p.ta) (.int .i64 p.tp) (.slice D' 0 dc')
  rw [e]
  clear k2
  have k2 := z
  clear z
  have q0 := k2.cell 0; have q1 := k2.cell 1; have q2 := k2.cell 2; have q3 := k2.cell 3; have q4 := k2.cell 4; have q5 := k2.cell 5; have l2 := k2.lt; simp only [List.getElem?_toArray, List.getElem?_cons_zero, List.getElem?_cons_succ] at q0 q1 q2 q3 q4 q5
  refine bodyPost_ret (v := .agg #[.int .i64 0, .int .i64 p.fa, .int .i64 p.fp, .int .i64 p.ta, .int .i64 p.tp, .slice D' 0 dc']) (by simp [results, Tryz.results143, go_sem, q0, q1, q2, q3, q4, q5]) rfl ?_
  exact ⟨D', dc', rfl, hb B (Nat.le_succ _)⟩
set_option maxHeartbeats 1600000 in
theorem c_copyGate (g : Gt) (A : Option Addr) (n c : Nat) (C : Option Addr) (m d : Nat) (w : World) (hn : g.tb.length = n) (h : TM w A g.tb) (hm : g.cs.length = m) (h' : TK w C g.cs) (hl : n ≤ 1000) (hl' : m ≤ 1000) :
    Calls Tryz.prog 141 #[.agg #[.int .i64 g.ba, .int .i64 g.bi, .int .i64 g.ou, .slice A n c, .slice C m d, .int .i64 g.fi, .int .i64 g.ho, .int .i64 g.no]] w fun e w' => ∃ T c1 T2 c2, e = .returned (.agg #[.int .i64 g.ba, .int .i64 g.bi, .int .i64 g.ou, .slice T n c1, .slice T2 m c2, .int .i64 g.fi, .int .i64 g.ho, .int .i64 g.no]) ∧
      n ≤ c1 ∧ m ≤ c2 ∧ Fr T w.heap.size ∧ TM w' T g.tb ∧ Fr T2 w.heap.size ∧ TK w' T2 g.cs ∧ Below w.heap.size w w' := by
  have HN := Lib.hid hn
  have HM := Lib.hid hm
  have HA : Hid (∀ W, Below w.heap.size w W → TM W A g.tb) := fun W b => h.to b
  have HC : Hid (∀ W, Below w.heap.size w W → TK W C g.cs) := fun W b => h'.to b
  clear hn hm h h'
  have k0 := ((Blk.new w 44 #[.int .i64 g.ba, .int .i64 g.bi, .int .i64 g.ou, .slice A n c, .slice C m d, .int .i64 g.fi, .int .i64 g.ho, .int .i64 g.no]).alloc (.cells #[.int .i64 0, .int .i64 0, .int .i64 0, .slice none 0 0, .slice none 0 0, .int .i64 0, .int .i64 0, .int .i64 0] 44)).alloc (.cells #[] 84)
  have k3 := (Blk.new (w.alloc (.cells #[.int .i64 g.ba, .int .i64 g.bi, .int .i64 g.ou, .slice A n c, .slice C m d, .int .i64 g.fi, .int .i64 g.ho, .int .i64 g.no] 44)) 44 #[.int .i64 0, .int .i64 0, .int .i64 0, .slice none 0 0, .slice none 0 0, .int .i64 0, .int .i64 0, .int .i64 0]).alloc (.cells #[] 84)
  have B : Below w.heap.size w (((w.alloc (.cells #[.int .i64 g.ba, .int .i64 g.bi, .int .i64 g.ou, .slice A n c, .slice C m d, .int .i64 g.fi, .int .i64 g.ho, .int .i64 g.no] 44)).alloc (.cells #[.int .i64 0, .int .i64 0, .int .i64 0, .slice none 0 0, .slice none 0 0, .int .i64 0, .int .i64 0, .int .i64 0] 44)).alloc (.cells #[] 84)) := (((Below.refl _ _).alloc (Nat.le_refl _) _).alloc (by simp) _).alloc (by simp; omega) _
  simp only [World.size_alloc] at k3
  have hoR : (((w.alloc (.cells #[.int .i64 g.ba, .int .i64 g.bi, .int .i64 g.ou, .slice A n c, .slice C m d, .int .i64 g.fi, .int .i64 g.ho, .int .i64 g.no] 44)).alloc (.cells #[.int .i64 0, .int .i64 0, .int .i64 0, .slice none 0 0, .slice none 0 0, .int .i64 0, .int .i64 0, .int .i64 0] 44)).alloc (.cells #[] 84)).ownsRow (w.heap.size + 2) 84 4 (.slice (some ⟨w.heap.size + 1 + 1, 0, none⟩) 0 0) 0 [] := MO.empty (by simp) (by simp)
  have hR := HA.out _ B
  have hnl := mapCs_len g.tb
  rw [HN.out] at hnl
  have hnc := mapCs_one g.tb
  unfold TM at hR
  generalize hnle : mapCs g.tb = nl at hnl hnc hR
  have HNL := Lib.hid hnle
  clear hnle
  have y0 := k0.cell 0; have y1 := k0.cell 1; have y2 := k0.cell 2; have y3 := k0.cell 3; have y4 := k0.cell 4; have y5 := k0.cell 5; have y6 := k0.cell 6; have y7 := k0.cell 7; have l0 := k0.lt; simp only [List.getElem?_toArray, List.getElem?_cons_zero, List.getElem?_cons_succ] at y0 y1 y2 y3 y4 y5 y6 y7
  have f3 := k0.frozen 3
  have hne : w.heap.size + 1 ≠ w.heap.size := by omega
  go_enter Tryz.func141, Tryz.ntmps141
  go_upto_region 2 with (at_builtin; go_must (obtain ⟨i0, hi, hz0, hz1, hz2⟩ := info_parts mapT_info; refine wpList_append_rd _ rfl _ _ 41 rfl (w.heap.size + 2) 84 i0 _ 4 32 Tryz.underlying41 hi hz0 hz1 hz2 rfl (by omega) _ 0 [] rfl hoR A n c nl rfl hR hnl hnc (by unfold maxLen; omega) (by omega) (by first | omega | (simp; done) | (simp; omega)) ?_; intro v1 w5 ho5 hg5 hat5; clear hi hz0 hz1 hz2 hat5; replace ho5 : w5.ownsRow (w.heap.size + 2) 84 4 v1 n nl := (by simpa using ho5); obtain ⟨T, c1, rfl, hc1, hmc1, -⟩ := own_slice ho5; replace B := B.grown hg5 (by first | omega | (simp; done) | (simp; omega)) (fun j hj => by have := (World.ownsRow.lt hoR j hj).1; omega); replace k0 := k0.grown hg5 (by intro e; have e' : w.heap.size = w.heap.size + 1 + 1 := Option.some.inj e; omega); replace k3 := k3.grown hg5 (by intro e; have e' : w.heap.size + 1 = w.heap.size + 1 + 1 := Option.some.inj e; omega); clear y0 y1 y2 y3 y4 y5 y6 y7 l0; clear f3; have y0 := k0.cell 0; have y1 := k0.cell 1; have y2 := k0.cell 2; have y3 := k0.cell 3; have y4 := k0.cell 4; have y5 := k0.cell 5; have y6 := k0.cell 6; have y7 := k0.cell 7; have l0 := k0.lt; simp only [List.getElem?_toArray, List.getElem?_cons_zero, List.getElem?_cons_succ] at y0 y1 y2 y3 y4 y5 y6 y7; have f3 := k0.frozen 3))
  have hFr := own_fr ho5
  have hTab : TM w5 T g.tb := by
    have := Rd.of_ownS ho5
    rw [← HNL.out] at this
    exact this
  clear hoR hR ho5 hg5 hnl hnc HNL
  have k0' : Blk (w5.setCell ⟨w.heap.size, 3, none⟩ (.slice T n c1)) w.heap.size 44 #[.int .i64 g.ba, .int .i64 g.bi, .int .i64 g.ou, .slice T n c1, .slice C m d, .int .i64 g.fi, .int .i64 g.ho, .int .i64 g.no] := (k0.set_ 3 _)
  have k3' := (k3.far (p := ⟨w.heap.size, 3, none⟩) (by show _ ≠ w.heap.size; exact hne) (.slice T n c1))
  have B' := (B.setCell (p := ⟨w.heap.size, 3, none⟩) (by show _ ≤ w.heap.size; omega) (.slice T n c1))
  have hTab' := (Rd.far hTab hFr (p := ⟨w.heap.size, 3, none⟩) (by show w.heap.size < _; omega) (.slice T n c1))
  generalize hwX : (w5.setCell ⟨w.heap.size, 3, none⟩ (.slice T n c1)) = w6 at k0' k3' B' hTab' ⊢
  clear hwX k0 k3 B hTab
  have k0 := k0'
  have k3 := k3'
  have B := B'
  have hTab := hTab'
  clear k0' k3' B' hTab'
  clear y0 y1 y2 y3 y4 y5 y6 y7 l0
  clear f3
  have hl6 := k3.lt
  have hoR : (w6.alloc (.cells #[] 129)).ownsRow w6.heap.size 129 3 (.slice (some ⟨w6.heap.size, 0, none⟩) 0 0) 0 [] := World.ownsRow_made w6 #[] 0 (Nat.le_refl _) (by unfold maxLen; omega) (by simp)
  have hq : Below w6.heap.size w6 (w6.alloc (.cells #[] 129)) := (Below.refl _ _).alloc (Nat.le_refl _) _
  replace k0 := k0.to hq
  replace k3 := k3.to hq
  have hNear := Rd.near hTab
  replace hTab := Rd.to hTab hq
  replace B := Bl.then B hq
  have hR := HC.out _ B
  have hnl := conCs_len g.cs
  rw [HM.out] at hnl
  have hnc := conCs_one g.cs
  unfold TK at hR
  generalize hnle : conCs g.cs = nl at hnl hnc hR
  have HNL := Lib.hid hnle
  clear hnle hq
  have y0 := k0.cell 0; have y1 := k0.cell 1; have y2 := k0.cell 2; have y3 := k0.cell 3; have y4 := k0.cell 4; have y5 := k0.cell 5; have y6 := k0.cell 6; have y7 := k0.cell 7; have l0 := k0.lt; simp only [List.getElem?_toArray, List.getElem?_cons_zero, List.getElem?_cons_succ] at y0 y1 y2 y3 y4 y5 y6 y7
  have f4 := k0.frozen 4
  go_upto_region 3 with (at_builtin; go_must (obtain ⟨i0, hi, hz0, hz1, hz2⟩ := info_parts conT_info; refine wpList_append_rd _ rfl _ _ 42 rfl (w6.heap.size) 129 i0 _ 3 24 Tryz.underlying42 hi hz0 hz1 hz2 rfl (by omega) _ 0 [] rfl hoR C m d nl rfl hR hnl hnc (by unfold maxLen; omega) (by omega) (by first | omega | (simp; done) | (simp; omega)) ?_; intro v1 w7 ho5 hg5 hat5; clear hi hz0 hz1 hz2 hat5; replace ho5 : w7.ownsRow (w6.heap.size) 129 3 v1 m nl := (by simpa using ho5); obtain ⟨T2, c2, rfl, hc2, hmc2, -⟩ := own_slice ho5; replace B := B.grown hg5 (by first | omega | (simp; done) | (simp; omega)) (fun j hj => by have := (World.ownsRow.lt hoR j hj).1; omega); replace k0 := k0.grown hg5 (by intro e; have e' : w.heap.size = w6.heap.size := Option.some.inj e; omega); replace k3 := k3.grown hg5 (by intro e; have e' : w.heap.size + 1 = w6.heap.size := Option.some.inj e; omega); clear y0 y1 y2 y3 y4 y5 y6 y7 l0; clear f4; have y0 := k0.cell 0; have y1 := k0.cell 1; have y2 := k0.cell 2; have y3 := k0.cell 3; have y4 := k0.cell 4; have y5 := k0.cell 5; have y6 := k0.cell 6; have y7 := k0.cell 7; have l0 := k0.lt; simp only [List.getElem?_toArray, List.getElem?_cons_zero, List.getElem?_cons_succ] at y0 y1 y2 y3 y4 y5 y6 y7; have f4 := k0.frozen 4; replace hTab := hTab.grownN hg5 (fun a ha hx => by intro e; have e' : a.block = w6.heap.size := Option.some.inj e; have := hNear a ha hx; omega)))
  have hFc : Fr T2 (w.heap.size + 2) := (own_fr ho5).low (by omega)
  have hCon : TK w7 T2 g.cs := by
    have := Rd.of_ownS ho5
    rw [← HNL.out] at this
    exact this
  clear hoR hR ho5 hg5 hnl hnc HNL
  have k0' : Blk (w7.setCell ⟨w.heap.size, 4, none⟩ (.slice T2 m c2)) w.heap.size 44 #[.int .i64 g.ba, .int .i64 g.bi, .int .i64 g.ou, .slice T n c1, .slice T2 m c2, .int .i64 g.fi, .int .i64 g.ho, .int .i64 g.no] := (k0.set_ 4 _)
  have k3' := (k3.far (p := ⟨w.heap.size, 4, none⟩) (by show _ ≠ w.heap.size; exact hne) (.slice T2 m c2))
  have B' := (B.setCell (p := ⟨w.heap.size, 4, none⟩) (by show _ ≤ w.heap.size; omega) (.slice T2 m c2))
  have hTab' := (Rd.far hTab hFr (p := ⟨w.heap.size, 4, none⟩) (by show w.heap.size < _; omega) (.slice T2 m c2))
  have hCon' := (Rd.far hCon hFc (p := ⟨w.heap.size, 4, none⟩) (by show w.heap.size < _; omega) (.slice T2 m c2))
  generalize hwX : (w7.setCell ⟨w.heap.size, 4, none⟩ (.slice T2 m c2)) = w8 at k0' k3' B' hTab' hCon' ⊢
  clear hwX k0 k3 B hTab hCon
  have k0 := k0'
  have k3 := k3'
  have B := B'
  have hTab := hTab'
  have hCon := hCon'
  clear k0' k3' B' hTab' hCon'
  clear y0 y1 y2 y3 y4 y5 y6 y7 l0
  clear f4
  have y0 := k0.cell 0; have y1 := k0.cell 1; have y2 := k0.cell 2; have y3 := k0.cell 3; have y4 := k0.cell 4; have y5 := k0.cell 5; have y6 := k0.cell 6; have y7 := k0.cell 7; have l0 := k0.lt; simp only [List.getElem?_toArray, List.getElem?_cons_zero, List.getElem?_cons_succ] at y0 y1 y2 y3 y4 y5 y6 y7
  have z0 := k3.cell 0; have z1 := k3.cell 1; have z2 := k3.cell 2; have z3 := k3.cell 3; have z4 := k3.cell 4; have z5 := k3.cell 5; have z6 := k3.cell 6; have z7 := k3.cell 7; have l3 := k3.lt; simp only [List.getElem?_toArray, List.getElem?_cons_zero, List.getElem?_cons_succ] at z0 z1 z2 z3 z4 z5 z6 z7
  have fz0 := k3.frozen 0; have fz1 := k3.frozen 1; have fz2 := k3.frozen 2; have fz3 := k3.frozen 3; have fz4 := k3.frozen 4; have fz5 := k3.frozen 5; have fz6 := k3.frozen 6; have fz7 := k3.frozen 7
  go_wp2
  clear z0 z1 z2 z3 z4 z5 z6 z7 l3
  obtain ⟨W, e, z, _, hb, hrr⟩ := put8 k3 (.int .i64 g.ba) (.int .i64 g.bi) (.int .i64 g.ou) (.slice T n c1) (.slice T2 m c2) (.int .i64 g.fi) (.int .i64 g.ho) (.int .i64 g.no)
  rw [e]
  clear k3
  have k3 := z
  clear z
  have z0 := k3.cell 0; have z1 := k3.cell 1; have z2 := k3.cell 2; have z3 := k3.cell 3; have z4 := k3.cell 4; have z5 := k3.cell 5; have z6 := k3.cell 6; have z7 := k3.cell 7; have l3 := k3.lt; simp only [List.getElem?_toArray, List.getElem?_cons_zero, List.getElem?_cons_succ] at z0 z1 z2 z3 z4 z5 z6 z7
  refine bodyPost_ret (v := .agg #[.int .i64 g.ba, .int .i64 g.bi, .int .i64 g.ou, .slice T n c1, .slice T2 m c2, .int .i64 g.fi, .int .i64 g.ho, .int .i64 g.no]) (by simp [results, Tryz.results141, go_sem, z0, z1, z2, z3, z4, z5, z6, z7]) rfl ?_
  exact ⟨T, c1, T2, c2, rfl, hc1, hc2, hFr.low (by omega), hrr.1 hTab hFr (by omega), hFc.low (by omega), hrr.1 hCon hFc (by omega), hb B (by omega)⟩
end Go.Proofs.YtjflfhjnbccpmaaGreatDoor
