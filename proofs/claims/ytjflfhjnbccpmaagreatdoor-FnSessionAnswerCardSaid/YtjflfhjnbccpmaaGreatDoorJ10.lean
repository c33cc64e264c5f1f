/- Joined: W15, W16. -/
import Derived.Test.YtjflfhjnbccpmaaGreatDoorJ9
set_option linter.unusedVariables false
set_option linter.unusedSimpArgs false
namespace Go.Proofs.YtjflfhjnbccpmaaGreatDoor
open Go.RowKit
set_option maxHeartbeats 3200000 in
theorem c_sSend (g : Gt) (p : Pk) (A : Option Addr) (n c : Nat) (C : Option Addr) (m d : Nat) (D : Option Addr) (dc : Nat) (w : World) (hv : vGate g = true) (hp : vPk p = true) (hn : g.tb.length = n) (h : TM w A g.tb) (hm : g.cs.length = m) (h' : TK w C g.cs) :
    Calls Tryz.prog 83 #[.agg #[.int .i64 g.ba, .int .i64 g.bi, .int .i64 g.ou, .slice A n c, .slice C m d, .int .i64 g.fi, .int .i64 g.ho, .int .i64 g.no], .agg #[.int .i64 0, .int .i64 p.fa, .int .i64 p.fp, .int .i64 p.ta, .int .i64 p.tp, .slice D 0 dc]] w (FwdR (sendG g p) w) := by

  have hfp0 : 0 ≤ p.fp := (pk_nums hp).2.1.1
  have HSG : Hid (sendG g p = match mapT g.tb n p.fa p.fp g.no with | none => none | some (tb, port) => some ({ p with fa := g.ou, fp := port }, { g with tb := tb, cs := noteC g.cs ⟨port, p.ta, p.tp⟩ })) := by unfold sendG; rw [hn]; rfl
  have HN := Lib.hid hn
  have HM := Lib.hid hm
  have HA : Hid (∀ W, Below w.heap.size w W → TM W A g.tb) := fun W b => h.to b
  have HC : Hid (∀ W, Below w.heap.size w W → TK W C g.cs) := fun W b => h'.to b
  have HV := Lib.hid hv
  have HP := Lib.hid hp
  have HG := Lib.hid (gate_nums hv)
  have hn8 : n ≤ 8 := hn ▸ tab_len (gate_tab hv)
  have hm10 : m ≤ 10 := hm ▸ con_len (gate_con hv)
  clear hn hm h h' hv hp
  have k0 := (((Blk.new w 44 #[.int .i64 g.ba, .int .i64 g.bi, .int .i64 g.ou, .slice A n c, .slice C m d, .int .i64 g.fi, .int .i64 g.ho, .int .i64 g.no]).alloc (.cells #[.int .i64 0, .int .i64 p.fa, .int .i64 p.fp, .int .i64 p.ta, .int .i64 p.tp, .slice D 0 dc] 74)).alloc (.cells #[.int .i64 0, .int .i64 0, .int .i64 0, .int .i64 0, .int .i64 0, .slice none 0 0] 74)).alloc (.cells #[.int .i64 0, .int .i64 0, .int .i64 0, .slice none 0 0, .slice none 0 0, .int .i64 0, .int .i64 0, .int .i64 0] 44)
  have k1 := ((Blk.new (w.alloc (.cells #[.int .i64 g.ba, .int .i64 g.bi, .int .i64 g.ou, .slice A n c, .slice C m d, .int .i64 g.fi, .int .i64 g.ho, .int .i64 g.no] 44)) 74 #[.int .i64 0, .int .i64 p.fa, .int .i64 p.fp, .int .i64 p.ta, .int .i64 p.tp, .slice D 0 dc]).alloc (.cells #[.int .i64 0, .int .i64 0, .int .i64 0, .int .i64 0, .int .i64 0, .slice none 0 0] 74)).alloc (.cells #[.int .i64 0, .int .i64 0, .int .i64 0, .slice none 0 0, .slice none 0 0, .int .i64 0, .int .i64 0, .int .i64 0] 44)
  have k2 := (Blk.new ((w.alloc (.cells #[.int .i64 g.ba, .int .i64 g.bi, .int .i64 g.ou, .slice A n c, .slice C m d, .int .i64 g.fi, .int .i64 g.ho, .int .i64 g.no] 44)).alloc (.cells #[.int .i64 0, .int .i64 p.fa, .int .i64 p.fp, .int .i64 p.ta, .int .i64 p.tp, .slice D 0 dc] 74)) 74 #[.int .i64 0, .int .i64 0, .int .i64 0, .int .i64 0, .int .i64 0, .slice none 0 0]).alloc (.cells #[.int .i64 0, .int .i64 0, .int .i64 0, .slice none 0 0, .slice none 0 0, .int .i64 0, .int .i64 0, .int .i64 0] 44)
  have k3 := Blk.new (((w.alloc (.cells #[.int .i64 g.ba, .int .i64 g.bi, .int .i64 g.ou, .slice A n c, .slice C m d, .int .i64 g.fi, .int .i64 g.ho, .int .i64 g.no] 44)).alloc (.cells #[.int .i64 0, .int .i64 p.fa, .int .i64 p.fp, .int .i64 p.ta, .int .i64 p.tp, .slice D 0 dc] 74)).alloc (.cells #[.int .i64 0, .int .i64 0, .int .i64 0, .int .i64 0, .int .i64 0, .slice none 0 0] 74)) 44 #[.int .i64 0, .int .i64 0, .int .i64 0, .slice none 0 0, .slice none 0 0, .int .i64 0, .int .i64 0, .int .i64 0]
  have B : Below w.heap.size w ((((w.alloc (.cells #[.int .i64 g.ba, .int .i64 g.bi, .int .i64 g.ou, .slice A n c, .slice C m d, .int .i64 g.fi, .int .i64 g.ho, .int .i64 g.no] 44)).alloc (.cells #[.int .i64 0, .int .i64 p.fa, .int .i64 p.fp, .int .i64 p.ta, .int .i64 p.tp, .slice D 0 dc] 74)).alloc (.cells #[.int .i64 0, .int .i64 0, .int .i64 0, .int .i64 0, .int .i64 0, .slice none 0 0] 74)).alloc (.cells #[.int .i64 0, .int .i64 0, .int .i64 0, .slice none 0 0, .slice none 0 0, .int .i64 0, .int .i64 0, .int .i64 0] 44)) := ((((Below.refl _ _).alloc (Nat.le_refl _) _).alloc (by simp) _).alloc (by simp; omega) _).alloc (by simp; omega) _
  simp only [World.size_alloc] at k1 k2 k3
  have y0 := k0.cell 0; have y1 := k0.cell 1; have y2 := k0.cell 2; have y3 := k0.cell 3; have y4 := k0.cell 4; have y5 := k0.cell 5; have y6 := k0.cell 6; have y7 := k0.cell 7; have l0 := k0.lt; simp only [List.getElem?_toArray, List.getElem?_cons_zero, List.getElem?_cons_succ] at y0 y1 y2 y3 y4 y5 y6 y7
  have p0 := k1.cell 0; have p1 := k1.cell 1; have p2 := k1.cell 2; have p3 := k1.cell 3; have p4 := k1.cell 4; have p5 := k1.cell 5; have l1 := k1.lt; simp only [List.getElem?_toArray, List.getElem?_cons_zero, List.getElem?_cons_succ] at p0 p1 p2 p3 p4 p5
  go_enter Tryz.func83, Tryz.ntmps83
  go_wp2_with fail
  refine (c_mapEnd A n c g.tb p.fa p.fp g.no _ HN.out (HA.out _ B) (by omega) hfp0).mono ?_
  rintro e w1 ⟨hq, hE⟩
  have hbase : w.heap.size + 4 ≤ ((((w.alloc (.cells #[.int .i64 g.ba, .int .i64 g.bi, .int .i64 g.ou, .slice A n c, .slice C m d, .int .i64 g.fi, .int .i64 g.ho, .int .i64 g.no] 44)).alloc (.cells #[.int .i64 0, .int .i64 p.fa, .int .i64 p.fp, .int .i64 p.ta, .int .i64 p.tp, .slice D 0 dc] 74)).alloc (.cells #[.int .i64 0, .int .i64 0, .int .i64 0, .int .i64 0, .int .i64 0, .slice none 0 0] 74)).alloc (.cells #[.int .i64 0, .int .i64 0, .int .i64 0, .slice none 0 0, .slice none 0 0, .int .i64 0, .int .i64 0, .int .i64 0] 44)).heap.size := by simp
  cases hmt : mapT g.tb n p.fa p.fp g.no with
  | none =>
    rw [hmt] at hE HSG
    obtain rfl := hE
    clear hbase hmt
    clear y0 y1 y2 y3 y4 y5 y6 y7 l0
    clear p0 p1 p2 p3 p4 p5 l1
    replace k0 := k0.to hq; replace k1 := k1.to hq; replace k2 := k2.to hq; replace k3 := k3.to hq; replace B := Bl.then B hq; clear hq
    have q0 := k2.cell 0; have q1 := k2.cell 1; have q2 := k2.cell 2; have q3 := k2.cell 3; have q4 := k2.cell 4; have q5 := k2.cell 5; have l2 := k2.lt; simp only [List.getElem?_toArray, List.getElem?_cons_zero, List.getElem?_cons_succ] at q0 q1 q2 q3 q4 q5
    have z0 := k3.cell 0; have z1 := k3.cell 1; have z2 := k3.cell 2; have z3 := k3.cell 3; have z4 := k3.cell 4; have z5 := k3.cell 5; have z6 := k3.cell 6; have z7 := k3.cell 7; have l3 := k3.lt; simp only [List.getElem?_toArray, List.getElem?_cons_zero, List.getElem?_cons_succ] at z0 z1 z2 z3 z4 z5 z6 z7
    have fq0 := k2.frozen 0; have fq1 := k2.frozen 1; have fq2 := k2.frozen 2; have fq3 := k2.frozen 3; have fq4 := k2.frozen 4; have fq5 := k2.frozen 5
    have fz0 := k3.frozen 0; have fz1 := k3.frozen 1; have fz2 := k3.frozen 2; have fz3 := k3.frozen 3; have fz4 := k3.frozen 4; have fz5 := k3.frozen 5; have fz6 := k3.frozen 6; have fz7 := k3.frozen 7
    go_wp2
    clear q0 q1 q2 q3 q4 q5 l2 z0 z1 z2 z3 z4 z5 z6 z7 l3 fq0 fq1 fq2 fq3 fq4 fq5 fz0 fz1 fz2 fz3 fz4 fz5 fz6 fz7
    obtain ⟨W5, e5, z5, hf5, hb5, hr5⟩ := put6 k2 (.int .i64 0) (.int .i64 0) (.int .i64 0) (.int .i64 0) (.int .i64 0) (.slice none 0 0)
    rw [e5]
    replace k3 := hf5 k3 (by omega)
    replace B := hb5 B (by omega)
    obtain ⟨W6, e6, z6, hf6, hb6, hr6⟩ := put8 k3 (.int .i64 0) (.int .i64 0) (.int .i64 0) (.slice none 0 0) (.slice none 0 0) (.int .i64 0) (.int .i64 0) (.int .i64 0)
    rw [e6]
    replace k2 := hf6 z5 (by omega)
    replace B := hb6 B (by omega)
    replace k3 := z6
    clear e5 e6 hf5 hb5 hr5 hf6 hb6 hr6 z5 z6
    have q0 := k2.cell 0; have q1 := k2.cell 1; have q2 := k2.cell 2; have q3 := k2.cell 3; have q4 := k2.cell 4; have q5 := k2.cell 5; have l2 := k2.lt; simp only [List.getElem?_toArray, List.getElem?_cons_zero, List.getElem?_cons_succ] at q0 q1 q2 q3 q4 q5
    have z0 := k3.cell 0; have z1 := k3.cell 1; have z2 := k3.cell 2; have z3 := k3.cell 3; have z4 := k3.cell 4; have z5 := k3.cell 5; have z6 := k3.cell 6; have z7 := k3.cell 7; have l3 := k3.lt; simp only [List.getElem?_toArray, List.getElem?_cons_zero, List.getElem?_cons_succ] at z0 z1 z2 z3 z4 z5 z6 z7
    refine bodyPost_ret (v := .tuple #[.agg #[.int .i64 0, .int .i64 0, .int .i64 0, .int .i64 0, .int .i64 0, .slice none 0 0], .agg #[.int .i64 0, .int .i64 0, .int .i64 0, .slice none 0 0, .slice none 0 0, .int .i64 0, .int .i64 0, .int .i64 0], .bool false]) (by simp [results, Tryz.results83, go_sem, q0, q1, q2, q3, q4, q5, z0, z1, z2, z3, z4, z5, z6, z7]) rfl ?_
    exact ⟨B, pk0, gt0, none, 0, none, 0, 0, none, 0, 0, false, rfl, HSG.out, rfl, Nat.le_refl _, Fr.none _, TM.nil _ _, rfl, Nat.le_refl _, Fr.none _, TK.nil _ _⟩
  | some r =>
    obtain ⟨tb, port⟩ := r
    rw [hmt] at hE HSG
    obtain ⟨v, rfl, ho⟩ := hE
    obtain ⟨A', cc, rfl, hcc, -, hfr0⟩ := ho.slice
    obtain ⟨mm, hlen⟩ : ∃ mm, tb.length = mm := ⟨_, rfl⟩
    have hTab : TM w1 A' tb := ho.tm rfl
    have hFr : Fr A' (w.heap.size + 4) := fun a ha => Nat.le_trans hbase (hfr0 a ha).1
    rw [hlen] at hcc
    have HLT := Lib.hid hlen
    rw [hlen]
    have hNear := Rd.near hTab
    clear hbase hmt hlen ho hfr0
    clear y0 y1 y2 y3 y4 y5 y6 y7 l0
    clear p0 p1 p2 p3 p4 p5 l1
    replace k0 := k0.to hq; replace k1 := k1.to hq; replace k2 := k2.to hq; replace k3 := k3.to hq; replace B := Bl.then B hq; clear hq
    have hw1 := k3.lt
    have y0 := k0.cell 0; have y1 := k0.cell 1; have y2 := k0.cell 2; have y3 := k0.cell 3; have y4 := k0.cell 4; have y5 := k0.cell 5; have y6 := k0.cell 6; have y7 := k0.cell 7; have l0 := k0.lt; simp only [List.getElem?_toArray, List.getElem?_cons_zero, List.getElem?_cons_succ] at y0 y1 y2 y3 y4 y5 y6 y7
    have p0 := k1.cell 0; have p1 := k1.cell 1; have p2 := k1.cell 2; have p3 := k1.cell 3; have p4 := k1.cell 4; have p5 := k1.cell 5; have l1 := k1.lt; simp only [List.getElem?_toArray, List.getElem?_cons_zero, List.getElem?_cons_succ] at p0 p1 p2 p3 p4 p5
    go_wp2_with fail
    refine (c_copyGate g A n c C m d _ HN.out (HA.out _ B) HM.out (HC.out _ B) (by omega) (by omega)).mono ?_
    rintro e w5 ⟨T, c1, T2, c2, rfl, -, hc2, -, -, -, -, hq⟩
    clear y0 y1 y2 y3 y4 y5 y6 y7 l0
    clear p0 p1 p2 p3 p4 p5 l1
    have hsz := hq.size
    replace hTab := Rd.to hTab hq
    replace k0 := k0.to hq; replace k1 := k1.to hq; replace k2 := k2.to hq; replace k3 := k3.to hq; replace B := Bl.then B hq; clear hq
    have y0 := k0.cell 0; have y1 := k0.cell 1; have y2 := k0.cell 2; have y3 := k0.cell 3; have y4 := k0.cell 4; have y5 := k0.cell 5; have y6 := k0.cell 6; have y7 := k0.cell 7; have l0 := k0.lt; simp only [List.getElem?_toArray, List.getElem?_cons_zero, List.getElem?_cons_succ] at y0 y1 y2 y3 y4 y5 y6 y7
    have p0 := k1.cell 0; have p1 := k1.cell 1; have p2 := k1.cell 2; have p3 := k1.cell 3; have p4 := k1.cell 4; have p5 := k1.cell 5; have l1 := k1.lt; simp only [List.getElem?_toArray, List.getElem?_cons_zero, List.getElem?_cons_succ] at p0 p1 p2 p3 p4 p5
    have kg := Blk.new w5 44 #[.int .i64 g.ba, .int .i64 g.bi, .int .i64 g.ou, .slice A' mm cc, .slice T2 m c2, .int .i64 g.fi, .int .i64 g.ho, .int .i64 g.no]
    have hq : Below w5.heap.size w5 (w5.alloc (.cells #[.int .i64 g.ba, .int .i64 g.bi, .int .i64 g.ou, .slice A' mm cc, .slice T2 m c2, .int .i64 g.fi, .int .i64 g.ho, .int .i64 g.no] 44)) := (Below.refl _ _).alloc (Nat.le_refl _) _
    have B5 := Bl.then B hq
    go_wp2_with fail
    refine (c_note C m d g.cs ⟨port, p.ta, p.tp⟩ _ HM.out (HC.out _ B5) hm10).mono ?_
    rintro e w7 ⟨A2, k, c9, rfl, hkc, hlk, hFc, hCon, hq2⟩
    have HLK := Lib.hid hlk
    clear hlk B5
    replace hTab := Rd.to hTab hq
    clear y0 y1 y2 y3 y4 y5 y6 y7 l0
    clear p0 p1 p2 p3 p4 p5 l1
    replace k0 := k0.to hq; replace k1 := k1.to hq; replace k2 := k2.to hq; replace k3 := k3.to hq; replace B := Bl.then B hq; clear hq
    have hq := hq2
    clear hq2
    obtain ⟨b11, hb11⟩ : ∃ b, w5.heap.size = b := ⟨_, rfl⟩
    rw [hb11] at kg hsz ⊢
    have hlw := kg.lt
    generalize w5.alloc (.cells #[.int .i64 g.ba, .int .i64 g.bi, .int .i64 g.ou, .slice A' mm cc, .slice T2 m c2, .int .i64 g.fi, .int .i64 g.ho, .int .i64 g.no] 44) = w6 at *
    replace kg := kg.to hq
    replace hTab := Rd.to hTab hq
    replace k0 := k0.to hq; replace k1 := k1.to hq; replace k2 := k2.to hq; replace k3 := k3.to hq; replace B := Bl.then B hq; clear hq
    have e4 := kg.cell 4
    have f4 := kg.frozen 4
    have hlg := kg.lt
    simp only [List.getElem?_toArray, List.getElem?_cons_zero, List.getElem?_cons_succ] at e4
    go_upto_region 7 with fail
    have kg' : Blk (w7.setCell ⟨b11, 4, none⟩ (.slice A2 k c9)) b11 44 #[.int .i64 g.ba, .int .i64 g.bi, .int .i64 g.ou, .slice A' mm cc, .slice A2 k c9, .int .i64 g.fi, .int .i64 g.ho, .int .i64 g.no] := (kg.set_ 4 _)
    have k0' := (k0.far (p := ⟨b11, 4, none⟩) (by show _ ≠ b11; omega) (.slice A2 k c9))
    have k1' := (k1.far (p := ⟨b11, 4, none⟩) (by show _ ≠ b11; omega) (.slice A2 k c9))
    have k2' := (k2.far (p := ⟨b11, 4, none⟩) (by show _ ≠ b11; omega) (.slice A2 k c9))
    have k3' := (k3.far (p := ⟨b11, 4, none⟩) (by show _ ≠ b11; omega) (.slice A2 k c9))
    have B' := (B.setCell (p := ⟨b11, 4, none⟩) (by show _ ≤ b11; omega) (.slice A2 k c9))
    have hTab' := (Rd.apart hTab (p := ⟨b11, 4, none⟩) (fun a ha hx => by have := hNear a ha hx; show _ ≠ b11; omega) (.slice A2 k c9))
    have hCon' := (Rd.far hCon hFc (p := ⟨b11, 4, none⟩) (by show b11 < _; omega) (.slice A2 k c9))
    generalize hwX : (w7.setCell ⟨b11, 4, none⟩ (.slice A2 k c9)) = w8 at kg' k0' k1' k2' k3' B' hTab' hCon' ⊢
    clear hwX kg k0 k1 k2 k3 B hTab hCon
    have kg := kg'
    have k0 := k0'
    have k1 := k1'
    have k2 := k2'
    have k3 := k3'
    have B := B'
    have hTab := hTab'
    have hCon := hCon'
    clear kg' k0' k1' k2' k3' B' hTab' hCon'
    clear e4 f4 hlg
    have y0 := k0.cell 0; have y1 := k0.cell 1; have y2 := k0.cell 2; have y3 := k0.cell 3; have y4 := k0.cell 4; have y5 := k0.cell 5; have y6 := k0.cell 6; have y7 := k0.cell 7; have l0 := k0.lt; simp only [List.getElem?_toArray, List.getElem?_cons_zero, List.getElem?_cons_succ] at y0 y1 y2 y3 y4 y5 y6 y7
    have p0 := k1.cell 0; have p1 := k1.cell 1; have p2 := k1.cell 2; have p3 := k1.cell 3; have p4 := k1.cell 4; have p5 := k1.cell 5; have l1 := k1.lt; simp only [List.getElem?_toArray, List.getElem?_cons_zero, List.getElem?_cons_succ] at p0 p1 p2 p3 p4 p5
    go_wp2_with fail
    refine (c_copyPacket p D dc _).mono ?_
    rintro e w9 ⟨D', dc', rfl, hq⟩
    clear y0 y1 y2 y3 y4 y5 y6 y7 l0
    clear p0 p1 p2 p3 p4 p5 l1
    have hlg := kg.lt
    replace kg := kg.to hq
    have hszq := hq.size
    replace hTab := Rd.to hTab hq
    replace hCon := Rd.to hCon hq
    replace k0 := k0.to hq; replace k1 := k1.to hq; replace k2 := k2.to hq; replace k3 := k3.to hq; replace B := Bl.then B hq; clear hq
    have y0 := k0.cell 0; have y1 := k0.cell 1; have y2 := k0.cell 2; have y3 := k0.cell 3; have y4 := k0.cell 4; have y5 := k0.cell 5; have y6 := k0.cell 6; have y7 := k0.cell 7; have l0 := k0.lt; simp only [List.getElem?_toArray, List.getElem?_cons_zero, List.getElem?_cons_succ] at y0 y1 y2 y3 y4 y5 y6 y7
    have p0 := k1.cell 0; have p1 := k1.cell 1; have p2 := k1.cell 2; have p3 := k1.cell 3; have p4 := k1.cell 4; have p5 := k1.cell 5; have l1 := k1.lt; simp only [List.getElem?_toArray, List.getElem?_cons_zero, List.getElem?_cons_succ] at p0 p1 p2 p3 p4 p5
    go_upto_region 9 with fail
    have kp := Blk.new w9 74 #[.int .i64 0, .int .i64 g.ou, .int .i64 port, .int .i64 p.ta, .int .i64 p.tp, .slice D' 0 dc']
    have hq : Below w9.heap.size w9 (w9.alloc (.cells #[.int .i64 0, .int .i64 g.ou, .int .i64 port, .int .i64 p.ta, .int .i64 p.tp, .slice D' 0 dc'] 74)) := (Below.refl _ _).alloc (Nat.le_refl _) _
    obtain ⟨b10, hb10⟩ : ∃ b, w9.heap.size = b := ⟨_, rfl⟩
    rw [hb10] at kp ⊢
    have hlp : b11 < b10 := by have := kg.lt; omega
    replace kg := kg.to hq
    replace hTab := Rd.to hTab hq
    replace hCon := Rd.to hCon hq
    clear y0 y1 y2 y3 y4 y5 y6 y7 l0
    clear p0 p1 p2 p3 p4 p5 l1
    replace k0 := k0.to hq; replace k1 := k1.to hq; replace k2 := k2.to hq; replace k3 := k3.to hq; replace B := Bl.then B hq; clear hq
    generalize w9.alloc (.cells #[.int .i64 0, .int .i64 g.ou, .int .i64 port, .int .i64 p.ta, .int .i64 p.tp, .slice D' 0 dc'] 74) = wz at *
    have hq : Below wz.heap.size wz wz.drew := Bl.of_drewN wz 1
    replace kp := kp.to hq
    replace kg := kg.to hq
    replace hTab := Rd.to hTab hq
    replace hCon := Rd.to hCon hq
    replace k0 := k0.to hq; replace k1 := k1.to hq; replace k2 := k2.to hq; replace k3 := k3.to hq; replace B := Bl.then B hq; clear hq
    go_wp2_with fail
    refine wp_region_held_drew (S := (fun w' => w'.cell? ⟨b10, 0, none⟩ = some (.int .i64 0) ∧ w'.cell? ⟨b10, 1, none⟩ = some (.int .i64 g.ou) ∧ w'.cell? ⟨b10, 2, none⟩ = some (.int .i64 port) ∧ w'.cell? ⟨b10, 3, none⟩ = some (.int .i64 p.ta) ∧ w'.cell? ⟨b10, 4, none⟩ = some (.int .i64 p.tp) ∧ w'.cell? ⟨b10, 5, none⟩ = some (.slice D' 0 dc') ∧ w'.cell? ⟨b11, 0, none⟩ = some (.int .i64 g.ba) ∧ w'.cell? ⟨b11, 1, none⟩ = some (.int .i64 g.bi) ∧ w'.cell? ⟨b11, 2, none⟩ = some (.int .i64 g.ou) ∧ w'.cell? ⟨b11, 3, none⟩ = some (.slice A' mm cc) ∧ w'.cell? ⟨b11, 4, none⟩ = some (.slice A2 k c9) ∧ w'.cell? ⟨b11, 5, none⟩ = some (.int .i64 g.fi) ∧ w'.cell? ⟨b11, 6, none⟩ = some (.int .i64 g.ho) ∧ w'.cell? ⟨b11, 7, none⟩ = some (.int .i64 g.no))) (by kernel_rfl) ?_ (fun hHeld => ?_)
    · (try dsimp only); exact ⟨kp.cell 0, kp.cell 1, kp.cell 2, kp.cell 3, kp.cell 4, kp.cell 5, kg.cell 0, kg.cell 1, kg.cell 2, kg.cell 3, kg.cell 4, kg.cell 5, kg.cell 6, kg.cell 7⟩
    generalize World.drew wz = wy at *
    refine wpAnyH_take (i := 0) (v := ?_) (arr_at rfl) (by kernel_rfl) (by kernel_rfl) (by kernel_rfl) (fun _ _ _ h => h) ?_ (by assumption) ?_
    rotate_left
    · first | (refine Or.inr ⟨by rfl, ?_⟩; with_reducible rfl) | (refine Or.inl ⟨by rfl, ?_⟩; intro w hSw; (try dsimp only at hSw); go_simp; first | done | with_reducible rfl)
    try simp only [Act.put, List.setIfInBounds_toArray, List.set_cons_zero, List.set_cons_succ]
    refine wpAnyH_take (i := 1) (v := ?_) (arr_at rfl) (by kernel_rfl) (by kernel_rfl) (by kernel_rfl) (fun _ _ _ h => h) ?_ (by assumption) ?_
    rotate_left
    · first | (refine Or.inr ⟨by rfl, ?_⟩; with_reducible rfl) | (refine Or.inl ⟨by rfl, ?_⟩; intro w hSw; (try dsimp only at hSw); go_simp; first | done | with_reducible rfl)
    try simp only [Act.put, List.setIfInBounds_toArray, List.set_cons_zero, List.set_cons_succ]
    refine wpAnyH_ready (rs := [2]) (by kernel_rfl) (by simp) ?_
    refine AllReadyH.cons (arr_at rfl) (fun K hK => ?_) AllReadyH.nil
    have q0 := k2.cell 0; have q1 := k2.cell 1; have q2 := k2.cell 2; have q3 := k2.cell 3; have q4 := k2.cell 4; have q5 := k2.cell 5; have l2 := k2.lt; simp only [List.getElem?_toArray, List.getElem?_cons_zero, List.getElem?_cons_succ] at q0 q1 q2 q3 q4 q5; have fq0 := k2.frozen 0; have fq1 := k2.frozen 1; have fq2 := k2.frozen 2; have fq3 := k2.frozen 3; have fq4 := k2.frozen 4; have fq5 := k2.frozen 5; go_simp; clear q0 q1 q2 q3 q4 q5 fq0 fq1 fq2 fq3 fq4 fq5 l2; obtain ⟨W3, e, z, hf, hb, hr⟩ := put6 k2 (.int .i64 0) (.int .i64 g.ou) (.int .i64 port) (.int .i64 p.ta) (.int .i64 p.tp) (.slice D' 0 dc'); rw [e]; clear e; replace k3 := hf k3 (by omega); replace kp := hf kp (by omega); replace kg := hf kg (by omega); replace B := hb B (by omega); replace hTab := hr.1 hTab hFr (by omega); replace hCon := hr.1 hCon hFc (by omega); replace k2 := z; clear z hf hb hr
    refine hK.out _ _ ?_ (fun hHeld => ?_)
    · (try dsimp only); exact ⟨kp.cell 0, kp.cell 1, kp.cell 2, kp.cell 3, kp.cell 4, kp.cell 5, kg.cell 0, kg.cell 1, kg.cell 2, kg.cell 3, kg.cell 4, kg.cell 5, kg.cell 6, kg.cell 7⟩
    clear hK K
    try simp only [Act.put, List.setIfInBounds_toArray, List.set_cons_zero, List.set_cons_succ]
    refine wpAnyH_ready (rs := [3]) (by kernel_rfl) (by simp) ?_
    refine AllReadyH.cons (arr_at rfl) (fun K hK => ?_) AllReadyH.nil
    have z0 := k3.cell 0; have z1 := k3.cell 1; have z2 := k3.cell 2; have z3 := k3.cell 3; have z4 := k3.cell 4; have z5 := k3.cell 5; have z6 := k3.cell 6; have z7 := k3.cell 7; have l3 := k3.lt; simp only [List.getElem?_toArray, List.getElem?_cons_zero, List.getElem?_cons_succ] at z0 z1 z2 z3 z4 z5 z6 z7; have fz0 := k3.frozen 0; have fz1 := k3.frozen 1; have fz2 := k3.frozen 2; have fz3 := k3.frozen 3; have fz4 := k3.frozen 4; have fz5 := k3.frozen 5; have fz6 := k3.frozen 6; have fz7 := k3.frozen 7; go_simp; clear z0 z1 z2 z3 z4 z5 z6 z7 fz0 fz1 fz2 fz3 fz4 fz5 fz6 fz7 l3; obtain ⟨W4, e, z, hf, hb, hr⟩ := put8 k3 (.int .i64 g.ba) (.int .i64 g.bi) (.int .i64 g.ou) (.slice A' mm cc) (.slice A2 k c9) (.int .i64 g.fi) (.int .i64 g.ho) (.int .i64 g.no); rw [e]; clear e; replace k2 := hf k2 (by omega); replace kp := hf kp (by omega); replace kg := hf kg (by omega); replace B := hb B (by omega); replace hTab := hr.1 hTab hFr (by omega); replace hCon := hr.1 hCon hFc (by omega); replace k3 := z; clear z hf hb hr
    refine hK.out _ _ ?_ (fun hHeld => ?_)
    · (try dsimp only); exact ⟨kp.cell 0, kp.cell 1, kp.cell 2, kp.cell 3, kp.cell 4, kp.cell 5, kg.cell 0, kg.cell 1, kg.cell 2, kg.cell 3, kg.cell 4, kg.cell 5, kg.cell 6, kg.cell 7⟩
    clear hK K
    try simp only [Act.put, List.setIfInBounds_toArray, List.set_cons_zero, List.set_cons_succ]
    refine wpAnyH_take (i := 4) (v := ?_) (arr_at rfl) (by kernel_rfl) (by kernel_rfl) (by kernel_rfl) (fun _ _ _ h => h) ?_ (by assumption) ?_
    rotate_left
    · first | (refine Or.inr ⟨by rfl, ?_⟩; with_reducible rfl) | (refine Or.inl ⟨by rfl, ?_⟩; intro w hSw; (try dsimp only at hSw); go_simp; first | done | with_reducible rfl)
    try simp only [Act.put, List.setIfInBounds_toArray, List.set_cons_zero, List.set_cons_succ]
    refine wpAnyH_done (by kernel_rfl) ?_ _
    go_wp2
    have q0 := k2.cell 0; have q1 := k2.cell 1; have q2 := k2.cell 2; have q3 := k2.cell 3; have q4 := k2.cell 4; have q5 := k2.cell 5; have l2 := k2.lt; simp only [List.getElem?_toArray, List.getElem?_cons_zero, List.getElem?_cons_succ] at q0 q1 q2 q3 q4 q5
    have z0 := k3.cell 0; have z1 := k3.cell 1; have z2 := k3.cell 2; have z3 := k3.cell 3; have z4 := k3.cell 4; have z5 := k3.cell 5; have z6 := k3.cell 6; have z7 := k3.cell 7; have l3 := k3.lt; simp only [List.getElem?_toArray, List.getElem?_cons_zero, List.getElem?_cons_succ] at z0 z1 z2 z3 z4 z5 z6 z7
    refine bodyPost_ret (v := .tuple #[.agg #[.int .i64 0, .int .i64 g.ou, .int .i64 port, .int .i64 p.ta, .int .i64 p.tp, .slice D' 0 dc'], .agg #[.int .i64 g.ba, .int .i64 g.bi, .int .i64 g.ou, .slice A' mm cc, .slice A2 k c9, .int .i64 g.fi, .int .i64 g.ho, .int .i64 g.no], .bool true]) (by simp [results, Tryz.results83, go_sem, q0, q1, q2, q3, q4, q5, z0, z1, z2, z3, z4, z5, z6, z7]) rfl ?_
    exact ⟨B, { p with fa := g.ou, fp := port }, { g with tb := tb, cs := noteC g.cs ⟨port, p.ta, p.tp⟩ }, D', dc', A', mm, cc, A2, k, c9, true, rfl, HSG.out, HLT.out, hcc, hFr.low (by omega), hTab, HLK.out, hkc, hFc.low (by omega), hCon⟩
set_option maxHeartbeats 3200000 in
theorem c_sReceive (g : Gt) (p : Pk) (A : Option Addr) (n c : Nat) (C : Option Addr) (m d : Nat) (D : Option Addr) (dc : Nat) (w : World) (hv : vGate g = true) (hp : vPk p = true) (hn : g.tb.length = n) (h : TM w A g.tb) (hm : g.cs.length = m) (h' : TK w C g.cs) :
    Calls Tryz.prog 84 #[.agg #[.int .i64 g.ba, .int .i64 g.bi, .int .i64 g.ou, .slice A n c, .slice C m d, .int .i64 g.fi, .int .i64 g.ho, .int .i64 g.no], .agg #[.int .i64 0, .int .i64 p.fa, .int .i64 p.fp, .int .i64 p.ta, .int .i64 p.tp, .slice D 0 dc]] w (FwdR (recvG g p) w) := by

  have HR : Hid (recvG g p = if byP g.tb p.tp n < 0 then none else if letG g.fi g.cs p.tp p.fa p.fp then some ({ p with ta := (mn g.tb (byP g.tb p.tp n).toNat).ad, tp := (mn g.tb (byP g.tb p.tp n).toNat).ep }, g) else none) := by unfold recvG; rw [hn]; rfl
  have HN := Lib.hid hn
  have HM := Lib.hid hm
  have HA : Hid (∀ W, Below w.heap.size w W → TM W A g.tb) := fun W b => h.to b
  have HC : Hid (∀ W, Below w.heap.size w W → TK W C g.cs) := fun W b => h'.to b
  have HV := Lib.hid hv
  have HP := Lib.hid hp
  have HG := Lib.hid (gate_nums hv)
  have hn8 : n ≤ 8 := hn ▸ tab_len (gate_tab hv)
  have hm10 : m ≤ 10 := hm ▸ con_len (gate_con hv)
  clear hn hm h h' hv hp
  have k0 := (((Blk.new w 44 #[.int .i64 g.ba, .int .i64 g.bi, .int .i64 g.ou, .slice A n c, .slice C m d, .int .i64 g.fi, .int .i64 g.ho, .int .i64 g.no]).alloc (.cells #[.int .i64 0, .int .i64 p.fa, .int .i64 p.fp, .int .i64 p.ta, .int .i64 p.tp, .slice D 0 dc] 74)).alloc (.cells #[.int .i64 0, .int .i64 0, .int .i64 0, .int .i64 0, .int .i64 0, .slice none 0 0] 74)).alloc (.cells #[.int .i64 0, .int .i64 0, .int .i64 0, .slice none 0 0, .slice none 0 0, .int .i64 0, .int .i64 0, .int .i64 0] 44)
  have k1 := ((Blk.new (w.alloc (.cells #[.int .i64 g.ba, .int .i64 g.bi, .int .i64 g.ou, .slice A n c, .slice C m d, .int .i64 g.fi, .int .i64 g.ho, .int .i64 g.no] 44)) 74 #[.int .i64 0, .int .i64 p.fa, .int .i64 p.fp, .int .i64 p.ta, .int .i64 p.tp, .slice D 0 dc]).alloc (.cells #[.int .i64 0, .int .i64 0, .int .i64 0, .int .i64 0, .int .i64 0, .slice none 0 0] 74)).alloc (.cells #[.int .i64 0, .int .i64 0, .int .i64 0, .slice none 0 0, .slice none 0 0, .int .i64 0, .int .i64 0, .int .i64 0] 44)
  have k2 := (Blk.new ((w.alloc (.cells #[.int .i64 g.ba, .int .i64 g.bi, .int .i64 g.ou, .slice A n c, .slice C m d, .int .i64 g.fi, .int .i64 g.ho, .int .i64 g.no] 44)).alloc (.cells #[.int .i64 0, .int .i64 p.fa, .int .i64 p.fp, .int .i64 p.ta, .int .i64 p.tp, .slice D 0 dc] 74)) 74 #[.int .i64 0, .int .i64 0, .int .i64 0, .int .i64 0, .int .i64 0, .slice none 0 0]).alloc (.cells #[.int .i64 0, .int .i64 0, .int .i64 0, .slice none 0 0, .slice none 0 0, .int .i64 0, .int .i64 0, .int .i64 0] 44)
  have k3 := Blk.new (((w.alloc (.cells #[.int .i64 g.ba, .int .i64 g.bi, .int .i64 g.ou, .slice A n c, .slice C m d, .int .i64 g.fi, .int .i64 g.ho, .int .i64 g.no] 44)).alloc (.cells #[.int .i64 0, .int .i64 p.fa, .int .i64 p.fp, .int .i64 p.ta, .int .i64 p.tp, .slice D 0 dc] 74)).alloc (.cells #[.int .i64 0, .int .i64 0, .int .i64 0, .int .i64 0, .int .i64 0, .slice none 0 0] 74)) 44 #[.int .i64 0, .int .i64 0, .int .i64 0, .slice none 0 0, .slice none 0 0, .int .i64 0, .int .i64 0, .int .i64 0]
  have B : Below w.heap.size w ((((w.alloc (.cells #[.int .i64 g.ba, .int .i64 g.bi, .int .i64 g.ou, .slice A n c, .slice C m d, .int .i64 g.fi, .int .i64 g.ho, .int .i64 g.no] 44)).alloc (.cells #[.int .i64 0, .int .i64 p.fa, .int .i64 p.fp, .int .i64 p.ta, .int .i64 p.tp, .slice D 0 dc] 74)).alloc (.cells #[.int .i64 0, .int .i64 0, .int .i64 0, .int .i64 0, .int .i64 0, .slice none 0 0] 74)).alloc (.cells #[.int .i64 0, .int .i64 0, .int .i64 0, .slice none 0 0, .slice none 0 0, .int .i64 0, .int .i64 0, .int .i64 0] 44)) := ((((Below.refl _ _).alloc (Nat.le_refl _) _).alloc (by simp) _).alloc (by simp; omega) _).alloc (by simp; omega) _
  simp only [World.size_alloc] at k1 k2 k3
  have y0 := k0.cell 0; have y1 := k0.cell 1; have y2 := k0.cell 2; have y3 := k0.cell 3; have y4 := k0.cell 4; have y5 := k0.cell 5; have y6 := k0.cell 6; have y7 := k0.cell 7; have l0 := k0.lt; simp only [List.getElem?_toArray, List.getElem?_cons_zero, List.getElem?_cons_succ] at y0 y1 y2 y3 y4 y5 y6 y7
  have p0 := k1.cell 0; have p1 := k1.cell 1; have p2 := k1.cell 2; have p3 := k1.cell 3; have p4 := k1.cell 4; have p5 := k1.cell 5; have l1 := k1.lt; simp only [List.getElem?_toArray, List.getElem?_cons_zero, List.getElem?_cons_succ] at p0 p1 p2 p3 p4 p5
  go_enter Tryz.func84, Tryz.ntmps84
  go_wp2_with fail
  refine (c_sByPort A n c g.tb _ _ HN.out (HA.out _ B) (by omega)).mono ?_
  rintro e w4 ⟨rfl, rfl⟩
  have hbd := idx_bd (fun k => isP (mn g.tb k) p.tp) n
  change -1 ≤ byP g.tb p.tp n ∧ byP g.tb p.tp n < n at hbd
  generalize hpl : byP g.tb p.tp n = at' at hbd HR ⊢
  have HPL := Lib.hid hpl
  clear hpl
  by_cases hneg : at' < 0
  · have t0 : decide (at' < 0) = true := by rw [decide_eq_true_eq]; omega
    have HZ : Hid (recvG g p = none) := by rw [HR.out, if_pos hneg]; rfl
    clear hneg
    clear y0 y1 y2 y3 y4 y5 y6 y7 l0
    clear p0 p1 p2 p3 p4 p5 l1
    obtain ⟨w4, hw4⟩ : ∃ x, ((((w.alloc (.cells #[.int .i64 g.ba, .int .i64 g.bi, .int .i64 g.ou, .slice A n c, .slice C m d, .int .i64 g.fi, .int .i64 g.ho, .int .i64 g.no] 44)).alloc (.cells #[.int .i64 0, .int .i64 p.fa, .int .i64 p.fp, .int .i64 p.ta, .int .i64 p.tp, .slice D 0 dc] 74)).alloc (.cells #[.int .i64 0, .int .i64 0, .int .i64 0, .int .i64 0, .int .i64 0, .slice none 0 0] 74)).alloc (.cells #[.int .i64 0, .int .i64 0, .int .i64 0, .slice none 0 0, .slice none 0 0, .int .i64 0, .int .i64 0, .int .i64 0] 44)) = x := ⟨_, rfl⟩
    rw [hw4] at k2 k3 B ⊢
    clear hw4 k0 k1
    have q0 := k2.cell 0; have q1 := k2.cell 1; have q2 := k2.cell 2; have q3 := k2.cell 3; have q4 := k2.cell 4; have q5 := k2.cell 5; have l2 := k2.lt; simp only [List.getElem?_toArray, List.getElem?_cons_zero, List.getElem?_cons_succ] at q0 q1 q2 q3 q4 q5
    have z0 := k3.cell 0; have z1 := k3.cell 1; have z2 := k3.cell 2; have z3 := k3.cell 3; have z4 := k3.cell 4; have z5 := k3.cell 5; have z6 := k3.cell 6; have z7 := k3.cell 7; have l3 := k3.lt; simp only [List.getElem?_toArray, List.getElem?_cons_zero, List.getElem?_cons_succ] at z0 z1 z2 z3 z4 z5 z6 z7
    have fq0 := k2.frozen 0; have fq1 := k2.frozen 1; have fq2 := k2.frozen 2; have fq3 := k2.frozen 3; have fq4 := k2.frozen 4; have fq5 := k2.frozen 5
    have fz0 := k3.frozen 0; have fz1 := k3.frozen 1; have fz2 := k3.frozen 2; have fz3 := k3.frozen 3; have fz4 := k3.frozen 4; have fz5 := k3.frozen 5; have fz6 := k3.frozen 6; have fz7 := k3.frozen 7
    go_wp2
    clear q0 q1 q2 q3 q4 q5 l2 z0 z1 z2 z3 z4 z5 z6 z7 l3 fq0 fq1 fq2 fq3 fq4 fq5 fz0 fz1 fz2 fz3 fz4 fz5 fz6 fz7
    obtain ⟨W5, e5, z5, hf5, hb5, hr5⟩ := put6 k2 (.int .i64 0) (.int .i64 0) (.int .i64 0) (.int .i64 0) (.int .i64 0) (.slice none 0 0)
    rw [e5]
    replace k3 := hf5 k3 (by omega)
    replace B := hb5 B (by omega)
    obtain ⟨W6, e6, z6, hf6, hb6, hr6⟩ := put8 k3 (.int .i64 0) (.int .i64 0) (.int .i64 0) (.slice none 0 0) (.slice none 0 0) (.int .i64 0) (.int .i64 0) (.int .i64 0)
    rw [e6]
    replace k2 := hf6 z5 (by omega)
    replace B := hb6 B (by omega)
    replace k3 := z6
    clear e5 e6 hf5 hb5 hr5 hf6 hb6 hr6 z5 z6
    have q0 := k2.cell 0; have q1 := k2.cell 1; have q2 := k2.cell 2; have q3 := k2.cell 3; have q4 := k2.cell 4; have q5 := k2.cell 5; have l2 := k2.lt; simp only [List.getElem?_toArray, List.getElem?_cons_zero, List.getElem?_cons_succ] at q0 q1 q2 q3 q4 q5
    have z0 := k3.cell 0; have z1 := k3.cell 1; have z2 := k3.cell 2; have z3 := k3.cell 3; have z4 := k3.cell 4; have z5 := k3.cell 5; have z6 := k3.cell 6; have z7 := k3.cell 7; have l3 := k3.lt; simp only [List.getElem?_toArray, List.getElem?_cons_zero, List.getElem?_cons_succ] at z0 z1 z2 z3 z4 z5 z6 z7
    refine bodyPost_ret (v := .tuple #[.agg #[.int .i64 0, .int .i64 0, .int .i64 0, .int .i64 0, .int .i64 0, .slice none 0 0], .agg #[.int .i64 0, .int .i64 0, .int .i64 0, .slice none 0 0, .slice none 0 0, .int .i64 0, .int .i64 0, .int .i64 0], .bool false]) (by simp [results, Tryz.results84, go_sem, q0, q1, q2, q3, q4, q5, z0, z1, z2, z3, z4, z5, z6, z7]) rfl ?_
    exact ⟨B, pk0, gt0, none, 0, none, 0, 0, none, 0, 0, false, rfl, HZ.out, rfl, Nat.le_refl _, Fr.none _, TM.nil _ _, rfl, Nat.le_refl _, Fr.none _, TK.nil _ _⟩
  · have t0 : decide (at' < 0) = false := by rw [decide_eq_false_iff_not]; omega
    obtain ⟨k, rfl⟩ := Int.eq_ofNat_of_zero_le (show 0 ≤ at' by omega)
    have hkn : k < n := by omega
    have hkl : Hid (k < g.tb.length) := Lib.hid (by rw [HN.out]; exact hkn)
    have e2 : 0 ≤ (k : Int) ∧ (k : Int) < n := by omega
    rw [if_neg hneg, Int.toNat_natCast] at HR
    clear hneg
    go_wp2_with fail
    refine (c_lets _ _ _ _ C m d g.cs _ HM.out (HC.out _ B) (by omega)).mono ?_
    rintro e w5 ⟨rfl, hq⟩
    clear y0 y1 y2 y3 y4 y5 y6 y7 l0; clear p0 p1 p2 p3 p4 p5 l1; replace k0 := k0.to hq; replace k1 := k1.to hq; replace k2 := k2.to hq; replace k3 := k3.to hq; replace B := Bl.then B hq; clear hq; have y0 := k0.cell 0; have y1 := k0.cell 1; have y2 := k0.cell 2; have y3 := k0.cell 3; have y4 := k0.cell 4; have y5 := k0.cell 5; have y6 := k0.cell 6; have y7 := k0.cell 7; have l0 := k0.lt; simp only [List.getElem?_toArray, List.getElem?_cons_zero, List.getElem?_cons_succ] at y0 y1 y2 y3 y4 y5 y6 y7; have p0 := k1.cell 0; have p1 := k1.cell 1; have p2 := k1.cell 2; have p3 := k1.cell 3; have p4 := k1.cell 4; have p5 := k1.cell 5; have l1 := k1.lt; simp only [List.getElem?_toArray, List.getElem?_cons_zero, List.getElem?_cons_succ] at p0 p1 p2 p3 p4 p5
    cases hlet : letG g.fi g.cs p.tp p.fa p.fp
    · have HZ : Hid (recvG g p = none) := by rw [HR.out, hlet, if_neg (by simp)]; rfl
      clear hlet
      clear y0 y1 y2 y3 y4 y5 y6 y7 l0
      clear p0 p1 p2 p3 p4 p5 l1
      have q0 := k2.cell 0; have q1 := k2.cell 1; have q2 := k2.cell 2; have q3 := k2.cell 3; have q4 := k2.cell 4; have q5 := k2.cell 5; have l2 := k2.lt; simp only [List.getElem?_toArray, List.getElem?_cons_zero, List.getElem?_cons_succ] at q0 q1 q2 q3 q4 q5
      have z0 := k3.cell 0; have z1 := k3.cell 1; have z2 := k3.cell 2; have z3 := k3.cell 3; have z4 := k3.cell 4; have z5 := k3.cell 5; have z6 := k3.cell 6; have z7 := k3.cell 7; have l3 := k3.lt; simp only [List.getElem?_toArray, List.getElem?_cons_zero, List.getElem?_cons_succ] at z0 z1 z2 z3 z4 z5 z6 z7
      have fq0 := k2.frozen 0; have fq1 := k2.frozen 1; have fq2 := k2.frozen 2; have fq3 := k2.frozen 3; have fq4 := k2.frozen 4; have fq5 := k2.frozen 5
      have fz0 := k3.frozen 0; have fz1 := k3.frozen 1; have fz2 := k3.frozen 2; have fz3 := k3.frozen 3; have fz4 := k3.frozen 4; have fz5 := k3.frozen 5; have fz6 := k3.frozen 6; have fz7 := k3.frozen 7
      go_wp2
      clear q0 q1 q2 q3 q4 q5 l2 z0 z1 z2 z3 z4 z5 z6 z7 l3 fq0 fq1 fq2 fq3 fq4 fq5 fz0 fz1 fz2 fz3 fz4 fz5 fz6 fz7
      obtain ⟨W5, e5, z5, hf5, hb5, hr5⟩ := put6 k2 (.int .i64 0) (.int .i64 0) (.int .i64 0) (.int .i64 0) (.int .i64 0) (.slice none 0 0)
      rw [e5]
      replace k3 := hf5 k3 (by omega)
      replace B := hb5 B (by omega)
      obtain ⟨W6, e6, z6, hf6, hb6, hr6⟩ := put8 k3 (.int .i64 0) (.int .i64 0) (.int .i64 0) (.slice none 0 0) (.slice none 0 0) (.int .i64 0) (.int .i64 0) (.int .i64 0)
      rw [e6]
      replace k2 := hf6 z5 (by omega)
      replace B := hb6 B (by omega)
      replace k3 := z6
      clear e5 e6 hf5 hb5 hr5 hf6 hb6 hr6 z5 z6
      have q0 := k2.cell 0; have q1 := k2.cell 1; have q2 := k2.cell 2; have q3 := k2.cell 3; have q4 := k2.cell 4; have q5 := k2.cell 5; have l2 := k2.lt; simp only [List.getElem?_toArray, List.getElem?_cons_zero, List.getElem?_cons_succ] at q0 q1 q2 q3 q4 q5
      have z0 := k3.cell 0; have z1 := k3.cell 1; have z2 := k3.cell 2; have z3 := k3.cell 3; have z4 := k3.cell 4; have z5 := k3.cell 5; have z6 := k3.cell 6; have z7 := k3.cell 7; have l3 := k3.lt; simp only [List.getElem?_toArray, List.getElem?_cons_zero, List.getElem?_cons_succ] at z0 z1 z2 z3 z4 z5 z6 z7
      refine bodyPost_ret (v := .tuple #[.agg #[.int .i64 0, .int .i64 0, .int .i64 0, .int .i64 0, .int .i64 0, .slice none 0 0], .agg #[.int .i64 0, .int .i64 0, .int .i64 0, .slice none 0 0, .slice none 0 0, .int .i64 0, .int .i64 0, .int .i64 0], .bool false]) (by simp [results, Tryz.results84, go_sem, q0, q1, q2, q3, q4, q5, z0, z1, z2, z3, z4, z5, z6, z7]) rfl ?_
      exact ⟨B, pk0, gt0, none, 0, none, 0, 0, none, 0, 0, false, rfl, HZ.out, rfl, Nat.le_refl _, Fr.none _, TM.nil _ _, rfl, Nat.le_refl _, Fr.none _, TK.nil _ _⟩
    · have HZ : Hid (recvG g p = some ({ p with ta := (mn g.tb k).ad, tp := (mn g.tb k).ep }, g)) := by rw [HR.out, hlet, if_pos rfl]; rfl
      clear hlet
      go_wp2_with fail
      refine (c_copyPacket p D dc _).mono ?_
      rintro e w6 ⟨D', dc', rfl, hq⟩
      clear y0 y1 y2 y3 y4 y5 y6 y7 l0; clear p0 p1 p2 p3 p4 p5 l1; replace k0 := k0.to hq; replace k1 := k1.to hq; replace k2 := k2.to hq; replace k3 := k3.to hq; replace B := Bl.then B hq; clear hq; have y0 := k0.cell 0; have y1 := k0.cell 1; have y2 := k0.cell 2; have y3 := k0.cell 3; have y4 := k0.cell 4; have y5 := k0.cell 5; have y6 := k0.cell 6; have y7 := k0.cell 7; have l0 := k0.lt; simp only [List.getElem?_toArray, List.getElem?_cons_zero, List.getElem?_cons_succ] at y0 y1 y2 y3 y4 y5 y6 y7; have p0 := k1.cell 0; have p1 := k1.cell 1; have p2 := k1.cell 2; have p3 := k1.cell 3; have p4 := k1.cell 4; have p5 := k1.cell 5; have l1 := k1.lt; simp only [List.getElem?_toArray, List.getElem?_cons_zero, List.getElem?_cons_succ] at p0 p1 p2 p3 p4 p5
      obtain ⟨b0, off, rfl, hb0, c0, c1, c2, c3⟩ := (HA.out _ B).get hkl.out
      go_upto_region 6 with fail
      have kp := Blk.new w6 74 #[.int .i64 0, .int .i64 p.fa, .int .i64 p.fp, .int .i64 (mn g.tb k).ad, .int .i64 (mn g.tb k).ep, .slice D' 0 dc']
      have hl8 := k3.lt
      obtain ⟨b10, hb8⟩ : ∃ b, w6.heap.size = b := ⟨_, rfl⟩
      rw [hb8] at kp hl8 ⊢
      have hq : Below w6.heap.size w6 (w6.alloc (.cells #[.int .i64 0, .int .i64 p.fa, .int .i64 p.fp, .int .i64 (mn g.tb k).ad, .int .i64 (mn g.tb k).ep, .slice D' 0 dc'] 74)) := (Below.refl _ _).alloc (Nat.le_refl _) _
      clear y0 y1 y2 y3 y4 y5 y6 y7 l0
      clear p0 p1 p2 p3 p4 p5 l1
      replace k0 := k0.to hq; replace k1 := k1.to hq; replace k2 := k2.to hq; replace k3 := k3.to hq; replace B := Bl.then B hq; clear hq
      clear c0 c1 c2 c3 hb8 hb0
      generalize w6.alloc (.cells #[.int .i64 0, .int .i64 p.fa, .int .i64 p.fp, .int .i64 (mn g.tb k).ad, .int .i64 (mn g.tb k).ep, .slice D' 0 dc'] 74) = wz at *
      have hq : Below wz.heap.size wz wz.drew := Bl.of_drewN wz 1
      replace kp := kp.to hq
      replace k0 := k0.to hq; replace k1 := k1.to hq; replace k2 := k2.to hq; replace k3 := k3.to hq; replace B := Bl.then B hq; clear hq
      go_wp2_with fail
      refine wp_region_held_drew (S := (fun w' => w'.cell? ⟨w.heap.size, 0, none⟩ = some (.int .i64 g.ba) ∧ w'.cell? ⟨w.heap.size, 1, none⟩ = some (.int .i64 g.bi) ∧ w'.cell? ⟨w.heap.size, 2, none⟩ = some (.int .i64 g.ou) ∧ w'.cell? ⟨w.heap.size, 3, none⟩ = some (.slice (some ⟨b0, off, none⟩) n c) ∧ w'.cell? ⟨w.heap.size, 4, none⟩ = some (.slice C m d) ∧ w'.cell? ⟨w.heap.size, 5, none⟩ = some (.int .i64 g.fi) ∧ w'.cell? ⟨w.heap.size, 6, none⟩ = some (.int .i64 g.ho) ∧ w'.cell? ⟨w.heap.size, 7, none⟩ = some (.int .i64 g.no) ∧ w'.cell? ⟨b10, 0, none⟩ = some (.int .i64 0) ∧ w'.cell? ⟨b10, 1, none⟩ = some (.int .i64 p.fa) ∧ w'.cell? ⟨b10, 2, none⟩ = some (.int .i64 p.fp) ∧ w'.cell? ⟨b10, 3, none⟩ = some (.int .i64 (mn g.tb k).ad) ∧ w'.cell? ⟨b10, 4, none⟩ = some (.int .i64 (mn g.tb k).ep) ∧ w'.cell? ⟨b10, 5, none⟩ = some (.slice D' 0 dc'))) (by kernel_rfl) ?_ (fun hHeld => ?_)
      · (try dsimp only); exact ⟨k0.cell 0, k0.cell 1, k0.cell 2, k0.cell 3, k0.cell 4, k0.cell 5, k0.cell 6, k0.cell 7, kp.cell 0, kp.cell 1, kp.cell 2, kp.cell 3, kp.cell 4, kp.cell 5⟩
      generalize World.drew wz = wy at *
      refine wpAnyH_take (i := 0) (v := ?_) (arr_at rfl) (by kernel_rfl) (by kernel_rfl) (by kernel_rfl) (fun _ _ _ h => h) ?_ (by assumption) ?_
      rotate_left
      · first | (refine Or.inr ⟨by rfl, ?_⟩; with_reducible rfl) | (refine Or.inl ⟨by rfl, ?_⟩; intro w hSw; (try dsimp only at hSw); go_simp; first | done | with_reducible rfl)
      try simp only [Act.put, List.setIfInBounds_toArray, List.set_cons_zero, List.set_cons_succ]
      refine wpAnyH_take (i := 1) (v := ?_) (arr_at rfl) (by kernel_rfl) (by kernel_rfl) (by kernel_rfl) (fun _ _ _ h => h) ?_ (by assumption) ?_
      rotate_left
      · first | (refine Or.inr ⟨by rfl, ?_⟩; with_reducible rfl) | (refine Or.inl ⟨by rfl, ?_⟩; intro w hSw; (try dsimp only at hSw); go_simp; first | done | with_reducible rfl)
      try simp only [Act.put, List.setIfInBounds_toArray, List.set_cons_zero, List.set_cons_succ]
      refine wpAnyH_ready (rs := [2]) (by kernel_rfl) (by simp) ?_
      refine AllReadyH.cons (arr_at rfl) (fun K hK => ?_) AllReadyH.nil
      go_simp
      go_at_call 141; refine (c_copyGate g (some ⟨b0, off, none⟩) n c C m d _ HN.out (HA.out _ B) HM.out (HC.out _ B) (by omega) (by omega)).mono ?_; rintro e wB ⟨T, c1, T2, c2, rfl, hc1, hc2, hFr, hTab, hFc, hCon, hq⟩; have hlp := kp.lt; replace hFr : Fr T (b10 + 1) := hFr.low (by omega); replace hFc : Fr T2 (b10 + 1) := hFc.low (by omega); replace kp := kp.to hq; clear hlp; replace k0 := k0.to hq; replace k1 := k1.to hq; replace k2 := k2.to hq; replace k3 := k3.to hq; replace B := Bl.then B hq; clear hq
      refine hK.out _ _ ?_ (fun hHeld => ?_)
      · (try dsimp only); exact ⟨k0.cell 0, k0.cell 1, k0.cell 2, k0.cell 3, k0.cell 4, k0.cell 5, k0.cell 6, k0.cell 7, kp.cell 0, kp.cell 1, kp.cell 2, kp.cell 3, kp.cell 4, kp.cell 5⟩
      clear hK K
      try simp only [Act.put, List.setIfInBounds_toArray, List.set_cons_zero, List.set_cons_succ]
      refine wpAnyH_ready (rs := [3]) (by kernel_rfl) (by simp) ?_
      refine AllReadyH.cons (arr_at rfl) (fun K hK => ?_) AllReadyH.nil
      have q0 := k2.cell 0; have q1 := k2.cell 1; have q2 := k2.cell 2; have q3 := k2.cell 3; have q4 := k2.cell 4; have q5 := k2.cell 5; have l2 := k2.lt; simp only [List.getElem?_toArray, List.getElem?_cons_zero, List.getElem?_cons_succ] at q0 q1 q2 q3 q4 q5; have fq0 := k2.frozen 0; have fq1 := k2.frozen 1; have fq2 := k2.frozen 2; have fq3 := k2.frozen 3; have fq4 := k2.frozen 4; have fq5 := k2.frozen 5; go_simp; clear q0 q1 q2 q3 q4 q5 fq0 fq1 fq2 fq3 fq4 fq5 l2; obtain ⟨W3, e, z, hf, hb, hr⟩ := put6 k2 (.int .i64 0) (.int .i64 p.fa) (.int .i64 p.fp) (.int .i64 (mn g.tb k).ad) (.int .i64 (mn g.tb k).ep) (.slice D' 0 dc'); rw [e]; clear e; replace k0 := hf k0 (by omega); replace k3 := hf k3 (by omega); replace kp := hf kp (by omega); replace B := hb B (by omega); replace hTab := hr.1 hTab hFr (by omega); replace hCon := hr.1 hCon hFc (by omega); replace k2 := z; clear z hf hb hr
      refine hK.out _ _ ?_ (fun hHeld => ?_)
      · (try dsimp only); exact ⟨k0.cell 0, k0.cell 1, k0.cell 2, k0.cell 3, k0.cell 4, k0.cell 5, k0.cell 6, k0.cell 7, kp.cell 0, kp.cell 1, kp.cell 2, kp.cell 3, kp.cell 4, kp.cell 5⟩
      clear hK K
      try simp only [Act.put, List.setIfInBounds_toArray, List.set_cons_zero, List.set_cons_succ]
      refine wpAnyH_ready (rs := [4]) (by kernel_rfl) (by simp) ?_
      refine AllReadyH.cons (arr_at rfl) (fun K hK => ?_) AllReadyH.nil
      have z0 := k3.cell 0; have z1 := k3.cell 1; have z2 := k3.cell 2; have z3 := k3.cell 3; have z4 := k3.cell 4; have z5 := k3.cell 5; have z6 := k3.cell 6; have z7 := k3.cell 7; have l3 := k3.lt; simp only [List.getElem?_toArray, List.getElem?_cons_zero, List.getElem?_cons_succ] at z0 z1 z2 z3 z4 z5 z6 z7; have fz0 := k3.frozen 0; have fz1 := k3.frozen 1; have fz2 := k3.frozen 2; have fz3 := k3.frozen 3; have fz4 := k3.frozen 4; have fz5 := k3.frozen 5; have fz6 := k3.frozen 6; have fz7 := k3.frozen 7; go_simp; clear z0 z1 z2 z3 z4 z5 z6 z7 fz0 fz1 fz2 fz3 fz4 fz5 fz6 fz7 l3; obtain ⟨W4, e, z, hf, hb, hr⟩ := put8 k3 (.int .i64 g.ba) (.int .i64 g.bi) (.int .i64 g.ou) (.slice T n c1) (.slice T2 m c2) (.int .i64 g.fi) (.int .i64 g.ho) (.int .i64 g.no); rw [e]; clear e; replace k0 := hf k0 (by omega); replace k2 := hf k2 (by omega); replace kp := hf kp (by omega); replace B := hb B (by omega); replace hTab := hr.1 hTab hFr (by omega); replace hCon := hr.1 hCon hFc (by omega); replace k3 := z; clear z hf hb hr
      refine hK.out _ _ ?_ (fun hHeld => ?_)
      · (try dsimp only); exact ⟨k0.cell 0, k0.cell 1, k0.cell 2, k0.cell 3, k0.cell 4, k0.cell 5, k0.cell 6, k0.cell 7, kp.cell 0, kp.cell 1, kp.cell 2, kp.cell 3, kp.cell 4, kp.cell 5⟩
      clear hK K
      try simp only [Act.put, List.setIfInBounds_toArray, List.set_cons_zero, List.set_cons_succ]
      refine wpAnyH_take (i := 5) (v := ?_) (arr_at rfl) (by kernel_rfl) (by kernel_rfl) (by kernel_rfl) (fun _ _ _ h => h) ?_ (by assumption) ?_
      rotate_left
      · first | (refine Or.inr ⟨by rfl, ?_⟩; with_reducible rfl) | (refine Or.inl ⟨by rfl, ?_⟩; intro w hSw; (try dsimp only at hSw); go_simp; first | done | with_reducible rfl)
      try simp only [Act.put, List.setIfInBounds_toArray, List.set_cons_zero, List.set_cons_succ]
      refine wpAnyH_done (by kernel_rfl) ?_ _
      go_wp2
      have q0 := k2.cell 0; have q1 := k2.cell 1; have q2 := k2.cell 2; have q3 := k2.cell 3; have q4 := k2.cell 4; have q5 := k2.cell 5; have l2 := k2.lt; simp only [List.getElem?_toArray, List.getElem?_cons_zero, List.getElem?_cons_succ] at q0 q1 q2 q3 q4 q5
      have z0 := k3.cell 0; have z1 := k3.cell 1; have z2 := k3.cell 2; have z3 := k3.cell 3; have z4 := k3.cell 4; have z5 := k3.cell 5; have z6 := k3.cell 6; have z7 := k3.cell 7; have l3 := k3.lt; simp only [List.getElem?_toArray, List.getElem?_cons_zero, List.getElem?_cons_succ] at z0 z1 z2 z3 z4 z5 z6 z7
      refine bodyPost_ret (v := .tuple #[.agg #[.int .i64 0, .int .i64 p.fa, .int .i64 p.fp, .int .i64 (mn g.tb k).ad, .int .i64 (mn g.tb k).ep, .slice D' 0 dc'], .agg #[.int .i64 g.ba, .int .i64 g.bi, .int .i64 g.ou, .slice T n c1, .slice T2 m c2, .int .i64 g.fi, .int .i64 g.ho, .int .i64 g.no], .bool true]) (by simp [results, Tryz.results84, go_sem, q0, q1, q2, q3, q4, q5, z0, z1, z2, z3, z4, z5, z6, z7]) rfl ?_
      exact ⟨B, { p with ta := (mn g.tb k).ad, tp := (mn g.tb k).ep }, g, D', dc', T, n, c1, T2, m, c2, true, rfl, HZ.out, HN.out, hc1, hFr.low (by omega), hTab, HM.out, hc2, hFc.low (by omega), hCon⟩
set_option maxHeartbeats 3200000 in
theorem c_sPass (g : Gt) (p : Pk) (A : Option Addr) (n c : Nat) (C : Option Addr) (m d : Nat) (D : Option Addr) (dc : Nat) (w : World) (hv : vGate g = true) (hp : vPk p = true) (hfr : inN g.ba g.bi p.fa = true) (hto : p.ta = g.ou) (hn : g.tb.length = n) (h : TM w A g.tb) (hm : g.cs.length = m) (h' : TK w C g.cs) :
    Calls Tryz.prog 85 #[.agg #[.int .i64 g.ba, .int .i64 g.bi, .int .i64 g.ou, .slice A n c, .slice C m d, .int .i64 g.fi, .int .i64 g.ho, .int .i64 g.no], .agg #[.int .i64 0, .int .i64 p.fa, .int .i64 p.fp, .int .i64 p.ta, .int .i64 p.tp, .slice D 0 dc]] w (FwdR (passG g p) w) := by

  have ht1 : (p.ta != g.ou) = false := by rw [hto]; simp
  have HF := Lib.hid hfr
  have HT := Lib.hid hto
  clear hto hfr
  have HN := Lib.hid hn
  have HM := Lib.hid hm
  have HA : Hid (∀ W, Below w.heap.size w W → TM W A g.tb) := fun W b => h.to b
  have HC : Hid (∀ W, Below w.heap.size w W → TK W C g.cs) := fun W b => h'.to b
  have HV := Lib.hid hv
  have HP := Lib.hid hp
  have HG := Lib.hid (gate_nums hv)
  have hn8 : n ≤ 8 := hn ▸ tab_len (gate_tab hv)
  have hm10 : m ≤ 10 := hm ▸ con_len (gate_con hv)
  clear hn hm h h' hv hp
  have k0 := (((Blk.new w 44 #[.int .i64 g.ba, .int .i64 g.bi, .int .i64 g.ou, .slice A n c, .slice C m d, .int .i64 g.fi, .int .i64 g.ho, .int .i64 g.no]).alloc (.cells #[.int .i64 0, .int .i64 p.fa, .int .i64 p.fp, .int .i64 p.ta, .int .i64 p.tp, .slice D 0 dc] 74)).alloc (.cells #[.int .i64 0, .int .i64 0, .int .i64 0, .int .i64 0, .int .i64 0, .slice none 0 0] 74)).alloc (.cells #[.int .i64 0, .int .i64 0, .int .i64 0, .slice none 0 0, .slice none 0 0, .int .i64 0, .int .i64 0, .int .i64 0] 44)
  have k1 := ((Blk.new (w.alloc (.cells #[.int .i64 g.ba, .int .i64 g.bi, .int .i64 g.ou, .slice A n c, .slice C m d, .int .i64 g.fi, .int .i64 g.ho, .int .i64 g.no] 44)) 74 #[.int .i64 0, .int .i64 p.fa, .int .i64 p.fp, .int .i64 p.ta, .int .i64 p.tp, .slice D 0 dc]).alloc (.cells #[.int .i64 0, .int .i64 0, .int .i64 0, .int .i64 0, .int .i64 0, .slice none 0 0] 74)).alloc (.cells #[.int .i64 0, .int .i64 0, .int .i64 0, .slice none 0 0, .slice none 0 0, .int .i64 0, .int .i64 0, .int .i64 0] 44)
  have k2 := (Blk.new ((w.alloc (.cells #[.int .i64 g.ba, .int .i64 g.bi, .int .i64 g.ou, .slice A n c, .slice C m d, .int .i64 g.fi, .int .i64 g.ho, .int .i64 g.no] 44)).alloc (.cells #[.int .i64 0, .int .i64 p.fa, .int .i64 p.fp, .int .i64 p.ta, .int .i64 p.tp, .slice D 0 dc] 74)) 74 #[.int .i64 0, .int .i64 0, .int .i64 0, .int .i64 0, .int .i64 0, .slice none 0 0]).alloc (.cells #[.int .i64 0, .int .i64 0, .int .i64 0, .slice none 0 0, .slice none 0 0, .int .i64 0, .int .i64 0, .int .i64 0] 44)
  have k3 := Blk.new (((w.alloc (.cells #[.int .i64 g.ba, .int .i64 g.bi, .int .i64 g.ou, .slice A n c, .slice C m d, .int .i64 g.fi, .int .i64 g.ho, .int .i64 g.no] 44)).alloc (.cells #[.int .i64 0, .int .i64 p.fa, .int .i64 p.fp, .int .i64 p.ta, .int .i64 p.tp, .slice D 0 dc] 74)).alloc (.cells #[.int .i64 0, .int .i64 0, .int .i64 0, .int .i64 0, .int .i64 0, .slice none 0 0] 74)) 44 #[.int .i64 0, .int .i64 0, .int .i64 0, .slice none 0 0, .slice none 0 0, .int .i64 0, .int .i64 0, .int .i64 0]
  have B : Below w.heap.size w ((((w.alloc (.cells #[.int .i64 g.ba, .int .i64 g.bi, .int .i64 g.ou, .slice A n c, .slice C m d, .int .i64 g.fi, .int .i64 g.ho, .int .i64 g.no] 44)).alloc (.cells #[.int .i64 0, .int .i64 p.fa, .int .i64 p.fp, .int .i64 p.ta, .int .i64 p.tp, .slice D 0 dc] 74)).alloc (.cells #[.int .i64 0, .int .i64 0, .int .i64 0, .int .i64 0, .int .i64 0, .slice none 0 0] 74)).alloc (.cells #[.int .i64 0, .int .i64 0, .int .i64 0, .slice none 0 0, .slice none 0 0, .int .i64 0, .int .i64 0, .int .i64 0] 44)) := ((((Below.refl _ _).alloc (Nat.le_refl _) _).alloc (by simp) _).alloc (by simp; omega) _).alloc (by simp; omega) _
  simp only [World.size_alloc] at k1 k2 k3
  have y0 := k0.cell 0; have y1 := k0.cell 1; have y2 := k0.cell 2; have y3 := k0.cell 3; have y4 := k0.cell 4; have y5 := k0.cell 5; have y6 := k0.cell 6; have y7 := k0.cell 7; have l0 := k0.lt; simp only [List.getElem?_toArray, List.getElem?_cons_zero, List.getElem?_cons_succ] at y0 y1 y2 y3 y4 y5 y6 y7
  have p0 := k1.cell 0; have p1 := k1.cell 1; have p2 := k1.cell 2; have p3 := k1.cell 3; have p4 := k1.cell 4; have p5 := k1.cell 5; have l1 := k1.lt; simp only [List.getElem?_toArray, List.getElem?_cons_zero, List.getElem?_cons_succ] at p0 p1 p2 p3 p4 p5
  go_enter Tryz.func85, Tryz.ntmps85
  go_wp2_with fail
  refine (c_validGate g A n c C m d _ HV.out HN.out (HA.out _ B) HM.out (HC.out _ B)).mono ?_
  rintro e w1 ⟨rfl, hq⟩
  clear y0 y1 y2 y3 y4 y5 y6 y7 l0; clear p0 p1 p2 p3 p4 p5 l1; replace k0 := k0.to hq; replace k1 := k1.to hq; replace k2 := k2.to hq; replace k3 := k3.to hq; replace B := Bl.then B hq; clear hq; have y0 := k0.cell 0; have y1 := k0.cell 1; have y2 := k0.cell 2; have y3 := k0.cell 3; have y4 := k0.cell 4; have y5 := k0.cell 5; have y6 := k0.cell 6; have y7 := k0.cell 7; have l0 := k0.lt; simp only [List.getElem?_toArray, List.getElem?_cons_zero, List.getElem?_cons_succ] at y0 y1 y2 y3 y4 y5 y6 y7; have p0 := k1.cell 0; have p1 := k1.cell 1; have p2 := k1.cell 2; have p3 := k1.cell 3; have p4 := k1.cell 4; have p5 := k1.cell 5; have l1 := k1.lt; simp only [List.getElem?_toArray, List.getElem?_cons_zero, List.getElem?_cons_succ] at p0 p1 p2 p3 p4 p5
  go_wp2_with fail
  refine (c_sValidPacket p D dc _ HP.out).mono ?_
  rintro e w2 ⟨rfl, hq⟩
  clear y0 y1 y2 y3 y4 y5 y6 y7 l0; clear p0 p1 p2 p3 p4 p5 l1; replace k0 := k0.to hq; replace k1 := k1.to hq; replace k2 := k2.to hq; replace k3 := k3.to hq; replace B := Bl.then B hq; clear hq; have y0 := k0.cell 0; have y1 := k0.cell 1; have y2 := k0.cell 2; have y3 := k0.cell 3; have y4 := k0.cell 4; have y5 := k0.cell 5; have y6 := k0.cell 6; have y7 := k0.cell 7; have l0 := k0.lt; simp only [List.getElem?_toArray, List.getElem?_cons_zero, List.getElem?_cons_succ] at y0 y1 y2 y3 y4 y5 y6 y7; have p0 := k1.cell 0; have p1 := k1.cell 1; have p2 := k1.cell 2; have p3 := k1.cell 3; have p4 := k1.cell 4; have p5 := k1.cell 5; have l1 := k1.lt; simp only [List.getElem?_toArray, List.getElem?_cons_zero, List.getElem?_cons_succ] at p0 p1 p2 p3 p4 p5
  go_wp2_with fail
  refine (c_inNet _ _ _ _ HG.out.1).mono ?_
  rw [HF.out]
  rintro e w3 ⟨rfl, hq⟩
  clear y0 y1 y2 y3 y4 y5 y6 y7 l0; clear p0 p1 p2 p3 p4 p5 l1; replace k0 := k0.to hq; replace k1 := k1.to hq; replace k2 := k2.to hq; replace k3 := k3.to hq; replace B := Bl.then B hq; clear hq; have y0 := k0.cell 0; have y1 := k0.cell 1; have y2 := k0.cell 2; have y3 := k0.cell 3; have y4 := k0.cell 4; have y5 := k0.cell 5; have y6 := k0.cell 6; have y7 := k0.cell 7; have l0 := k0.lt; simp only [List.getElem?_toArray, List.getElem?_cons_zero, List.getElem?_cons_succ] at y0 y1 y2 y3 y4 y5 y6 y7; have p0 := k1.cell 0; have p1 := k1.cell 1; have p2 := k1.cell 2; have p3 := k1.cell 3; have p4 := k1.cell 4; have p5 := k1.cell 5; have l1 := k1.lt; simp only [List.getElem?_toArray, List.getElem?_cons_zero, List.getElem?_cons_succ] at p0 p1 p2 p3 p4 p5
  go_wp2_with fail
  refine (c_sSend g p A n c C m d D dc _ HV.out HP.out HN.out (HA.out _ B) HM.out (HC.out _ B)).mono ?_
  have hl3 := k3.lt
  rintro e w4 ⟨hq, qq, gg, D', dc', A', n', c', C', m', d', ok, rfl, HO, hn', hc', hFr, hTab, hm', hd', hFc, hCon⟩
  replace hFr := hFr.low (c := w.heap.size + 4) (by omega)
  replace hFc := hFc.low (c := w.heap.size + 4) (by omega)
  clear y0 y1 y2 y3 y4 y5 y6 y7 l0
  clear p0 p1 p2 p3 p4 p5 l1
  replace k0 := k0.to hq; replace k1 := k1.to hq; replace k2 := k2.to hq; replace k3 := k3.to hq; replace B := Bl.then B hq; clear hq
  have hTN := Lib.hid (And.intro hn' (And.intro hc' (And.intro hm' hd')))
  clear hn' hc' hm' hd'
  go_upto_region 4 with fail
  have hl8 := k3.lt
  have k8 := (Blk.new w4 74 #[.int .i64 0, .int .i64 qq.fa, .int .i64 qq.fp, .int .i64 qq.ta, .int .i64 qq.tp, .slice D' 0 dc']).alloc (.cells #[.int .i64 gg.ba, .int .i64 gg.bi, .int .i64 gg.ou, .slice A' n' c', .slice C' m' d', .int .i64 gg.fi, .int .i64 gg.ho, .int .i64 gg.no] 44)
  have k9 := Blk.new (w4.alloc (.cells #[.int .i64 0, .int .i64 qq.fa, .int .i64 qq.fp, .int .i64 qq.ta, .int .i64 qq.tp, .slice D' 0 dc'] 74)) 44 #[.int .i64 gg.ba, .int .i64 gg.bi, .int .i64 gg.ou, .slice A' n' c', .slice C' m' d', .int .i64 gg.fi, .int .i64 gg.ho, .int .i64 gg.no]
  simp only [World.size_alloc] at k9
  have hq : Below w4.heap.size w4 ((w4.alloc (.cells #[.int .i64 0, .int .i64 qq.fa, .int .i64 qq.fp, .int .i64 qq.ta, .int .i64 qq.tp, .slice D' 0 dc'] 74)).alloc (.cells #[.int .i64 gg.ba, .int .i64 gg.bi, .int .i64 gg.ou, .slice A' n' c', .slice C' m' d', .int .i64 gg.fi, .int .i64 gg.ho, .int .i64 gg.no] 44)) := ((Below.refl _ _).alloc (Nat.le_refl _) _).alloc (by simp) _
  replace hTab := Rd.to hTab hq
  replace hCon := Rd.to hCon hq
  replace k0 := k0.to hq; replace k1 := k1.to hq; replace k2 := k2.to hq; replace k3 := k3.to hq; replace B := Bl.then B hq; clear hq
  generalize (w4.alloc (.cells #[.int .i64 0, .int .i64 qq.fa, .int .i64 qq.fp, .int .i64 qq.ta, .int .i64 qq.tp, .slice D' 0 dc'] 74)).alloc (.cells #[.int .i64 gg.ba, .int .i64 gg.bi, .int .i64 gg.ou, .slice A' n' c', .slice C' m' d', .int .i64 gg.fi, .int .i64 gg.ho, .int .i64 gg.no] 44) = w6 at *
  cases ok
  · have HZ : Hid (passG g p = none) := Lib.hid (by unfold passG; rw [HO]; rfl)
    clear HO hTab hCon hFr hFc k8 k9
    have q0 := k2.cell 0; have q1 := k2.cell 1; have q2 := k2.cell 2; have q3 := k2.cell 3; have q4 := k2.cell 4; have q5 := k2.cell 5; have l2 := k2.lt; simp only [List.getElem?_toArray, List.getElem?_cons_zero, List.getElem?_cons_succ] at q0 q1 q2 q3 q4 q5
    have z0 := k3.cell 0; have z1 := k3.cell 1; have z2 := k3.cell 2; have z3 := k3.cell 3; have z4 := k3.cell 4; have z5 := k3.cell 5; have z6 := k3.cell 6; have z7 := k3.cell 7; have l3 := k3.lt; simp only [List.getElem?_toArray, List.getElem?_cons_zero, List.getElem?_cons_succ] at z0 z1 z2 z3 z4 z5 z6 z7
    have fq0 := k2.frozen 0; have fq1 := k2.frozen 1; have fq2 := k2.frozen 2; have fq3 := k2.frozen 3; have fq4 := k2.frozen 4; have fq5 := k2.frozen 5
    have fz0 := k3.frozen 0; have fz1 := k3.frozen 1; have fz2 := k3.frozen 2; have fz3 := k3.frozen 3; have fz4 := k3.frozen 4; have fz5 := k3.frozen 5; have fz6 := k3.frozen 6; have fz7 := k3.frozen 7
    go_wp2
    clear q0 q1 q2 q3 q4 q5 l2 z0 z1 z2 z3 z4 z5 z6 z7 l3 fq0 fq1 fq2 fq3 fq4 fq5 fz0 fz1 fz2 fz3 fz4 fz5 fz6 fz7
    obtain ⟨W5, e5, z5, hf5, hb5, hr5⟩ := put6 k2 (.int .i64 0) (.int .i64 0) (.int .i64 0) (.int .i64 0) (.int .i64 0) (.slice none 0 0)
    rw [e5]
    replace k3 := hf5 k3 (by omega)
    replace B := hb5 B (by omega)
    obtain ⟨W6, e6, z6, hf6, hb6, hr6⟩ := put8 k3 (.int .i64 0) (.int .i64 0) (.int .i64 0) (.slice none 0 0) (.slice none 0 0) (.int .i64 0) (.int .i64 0) (.int .i64 0)
    rw [e6]
    replace k2 := hf6 z5 (by omega)
    replace B := hb6 B (by omega)
    replace k3 := z6
    clear e5 e6 hf5 hb5 hr5 hf6 hb6 hr6 z5 z6
    have q0 := k2.cell 0; have q1 := k2.cell 1; have q2 := k2.cell 2; have q3 := k2.cell 3; have q4 := k2.cell 4; have q5 := k2.cell 5; have l2 := k2.lt; simp only [List.getElem?_toArray, List.getElem?_cons_zero, List.getElem?_cons_succ] at q0 q1 q2 q3 q4 q5
    have z0 := k3.cell 0; have z1 := k3.cell 1; have z2 := k3.cell 2; have z3 := k3.cell 3; have z4 := k3.cell 4; have z5 := k3.cell 5; have z6 := k3.cell 6; have z7 := k3.cell 7; have l3 := k3.lt; simp only [List.getElem?_toArray, List.getElem?_cons_zero, List.getElem?_cons_succ] at z0 z1 z2 z3 z4 z5 z6 z7
    refine bodyPost_ret (v := .tuple #[.agg #[.int .i64 0, .int .i64 0, .int .i64 0, .int .i64 0, .int .i64 0, .slice none 0 0], .agg #[.int .i64 0, .int .i64 0, .int .i64 0, .slice none 0 0, .slice none 0 0, .int .i64 0, .int .i64 0, .int .i64 0], .bool false]) (by simp [results, Tryz.results85, go_sem, q0, q1, q2, q3, q4, q5, z0, z1, z2, z3, z4, z5, z6, z7]) rfl ?_
    exact ⟨B, pk0, gt0, none, 0, none, 0, 0, none, 0, 0, false, rfl, HZ.out, rfl, Nat.le_refl _, Fr.none _, TM.nil _ _, rfl, Nat.le_refl _, Fr.none _, TK.nil _ _⟩
  · have hs := send_valid HV.out HP.out HF.out HO
    have HZ : Hid (passG g p = recvG gg qq) := Lib.hid (by unfold passG; rw [HO]; rfl)
    have HS := Lib.hid (And.intro hs.1 hs.2.1)
    clear HO hs
    have a0 := k8.cell 0
    have a1 := k8.cell 1
    have a2 := k8.cell 2
    have a3 := k8.cell 3
    have a4 := k8.cell 4
    have a5 := k8.cell 5
    have j0 := k9.cell 0
    have j1 := k9.cell 1
    have j2 := k9.cell 2
    have j3 := k9.cell 3
    have j4 := k9.cell 4
    have j5 := k9.cell 5
    have j6 := k9.cell 6
    have j7 := k9.cell 7
    have l8 := k8.lt
    have l9 := k9.lt
    simp only [List.getElem?_toArray, List.getElem?_cons_zero, List.getElem?_cons_succ] at a0 a1 a2 a3 a4 a5 j0 j1 j2 j3 j4 j5 j6 j7
    have hl3 := k3.lt
    have HTB := Lib.hid hTab
    have HCB := Lib.hid hCon
    clear hTab hCon hFr hFc
    go_wp2_with fail
    refine (c_sReceive gg qq A' n' c' C' m' d' D' dc' _ HS.out.1 HS.out.2 hTN.out.1 HTB.out hTN.out.2.2.1 HCB.out).mono ?_
    clear a0 a1 a2 a3 a4 a5 j0 j1 j2 j3 j4 j5 j6 j7 l8 l9 k8 k9
    rintro e w7 ⟨hq, qq, gg, D', dc', A', n', c', C', m', d', ok, rfl, HO, hn', hc', hFr, hTab, hm', hd', hFc, hCon⟩
    replace hFr := hFr.low (c := w.heap.size + 4) (by omega)
    replace hFc := hFc.low (c := w.heap.size + 4) (by omega)
    replace k0 := k0.to hq; replace k1 := k1.to hq; replace k2 := k2.to hq; replace k3 := k3.to hq; replace B := Bl.then B hq; clear hq
    have q0 := k2.cell 0; have q1 := k2.cell 1; have q2 := k2.cell 2; have q3 := k2.cell 3; have q4 := k2.cell 4; have q5 := k2.cell 5; have l2 := k2.lt; simp only [List.getElem?_toArray, List.getElem?_cons_zero, List.getElem?_cons_succ] at q0 q1 q2 q3 q4 q5
    have z0 := k3.cell 0; have z1 := k3.cell 1; have z2 := k3.cell 2; have z3 := k3.cell 3; have z4 := k3.cell 4; have z5 := k3.cell 5; have z6 := k3.cell 6; have z7 := k3.cell 7; have l3 := k3.lt; simp only [List.getElem?_toArray, List.getElem?_cons_zero, List.getElem?_cons_succ] at z0 z1 z2 z3 z4 z5 z6 z7
    have fq0 := k2.frozen 0; have fq1 := k2.frozen 1; have fq2 := k2.frozen 2; have fq3 := k2.frozen 3; have fq4 := k2.frozen 4; have fq5 := k2.frozen 5
    have fz0 := k3.frozen 0; have fz1 := k3.frozen 1; have fz2 := k3.frozen 2; have fz3 := k3.frozen 3; have fz4 := k3.frozen 4; have fz5 := k3.frozen 5; have fz6 := k3.frozen 6; have fz7 := k3.frozen 7
    go_wp2
    clear q0 q1 q2 q3 q4 q5 l2 z0 z1 z2 z3 z4 z5 z6 z7 l3 fq0 fq1 fq2 fq3 fq4 fq5 fz0 fz1 fz2 fz3 fz4 fz5 fz6 fz7
    obtain ⟨W5, e5, z5, hf5, hb5, hr5⟩ := put6 k2 (.int .i64 0) (.int .i64 qq.fa) (.int .i64 qq.fp) (.int .i64 qq.ta) (.int .i64 qq.tp) (.slice D' 0 dc')
    rw [e5]
    replace k3 := hf5 k3 (by omega)
    replace B := hb5 B (by omega)
    replace hTab := hr5.1 hTab hFr (by omega)
    replace hCon := hr5.1 hCon hFc (by omega)
    obtain ⟨W6, e6, z6, hf6, hb6, hr6⟩ := put8 k3 (.int .i64 gg.ba) (.int .i64 gg.bi) (.int .i64 gg.ou) (.slice A' n' c') (.slice C' m' d') (.int .i64 gg.fi) (.int .i64 gg.ho) (.int .i64 gg.no)
    rw [e6]
    replace k2 := hf6 z5 (by omega)
    replace B := hb6 B (by omega)
    replace hTab := hr6.1 hTab hFr (by omega)
    replace hCon := hr6.1 hCon hFc (by omega)
    replace k3 := z6
    clear e5 e6 hf5 hb5 hr5 hf6 hb6 hr6 z5 z6
    have q0 := k2.cell 0; have q1 := k2.cell 1; have q2 := k2.cell 2; have q3 := k2.cell 3; have q4 := k2.cell 4; have q5 := k2.cell 5; have l2 := k2.lt; simp only [List.getElem?_toArray, List.getElem?_cons_zero, List.getElem?_cons_succ] at q0 q1 q2 q3 q4 q5
    have z0 := k3.cell 0; have z1 := k3.cell 1; have z2 := k3.cell 2; have z3 := k3.cell 3; have z4 := k3.cell 4; have z5 := k3.cell 5; have z6 := k3.cell 6; have z7 := k3.cell 7; have l3 := k3.lt; simp only [List.getElem?_toArray, List.getElem?_cons_zero, List.getElem?_cons_succ] at z0 z1 z2 z3 z4 z5 z6 z7
    refine bodyPost_ret (v := .tuple #[.agg #[.int .i64 0, .int .i64 qq.fa, .int .i64 qq.fp, .int .i64 qq.ta, .int .i64 qq.tp, .slice D' 0 dc'], .agg #[.int .i64 gg.ba, .int .i64 gg.bi, .int .i64 gg.ou, .slice A' n' c', .slice C' m' d', .int .i64 gg.fi, .int .i64 gg.ho, .int .i64 gg.no], .bool ok]) (by simp [results, Tryz.results85, go_sem, q0, q1, q2, q3, q4, q5, z0, z1, z2, z3, z4, z5, z6, z7]) rfl ?_
    exact ⟨B, qq, gg, D', dc', A', n', c', C', m', d', ok, rfl, HZ.out.trans HO, hn', hc', hFr.low (by omega), hTab, hm', hd', hFc.low (by omega), hCon⟩
set_option maxHeartbeats 3200000 in
theorem c_sForward (g : Gt) (p : Pk) (A : Option Addr) (n c : Nat) (C : Option Addr) (m d : Nat) (D : Option Addr) (dc : Nat) (w : World) (hv : vGate g = true) (hp : vPk p = true) (hn : g.tb.length = n) (h : TM w A g.tb) (hm : g.cs.length = m) (h' : TK w C g.cs) :
    Calls Tryz.prog 50 #[.agg #[.int .i64 g.ba, .int .i64 g.bi, .int .i64 g.ou, .slice A n c, .slice C m d, .int .i64 g.fi, .int .i64 g.ho, .int .i64 g.no], .agg #[.int .i64 0, .int .i64 p.fa, .int .i64 p.fp, .int .i64 p.ta, .int .i64 p.tp, .slice D 0 dc]] w (FwdR (fwdG g p) w) := by

  have HW : Hid (wayG g p = wayV g p) := wayV_eq hv hp
  have hFW : fwdG g p = if wayG g p = 1 then sendG g p else if wayG g p = 2 then recvG g p else if wayG g p = 3 then passG g p else none := rfl
  have HFW := Lib.hid hFW
  clear hFW
  have HN := Lib.hid hn
  have HM := Lib.hid hm
  have HA : Hid (∀ W, Below w.heap.size w W → TM W A g.tb) := fun W b => h.to b
  have HC : Hid (∀ W, Below w.heap.size w W → TK W C g.cs) := fun W b => h'.to b
  have HV := Lib.hid hv
  have HP := Lib.hid hp
  have HG := Lib.hid (gate_nums hv)
  have hn8 : n ≤ 8 := hn ▸ tab_len (gate_tab hv)
  have hm10 : m ≤ 10 := hm ▸ con_len (gate_con hv)
  clear hn hm h h' hv hp
  have k0 := (((Blk.new w 44 #[.int .i64 g.ba, .int .i64 g.bi, .int .i64 g.ou, .slice A n c, .slice C m d, .int .i64 g.fi, .int .i64 g.ho, .int .i64 g.no]).alloc (.cells #[.int .i64 0, .int .i64 p.fa, .int .i64 p.fp, .int .i64 p.ta, .int .i64 p.tp, .slice D 0 dc] 74)).alloc (.cells #[.int .i64 0, .int .i64 0, .int .i64 0, .int .i64 0, .int .i64 0, .slice none 0 0] 74)).alloc (.cells #[.int .i64 0, .int .i64 0, .int .i64 0, .slice none 0 0, .slice none 0 0, .int .i64 0, .int .i64 0, .int .i64 0] 44)
  have k1 := ((Blk.new (w.alloc (.cells #[.int .i64 g.ba, .int .i64 g.bi, .int .i64 g.ou, .slice A n c, .slice C m d, .int .i64 g.fi, .int .i64 g.ho, .int .i64 g.no] 44)) 74 #[.int .i64 0, .int .i64 p.fa, .int .i64 p.fp, .int .i64 p.ta, .int .i64 p.tp, .slice D 0 dc]).alloc (.cells #[.int .i64 0, .int .i64 0, .int .i64 0, .int .i64 0, .int .i64 0, .slice none 0 0] 74)).alloc (.cells #[.int .i64 0, .int .i64 0, .int .i64 0, .slice none 0 0, .slice none 0 0, .int .i64 0, .int .i64 0, .int .i64 0] 44)
  have k2 := (Blk.new ((w.alloc (.cells #[.int .i64 g.ba, .int .i64 g.bi, .int .i64 g.ou, .slice A n c, .slice C m d, .int .i64 g.fi, .int .i64 g.ho, .int .i64 g.no] 44)).alloc (.cells #[.int .i64 0, .int .i64 p.fa, .int .i64 p.fp, .int .i64 p.ta, .int .i64 p.tp, .slice D 0 dc] 74)) 74 #[.int .i64 0, .int .i64 0, .int .i64 0, .int .i64 0, .int .i64 0, .slice none 0 0]).alloc (.cells #[.int .i64 0, .int .i64 0, .int .i64 0, .slice none 0 0, .slice none 0 0, .int .i64 0, .int .i64 0, .int .i64 0] 44)
  have k3 := Blk.new (((w.alloc (.cells #[.int .i64 g.ba, .int .i64 g.bi, .int .i64 g.ou, .slice A n c, .slice C m d, .int .i64 g.fi, .int .i64 g.ho, .int .i64 g.no] 44)).alloc (.cells #[.int .i64 0, .int .i64 p.fa, .int .i64 p.fp, .int .i64 p.ta, .int .i64 p.tp, .slice D 0 dc] 74)).alloc (.cells #[.int .i64 0, .int .i64 0, .int .i64 0, .int .i64 0, .int .i64 0, .slice none 0 0] 74)) 44 #[.int .i64 0, .int .i64 0, .int .i64 0, .slice none 0 0, .slice none 0 0, .int .i64 0, .int .i64 0, .int .i64 0]
  have B : Below w.heap.size w ((((w.alloc (.cells #[.int .i64 g.ba, .int .i64 g.bi, .int .i64 g.ou, .slice A n c, .slice C m d, .int .i64 g.fi, .int .i64 g.ho, .int .i64 g.no] 44)).alloc (.cells #[.int .i64 0, .int .i64 p.fa, .int .i64 p.fp, .int .i64 p.ta, .int .i64 p.tp, .slice D 0 dc] 74)).alloc (.cells #[.int .i64 0, .int .i64 0, .int .i64 0, .int .i64 0, .int .i64 0, .slice none 0 0] 74)).alloc (.cells #[.int .i64 0, .int .i64 0, .int .i64 0, .slice none 0 0, .slice none 0 0, .int .i64 0, .int .i64 0, .int .i64 0] 44)) := ((((Below.refl _ _).alloc (Nat.le_refl _) _).alloc (by simp) _).alloc (by simp; omega) _).alloc (by simp; omega) _
  simp only [World.size_alloc] at k1 k2 k3
  have y0 := k0.cell 0; have y1 := k0.cell 1; have y2 := k0.cell 2; have y3 := k0.cell 3; have y4 := k0.cell 4; have y5 := k0.cell 5; have y6 := k0.cell 6; have y7 := k0.cell 7; have l0 := k0.lt; simp only [List.getElem?_toArray, List.getElem?_cons_zero, List.getElem?_cons_succ] at y0 y1 y2 y3 y4 y5 y6 y7
  have p0 := k1.cell 0; have p1 := k1.cell 1; have p2 := k1.cell 2; have p3 := k1.cell 3; have p4 := k1.cell 4; have p5 := k1.cell 5; have l1 := k1.lt; simp only [List.getElem?_toArray, List.getElem?_cons_zero, List.getElem?_cons_succ] at p0 p1 p2 p3 p4 p5
  go_enter Tryz.func50, Tryz.ntmps50
  go_wp2_with fail
  refine (c_sWayOf g p A n c C m d D dc _ HV.out HP.out HN.out (HA.out _ B) HM.out (HC.out _ B)).mono ?_
  rintro e w1 ⟨rfl, hq⟩
  clear y0 y1 y2 y3 y4 y5 y6 y7 l0; clear p0 p1 p2 p3 p4 p5 l1; replace k0 := k0.to hq; replace k1 := k1.to hq; replace k2 := k2.to hq; replace k3 := k3.to hq; replace B := Bl.then B hq; clear hq; have y0 := k0.cell 0; have y1 := k0.cell 1; have y2 := k0.cell 2; have y3 := k0.cell 3; have y4 := k0.cell 4; have y5 := k0.cell 5; have y6 := k0.cell 6; have y7 := k0.cell 7; have l0 := k0.lt; simp only [List.getElem?_toArray, List.getElem?_cons_zero, List.getElem?_cons_succ] at y0 y1 y2 y3 y4 y5 y6 y7; have p0 := k1.cell 0; have p1 := k1.cell 1; have p2 := k1.cell 2; have p3 := k1.cell 3; have p4 := k1.cell 4; have p5 := k1.cell 5; have l1 := k1.lt; simp only [List.getElem?_toArray, List.getElem?_cons_zero, List.getElem?_cons_succ] at p0 p1 p2 p3 p4 p5
  rcases way_cases g p with ⟨hw, hc1, hc2, hc3⟩ | ⟨hw, hc1, hc2⟩ | ⟨hw, hc1, hc2⟩ | hw

  · have HH : Hid (inN g.ba g.bi p.fa = true ∧ inN g.ba g.bi p.ta = false ∧ p.ta ≠ g.ou) := Lib.hid (⟨hc1, hc2, hc3⟩)
    have HZ : Hid (fwdG g p = sendG g p) := Lib.hid (by rw [HFW.out, HW.out, hw, if_pos rfl])
    clear hc1 hc2 hc3
    have hl3 := k3.lt
    rw [hw]
    go_wp2_with fail
    refine (c_sSend g p A n c C m d D dc _ HV.out HP.out HN.out (HA.out _ B) HM.out (HC.out _ B)).mono ?_
    rintro e w4 ⟨hq, qq, gg, D', dc', A', n', c', C', m', d', ok, rfl, HO, hn', hc', hFr, hTab, hm', hd', hFc, hCon⟩
    replace hFr := hFr.low (c := w.heap.size + 4) (by omega)
    replace hFc := hFc.low (c := w.heap.size + 4) (by omega)
    clear y0 y1 y2 y3 y4 y5 y6 y7 l0
    clear p0 p1 p2 p3 p4 p5 l1
    replace k0 := k0.to hq; replace k1 := k1.to hq; replace k2 := k2.to hq; replace k3 := k3.to hq; replace B := Bl.then B hq; clear hq
    have q0 := k2.cell 0; have q1 := k2.cell 1; have q2 := k2.cell 2; have q3 := k2.cell 3; have q4 := k2.cell 4; have q5 := k2.cell 5; have l2 := k2.lt; simp only [List.getElem?_toArray, List.getElem?_cons_zero, List.getElem?_cons_succ] at q0 q1 q2 q3 q4 q5
    have z0 := k3.cell 0; have z1 := k3.cell 1; have z2 := k3.cell 2; have z3 := k3.cell 3; have z4 := k3.cell 4; have z5 := k3.cell 5; have z6 := k3.cell 6; have z7 := k3.cell 7; have l3 := k3.lt; simp only [List.getElem?_toArray, List.getElem?_cons_zero, List.getElem?_cons_succ] at z0 z1 z2 z3 z4 z5 z6 z7
    have fq0 := k2.frozen 0; have fq1 := k2.frozen 1; have fq2 := k2.frozen 2; have fq3 := k2.frozen 3; have fq4 := k2.frozen 4; have fq5 := k2.frozen 5
    have fz0 := k3.frozen 0; have fz1 := k3.frozen 1; have fz2 := k3.frozen 2; have fz3 := k3.frozen 3; have fz4 := k3.frozen 4; have fz5 := k3.frozen 5; have fz6 := k3.frozen 6; have fz7 := k3.frozen 7
    go_wp2
    clear q0 q1 q2 q3 q4 q5 l2 z0 z1 z2 z3 z4 z5 z6 z7 l3 fq0 fq1 fq2 fq3 fq4 fq5 fz0 fz1 fz2 fz3 fz4 fz5 fz6 fz7
    obtain ⟨W5, e5, z5, hf5, hb5, hr5⟩ := put6 k2 (.int .i64 0) (.int .i64 qq.fa) (.int .i64 qq.fp) (.int .i64 qq.ta) (.int .i64 qq.tp) (.slice D' 0 dc')
    rw [e5]
    replace k3 := hf5 k3 (by omega)
    replace B := hb5 B (by omega)
    replace hTab := hr5.1 hTab hFr (by omega)
    replace hCon := hr5.1 hCon hFc (by omega)
    obtain ⟨W6, e6, z6, hf6, hb6, hr6⟩ := put8 k3 (.int .i64 gg.ba) (.int .i64 gg.bi) (.int .i64 gg.ou) (.slice A' n' c') (.slice C' m' d') (.int .i64 gg.fi) (.int .i64 gg.ho) (.int .i64 gg.no)
    rw [e6]
    replace k2 := hf6 z5 (by omega)
    replace B := hb6 B (by omega)
    replace hTab := hr6.1 hTab hFr (by omega)
    replace hCon := hr6.1 hCon hFc (by omega)
    replace k3 := z6
    clear e5 e6 hf5 hb5 hr5 hf6 hb6 hr6 z5 z6
    have q0 := k2.cell 0; have q1 := k2.cell 1; have q2 := k2.cell 2; have q3 := k2.cell 3; have q4 := k2.cell 4; have q5 := k2.cell 5; have l2 := k2.lt; simp only [List.getElem?_toArray, List.getElem?_cons_zero, List.getElem?_cons_succ] at q0 q1 q2 q3 q4 q5
    have z0 := k3.cell 0; have z1 := k3.cell 1; have z2 := k3.cell 2; have z3 := k3.cell 3; have z4 := k3.cell 4; have z5 := k3.cell 5; have z6 := k3.cell 6; have z7 := k3.cell 7; have l3 := k3.lt; simp only [List.getElem?_toArray, List.getElem?_cons_zero, List.getElem?_cons_succ] at z0 z1 z2 z3 z4 z5 z6 z7
    refine bodyPost_ret (v := .tuple #[.agg #[.int .i64 0, .int .i64 qq.fa, .int .i64 qq.fp, .int .i64 qq.ta, .int .i64 qq.tp, .slice D' 0 dc'], .agg #[.int .i64 gg.ba, .int .i64 gg.bi, .int .i64 gg.ou, .slice A' n' c', .slice C' m' d', .int .i64 gg.fi, .int .i64 gg.ho, .int .i64 gg.no], .bool ok]) (by simp [results, Tryz.results50, go_sem, q0, q1, q2, q3, q4, q5, z0, z1, z2, z3, z4, z5, z6, z7]) rfl ?_
    exact ⟨B, qq, gg, D', dc', A', n', c', C', m', d', ok, rfl, HZ.out.trans HO, hn', hc', hFr.low (by omega), hTab, hm', hd', hFc.low (by omega), hCon⟩
  · have HH : Hid (p.ta = g.ou ∧ inN g.ba g.bi p.fa = false) := Lib.hid (⟨hc2, hc1⟩)
    have HZ : Hid (fwdG g p = recvG g p) := Lib.hid (by rw [HFW.out, HW.out, hw, if_neg (by decide), if_pos rfl])
    clear hc1 hc2
    have hl3 := k3.lt
    rw [hw]
    go_wp2_with fail
    refine (c_sReceive g p A n c C m d D dc _ HV.out HP.out HN.out (HA.out _ B) HM.out (HC.out _ B)).mono ?_
    rintro e w4 ⟨hq, qq, gg, D', dc', A', n', c', C', m', d', ok, rfl, HO, hn', hc', hFr, hTab, hm', hd', hFc, hCon⟩
    replace hFr := hFr.low (c := w.heap.size + 4) (by omega)
    replace hFc := hFc.low (c := w.heap.size + 4) (by omega)
    clear y0 y1 y2 y3 y4 y5 y6 y7 l0
    clear p0 p1 p2 p3 p4 p5 l1
    replace k0 := k0.to hq; replace k1 := k1.to hq; replace k2 := k2.to hq; replace k3 := k3.to hq; replace B := Bl.then B hq; clear hq
    have q0 := k2.cell 0; have q1 := k2.cell 1; have q2 := k2.cell 2; have q3 := k2.cell 3; have q4 := k2.cell 4; have q5 := k2.cell 5; have l2 := k2.lt; simp only [List.getElem?_toArray, List.getElem?_cons_zero, List.getElem?_cons_succ] at q0 q1 q2 q3 q4 q5
    have z0 := k3.cell 0; have z1 := k3.cell 1; have z2 := k3.cell 2; have z3 := k3.cell 3; have z4 := k3.cell 4; have z5 := k3.cell 5; have z6 := k3.cell 6; have z7 := k3.cell 7; have l3 := k3.lt; simp only [List.getElem?_toArray, List.getElem?_cons_zero, List.getElem?_cons_succ] at z0 z1 z2 z3 z4 z5 z6 z7
    have fq0 := k2.frozen 0; have fq1 := k2.frozen 1; have fq2 := k2.frozen 2; have fq3 := k2.frozen 3; have fq4 := k2.frozen 4; have fq5 := k2.frozen 5
    have fz0 := k3.frozen 0; have fz1 := k3.frozen 1; have fz2 := k3.frozen 2; have fz3 := k3.frozen 3; have fz4 := k3.frozen 4; have fz5 := k3.frozen 5; have fz6 := k3.frozen 6; have fz7 := k3.frozen 7
    go_wp2
    clear q0 q1 q2 q3 q4 q5 l2 z0 z1 z2 z3 z4 z5 z6 z7 l3 fq0 fq1 fq2 fq3 fq4 fq5 fz0 fz1 fz2 fz3 fz4 fz5 fz6 fz7
    obtain ⟨W5, e5, z5, hf5, hb5, hr5⟩ := put6 k2 (.int .i64 0) (.int .i64 qq.fa) (.int .i64 qq.fp) (.int .i64 qq.ta) (.int .i64 qq.tp) (.slice D' 0 dc')
    rw [e5]
    replace k3 := hf5 k3 (by omega)
    replace B := hb5 B (by omega)
    replace hTab := hr5.1 hTab hFr (by omega)
    replace hCon := hr5.1 hCon hFc (by omega)
    obtain ⟨W6, e6, z6, hf6, hb6, hr6⟩ := put8 k3 (.int .i64 gg.ba) (.int .i64 gg.bi) (.int .i64 gg.ou) (.slice A' n' c') (.slice C' m' d') (.int .i64 gg.fi) (.int .i64 gg.ho) (.int .i64 gg.no)
    rw [e6]
    replace k2 := hf6 z5 (by omega)
    replace B := hb6 B (by omega)
    replace hTab := hr6.1 hTab hFr (by omega)
    replace hCon := hr6.1 hCon hFc (by omega)
    replace k3 := z6
    clear e5 e6 hf5 hb5 hr5 hf6 hb6 hr6 z5 z6
    have q0 := k2.cell 0; have q1 := k2.cell 1; have q2 := k2.cell 2; have q3 := k2.cell 3; have q4 := k2.cell 4; have q5 := k2.cell 5; have l2 := k2.lt; simp only [List.getElem?_toArray, List.getElem?_cons_zero, List.getElem?_cons_succ] at q0 q1 q2 q3 q4 q5
    have z0 := k3.cell 0; have z1 := k3.cell 1; have z2 := k3.cell 2; have z3 := k3.cell 3; have z4 := k3.cell 4; have z5 := k3.cell 5; have z6 := k3.cell 6; have z7 := k3.cell 7; have l3 := k3.lt; simp only [List.getElem?_toArray, List.getElem?_cons_zero, List.getElem?_cons_succ] at z0 z1 z2 z3 z4 z5 z6 z7
    refine bodyPost_ret (v := .tuple #[.agg #[.int .i64 0, .int .i64 qq.fa, .int .i64 qq.fp, .int .i64 qq.ta, .int .i64 qq.tp, .slice D' 0 dc'], .agg #[.int .i64 gg.ba, .int .i64 gg.bi, .int .i64 gg.ou, .slice A' n' c', .slice C' m' d', .int .i64 gg.fi, .int .i64 gg.ho, .int .i64 gg.no], .bool ok]) (by simp [results, Tryz.results50, go_sem, q0, q1, q2, q3, q4, q5, z0, z1, z2, z3, z4, z5, z6, z7]) rfl ?_
    exact ⟨B, qq, gg, D', dc', A', n', c', C', m', d', ok, rfl, HZ.out.trans HO, hn', hc', hFr.low (by omega), hTab, hm', hd', hFc.low (by omega), hCon⟩
  · have HH : Hid (inN g.ba g.bi p.fa = true ∧ p.ta = g.ou) := Lib.hid (⟨hc1, hc2⟩)
    have HZ : Hid (fwdG g p = passG g p) := Lib.hid (by rw [HFW.out, HW.out, hw, if_neg (by decide), if_neg (by decide), if_pos rfl])
    clear hc1 hc2
    have hl3 := k3.lt
    rw [hw]
    go_wp2_with fail
    refine (c_sPass g p A n c C m d D dc _ HV.out HP.out HH.out.1 HH.out.2 HN.out (HA.out _ B) HM.out (HC.out _ B)).mono ?_
    rintro e w4 ⟨hq, qq, gg, D', dc', A', n', c', C', m', d', ok, rfl, HO, hn', hc', hFr, hTab, hm', hd', hFc, hCon⟩
    replace hFr := hFr.low (c := w.heap.size + 4) (by omega)
    replace hFc := hFc.low (c := w.heap.size + 4) (by omega)
    clear y0 y1 y2 y3 y4 y5 y6 y7 l0
    clear p0 p1 p2 p3 p4 p5 l1
    replace k0 := k0.to hq; replace k1 := k1.to hq; replace k2 := k2.to hq; replace k3 := k3.to hq; replace B := Bl.then B hq; clear hq
    have q0 := k2.cell 0; have q1 := k2.cell 1; have q2 := k2.cell 2; have q3 := k2.cell 3; have q4 := k2.cell 4; have q5 := k2.cell 5; have l2 := k2.lt; simp only [List.getElem?_toArray, List.getElem?_cons_zero, List.getElem?_cons_succ] at q0 q1 q2 q3 q4 q5
    have z0 := k3.cell 0; have z1 := k3.cell 1; have z2 := k3.cell 2; have z3 := k3.cell 3; have z4 := k3.cell 4; have z5 := k3.cell 5; have z6 := k3.cell 6; have z7 := k3.cell 7; have l3 := k3.lt; simp only [List.getElem?_toArray, List.getElem?_cons_zero, List.getElem?_cons_succ] at z0 z1 z2 z3 z4 z5 z6 z7
    have fq0 := k2.frozen 0; have fq1 := k2.frozen 1; have fq2 := k2.frozen 2; have fq3 := k2.frozen 3; have fq4 := k2.frozen 4; have fq5 := k2.frozen 5
    have fz0 := k3.frozen 0; have fz1 := k3.frozen 1; have fz2 := k3.frozen 2; have fz3 := k3.frozen 3; have fz4 := k3.frozen 4; have fz5 := k3.frozen 5; have fz6 := k3.frozen 6; have fz7 := k3.frozen 7
    go_wp2
    clear q0 q1 q2 q3 q4 q5 l2 z0 z1 z2 z3 z4 z5 z6 z7 l3 fq0 fq1 fq2 fq3 fq4 fq5 fz0 fz1 fz2 fz3 fz4 fz5 fz6 fz7
    obtain ⟨W5, e5, z5, hf5, hb5, hr5⟩ := put6 k2 (.int .i64 0) (.int .i64 qq.fa) (.int .i64 qq.fp) (.int .i64 qq.ta) (.int .i64 qq.tp) (.slice D' 0 dc')
    rw [e5]
    replace k3 := hf5 k3 (by omega)
    replace B := hb5 B (by omega)
    replace hTab := hr5.1 hTab hFr (by omega)
    replace hCon := hr5.1 hCon hFc (by omega)
    obtain ⟨W6, e6, z6, hf6, hb6, hr6⟩ := put8 k3 (.int .i64 gg.ba) (.int .i64 gg.bi) (.int .i64 gg.ou) (.slice A' n' c') (.slice C' m' d') (.int .i64 gg.fi) (.int .i64 gg.ho) (.int .i64 gg.no)
    rw [e6]
    replace k2 := hf6 z5 (by omega)
    replace B := hb6 B (by omega)
    replace hTab := hr6.1 hTab hFr (by omega)
    replace hCon := hr6.1 hCon hFc (by omega)
    replace k3 := z6
    clear e5 e6 hf5 hb5 hr5 hf6 hb6 hr6 z5 z6
    have q0 := k2.cell 0; have q1 := k2.cell 1; have q2 := k2.cell 2; have q3 := k2.cell 3; have q4 := k2.cell 4; have q5 := k2.cell 5; have l2 := k2.lt; simp only [List.getElem?_toArray, List.getElem?_cons_zero, List.getElem?_cons_succ] at q0 q1 q2 q3 q4 q5
    have z0 := k3.cell 0; have z1 := k3.cell 1; have z2 := k3.cell 2; have z3 := k3.cell 3; have z4 := k3.cell 4; have z5 := k3.cell 5; have z6 := k3.cell 6; have z7 := k3.cell 7; have l3 := k3.lt; simp only [List.getElem?_toArray, List.getElem?_cons_zero, List.getElem?_cons_succ] at z0 z1 z2 z3 z4 z5 z6 z7
    refine bodyPost_ret (v := .tuple #[.agg #[.int .i64 0, .int .i64 qq.fa, .int .i64 qq.fp, .int .i64 qq.ta, .int .i64 qq.tp, .slice D' 0 dc'], .agg #[.int .i64 gg.ba, .int .i64 gg.bi, .int .i64 gg.ou, .slice A' n' c', .slice C' m' d', .int .i64 gg.fi, .int .i64 gg.ho, .int .i64 gg.no], .bool ok]) (by simp [results, Tryz.results50, go_sem, q0, q1, q2, q3, q4, q5, z0, z1, z2, z3, z4, z5, z6, z7]) rfl ?_
    exact ⟨B, qq, gg, D', dc', A', n', c', C', m', d', ok, rfl, HZ.out.trans HO, hn', hc', hFr.low (by omega), hTab, hm', hd', hFc.low (by omega), hCon⟩
  · have HZ : Hid (fwdG g p = none) := Lib.hid (by rw [HFW.out, HW.out, hw, if_neg (by decide), if_neg (by decide), if_neg (by decide)])
    rw [hw]
    clear y0 y1 y2 y3 y4 y5 y6 y7 l0
    clear p0 p1 p2 p3 p4 p5 l1
    have q0 := k2.cell 0; have q1 := k2.cell 1; have q2 := k2.cell 2; have q3 := k2.cell 3; have q4 := k2.cell 4; have q5 := k2.cell 5; have l2 := k2.lt; simp only [List.getElem?_toArray, List.getElem?_cons_zero, List.getElem?_cons_succ] at q0 q1 q2 q3 q4 q5
    have z0 := k3.cell 0; have z1 := k3.cell 1; have z2 := k3.cell 2; have z3 := k3.cell 3; have z4 := k3.cell 4; have z5 := k3.cell 5; have z6 := k3.cell 6; have z7 := k3.cell 7; have l3 := k3.lt; simp only [List.getElem?_toArray, List.getElem?_cons_zero, List.getElem?_cons_succ] at z0 z1 z2 z3 z4 z5 z6 z7
    have fq0 := k2.frozen 0; have fq1 := k2.frozen 1; have fq2 := k2.frozen 2; have fq3 := k2.frozen 3; have fq4 := k2.frozen 4; have fq5 := k2.frozen 5
    have fz0 := k3.frozen 0; have fz1 := k3.frozen 1; have fz2 := k3.frozen 2; have fz3 := k3.frozen 3; have fz4 := k3.frozen 4; have fz5 := k3.frozen 5; have fz6 := k3.frozen 6; have fz7 := k3.frozen 7
    go_wp2
    clear q0 q1 q2 q3 q4 q5 l2 z0 z1 z2 z3 z4 z5 z6 z7 l3 fq0 fq1 fq2 fq3 fq4 fq5 fz0 fz1 fz2 fz3 fz4 fz5 fz6 fz7
    obtain ⟨W5, e5, z5, hf5, hb5, hr5⟩ := put6 k2 (.int .i64 0) (.int .i64 0) (.int .i64 0) (.int .i64 0) (.int .i64 0) (.slice none 0 0)
    rw [e5]
    replace k3 := hf5 k3 (by omega)
    replace B := hb5 B (by omega)
    obtain ⟨W6, e6, z6, hf6, hb6, hr6⟩ := put8 k3 (.int .i64 0) (.int .i64 0) (.int .i64 0) (.slice none 0 0) (.slice none 0 0) (.int .i64 0) (.int .i64 0) (.int .i64 0)
    rw [e6]
    replace k2 := hf6 z5 (by omega)
    replace B := hb6 B (by omega)
    replace k3 := z6
    clear e5 e6 hf5 hb5 hr5 hf6 hb6 hr6 z5 z6
    have q0 := k2.cell 0; have q1 := k2.cell 1; have q2 := k2.cell 2; have q3 := k2.cell 3; have q4 := k2.cell 4; have q5 := k2.cell 5; have l2 := k2.lt; simp only [List.getElem?_toArray, List.getElem?_cons_zero, List.getElem?_cons_succ] at q0 q1 q2 q3 q4 q5
    have z0 := k3.cell 0; have z1 := k3.cell 1; have z2 := k3.cell 2; have z3 := k3.cell 3; have z4 := k3.cell 4; have z5 := k3.cell 5; have z6 := k3.cell 6; have z7 := k3.cell 7; have l3 := k3.lt; simp only [List.getElem?_toArray, List.getElem?_cons_zero, List.getElem?_cons_succ] at z0 z1 z2 z3 z4 z5 z6 z7
    refine bodyPost_ret (v := .tuple #[.agg #[.int .i64 0, .int .i64 0, .int .i64 0, .int .i64 0, .int .i64 0, .slice none 0 0], .agg #[.int .i64 0, .int .i64 0, .int .i64 0, .slice none 0 0, .slice none 0 0, .int .i64 0, .int .i64 0, .int .i64 0], .bool false]) (by simp [results, Tryz.results50, go_sem, q0, q1, q2, q3, q4, q5, z0, z1, z2, z3, z4, z5, z6, z7]) rfl ?_
    exact ⟨B, pk0, gt0, none, 0, none, 0, 0, none, 0, 0, false, rfl, HZ.out, rfl, Nat.le_refl _, Fr.none _, TM.nil _ _, rfl, Nat.le_refl _, Fr.none _, TK.nil _ _⟩
end Go.Proofs.YtjflfhjnbccpmaaGreatDoor
namespace Go.Proofs.YtjflfhjnbccpmaaGreatDoor
open Go.RowKit
theorem goneP_succ {l : List Mpg} {now hold : Int} {k : Nat} (hk : k < l.length) : goneP l now hold (k + 1) = goneP l now hold k ++ if hold ≤ now - (mn l k).la then [(mn l k).po] else [] := by
  unfold goneP
  rw [List.take_add_one, List.getElem?_eq_getElem hk, List.filter_append, List.map_append]
  have e : mn l k = l[k] := by simp [mn, hk]
  rw [e]
  congr 1
  unfold keepM
  by_cases h : hold ≤ now - l[k].la <;> simp [h]
theorem goneP_len (l : List Mpg) (now hold : Int) (k : Nat) : (goneP l now hold k).length ≤ k := by
  unfold goneP
  rw [List.length_map]
  exact Nat.le_trans (List.length_filter_le _ _) (by rw [List.length_take]; omega)
theorem timV_at {l : List Mpg} {now hold : Int} (h : timV l now hold = true) {k : Nat} (hk : k < l.length) : expW (mn l k).la now hold = decide (hold ≤ now - (mn l k).la) ∧ 0 ≤ (mn l k).la ∧ (mn l k).la ≤ 10000 ∧ 0 ≤ now ∧ now ≤ 10000 := by
  unfold timV at h
  simp only [Bool.and_eq_true] at h
  have h1 := okM_iff.1 (tab_at h.1 hk).1
  have h2 := inB_true h.2.1
  exact ⟨expW_at h1.2.2.1 h1.2.2.2 h2.1 h2.2, h1.2.2.1, h1.2.2.2, h2.1, h2.2⟩
set_option maxHeartbeats 1600000 in
theorem c_iExpiredPorts (A : Option Addr) (n c : Nat) (l : List Mpg) (now hold : Int) (w : World) (hn : l.length = n) (hc : n ≤ c) (h : TM w A l) (hl : n ≤ 1000) (hv : timV l now hold = true) :
    Calls Tryz.prog 71 #[.slice A n c, .int .i64 now, .int .i64 hold] w fun e w' => ∃ A' q, e = .returned (.slice A' q q) ∧ (goneP l now hold n).length = q ∧ Fr A' w.heap.size ∧ RI w' A' (goneP l now hold n) ∧ Below w.heap.size w w' := by
  have HN := Lib.hid hn
  have HA : Hid (∀ W, Below w.heap.size w W → TM W A l) := fun W b => h.to b
  have HV := Lib.hid hv
  clear hn h hv
  obtain ⟨i0, hi, hz0, hz1, hz2⟩ := info_parts int_info
  go_enter Tryz.func71, Tryz.ntmps71
  go_wp2_with fail
  refine (c_timed A n c l now hold _ HN.out hc (HA.out _ (Below.refl _ _)) (by omega)).mono ?_
  rw [HV.out]
  rintro e w1 ⟨rfl, B⟩
  have ho : w1.ownsRow w.heap.size 3 1 (.slice none 0 0) 0 [] := World.ownsRow_nil _ _ _ _
  go_wp2
  go_loopw [7, 17] (fun v i wr => ∃ (k : Nat) (v' : Value), k ≤ n ∧ i = .int .i64 k ∧ v' = v ∧ Hid (wr.ownsRow w.heap.size 3 1 v' (goneP l now hold k).length ((goneP l now hold k).map (Value.int .i64))) ∧ Hid (Below w.heap.size w wr)) (fun _ i _ => n - (intOf i).toNat)
  case atStart => exact ⟨0, _, Nat.zero_le _, rfl, rfl, ho, B⟩
  case round =>
    clear ho B
    obtain ⟨k, v', hk, rfl, rfl, HO, HB⟩ := hrel
    have B := HB.out
    by_cases hlt : k < n
    · have hkl : Hid (k < l.length) := Lib.hid (by rw [HN.out]; exact hlt)
      obtain ⟨b0, off, rfl, hb0, c0, c1, c2, c3⟩ := (HA.out _ B).get hkl.out
      have hs := goneP_succ (now := now) (hold := hold) hkl.out
      have hml := goneP_len l now hold k
      have hex := (timV_at HV.out hkl.out).1
      have HE := Lib.hid hex
      have e2 : 0 ≤ (k : Int) ∧ (k : Int) < n := by omega
      have k5 := Blk.new wr 84 #[.int .i64 (mn l k).ad, .int .i64 (mn l k).ep, .int .i64 (mn l k).po, .int .i64 (mn l k).la]
      have B5 := B.alloc B.size (.cells #[.int .i64 (mn l k).ad, .int .i64 (mn l k).ep, .int .i64 (mn l k).po, .int .i64 (mn l k).la] 84)
      have ho5 := World.ownsRow.alloc HO.out (.cells #[.int .i64 (mn l k).ad, .int .i64 (mn l k).ep, .int .i64 (mn l k).po, .int .i64 (mn l k).la] 84)
      clear hex HO
      go_wp2_with fail
      refine (c_iExpired (mn l k) now hold _).mono ?_
      rw [HE.out]
      rintro e w2 ⟨rfl, hq⟩
      replace k5 := k5.to hq
      replace ho5 := own_to ho5 hq (Nat.le_refl _)
      replace B5 := Bl.then B5 hq
      clear hq c0 c1 c2 c3 hb0
      have x2 := k5.cell 2
      have hl5 := k5.lt
      simp only [List.getElem?_toArray, List.getElem?_cons_zero, List.getElem?_cons_succ] at x2
      by_cases hh : hold ≤ now - (mn l k).la
      · have t0 : decide (hold ≤ now - (mn l k).la) = true := by rw [decide_eq_true_eq]; exact hh
        rw [if_pos hh] at hs
        have HSS := Lib.hid hs
        clear hs hh
        generalize hlle : goneP l now hold k = zs at ho5 hml HSS
        have HLL := Lib.hid hlle
        clear hlle
        have hoR := World.ownsRow.alloc ho5 (.cells #[.int .i64 (mn l k).po] 3)
        go_wp2_with (at_builtin; go_must (refine wpList_append_rd _ rfl _ _ 34 rfl w.heap.size 3 i0 _ 1 8 Tryz.underlying34 hi hz0 hz1 hz2 rfl (by omega) _ zs.length (zs.map (Value.int .i64)) rfl hoR (some ⟨w2.heap.size, 0, none⟩) 1 1 [.int .i64 (mn l k).po] rfl (lit_ints (w := w2) [(mn l k).po] rfl rfl) (by simp) (one_ints [(mn l k).po]) (by unfold maxLen; omega) (by omega) (by have := B5.size; simp; omega) ?_; intro v1 w5 ho6 hg5 hat5; clear hat5))
        have B6 := (B5.alloc B5.size (.cells #[.int .i64 (mn l k).po] 3)).grown hg5 (by have := B5.size; simp; omega) (fun j hj => (World.ownsRow.lt hoR j hj).1)
        go_roundw
        case rel =>
          refine ⟨k + 1, v1, by omega, by go_num, rfl, ?_, B6⟩
          rw [HSS.out]
          show World.ownsRow _ _ _ _ _ _ _
          rw [List.length_append, List.map_append]
          exact ho6
        case measure => simp [intOf]; omega
      · have t0 : decide (hold ≤ now - (mn l k).la) = false := by rw [decide_eq_false_iff_not]; exact hh
        rw [if_neg hh, List.append_nil] at hs
        have HSS := Lib.hid hs
        clear hs hh
        go_wp2
        go_roundw
        case rel => exact ⟨k + 1, v', by omega, by go_num, rfl, by rw [HSS.out]; exact ho5, B5⟩
        case measure => simp [intOf]; omega
    · obtain rfl : k = n := by omega
      obtain ⟨q, hq⟩ : ∃ q, (goneP l now hold k).length = q := ⟨_, rfl⟩
      have ho := HO.out
      rw [hq] at ho
      obtain ⟨E, d, rfl, hd, hdm, -⟩ := own_slice ho
      have hF := own_fr ho
      have hR := RI.of_own ho
      have HF := Lib.hid hF
      have HR := Lib.hid hR
      have HQ := Lib.hid hq
      clear HO ho hF hR hq
      go_wp2_with fail
      refine (c_Clip _ _ _ _ hd hdm).mono ?_
      rintro e w' ⟨rfl, rfl⟩
      go_wp2
      go_ret
      exact ⟨E, q, rfl, HQ.out, HF.out, HR.out, B⟩
theorem c_validTimer (now hold : Int) (w : World) : Calls Tryz.prog 179 #[.int .i64 now, .int .i64 hold] w fun e w' => e = .returned (.bool (inB now 0 10000 && inB hold 1 500)) ∧ w = w' := by
  cases h1 : inB now 0 10000
  · go_enter Tryz.func179, Tryz.ntmps179
    go_wp2_with fail
    refine (c_inRange _ _ _ _).mono ?_
    rw [h1]
    rintro e w' ⟨rfl, rfl⟩
    go_wp2
    go_ret
    exact ⟨rfl, rfl⟩
  · go_enter Tryz.func179, Tryz.ntmps179
    go_wp2_with fail
    refine (c_inRange _ _ _ _).mono ?_
    rw [h1]
    rintro e w' ⟨rfl, rfl⟩
    go_wp2_with fail
    refine (c_inRange _ _ _ _).mono ?_
    rintro e w' ⟨rfl, rfl⟩
    go_wp2
    go_ret
    exact ⟨rfl, rfl⟩
set_option maxHeartbeats 1600000 in
theorem c_sExpiredPorts (A : Option Addr) (n c : Nat) (l : List Mpg) (now hold : Int) (w : World) (hn : l.length = n) (h : TM w A l) (hl : n ≤ 1000) (hv : timV l now hold = true) :
    Calls Tryz.prog 149 #[.slice A n c, .int .i64 now, .int .i64 hold] w fun e w' => ∃ A' q c', e = .returned (.slice A' q c') ∧ (goneP l now hold n).length = q ∧ Fr A' w.heap.size ∧ RI w' A' (goneP l now hold n) ∧ Below w.heap.size w w' := by
  have HN := Lib.hid hn
  have HA : Hid (∀ W, Below w.heap.size w W → TM W A l) := fun W b => h.to b
  have HV := Lib.hid hv
  have HV2 : Hid (vTab l = true ∧ (inB now 0 10000 && inB hold 1 500) = true) := Lib.hid (by unfold timV at hv; rw [Bool.and_eq_true] at hv; exact hv)
  clear hn h hv
  obtain ⟨i0, hi, hz0, hz1, hz2⟩ := info_parts int_info
  have ho : (w.alloc (.cells #[] 3)).ownsRow w.heap.size 3 1 (.slice (some ⟨w.heap.size, 0, none⟩) 0 0) 0 [] := own_empty (w := w) (Nat.le_refl _) rfl
  have B : Below w.heap.size w (w.alloc (.cells #[] 3)) := (Below.refl _ _).alloc (Nat.le_refl _) _
  go_enter Tryz.func149, Tryz.ntmps149
  go_wp2_with fail
  refine (c_sValidTable A n c l _ HN.out (HA.out _ B) (by omega)).mono ?_
  rw [HV2.out.1]
  rintro e w1 ⟨rfl, hq⟩
  replace ho := own_to ho hq (Nat.le_refl _)
  replace B := Bl.then B hq
  clear hq
  go_wp2_with fail
  refine (c_validTimer now hold _).mono ?_
  rw [HV2.out.2]
  rintro e w' ⟨rfl, rfl⟩
  go_wp2
  go_loopw [7, 8] (fun v i wr => ∃ (k : Nat) (v' : Value), k ≤ n ∧ i = .int .i64 k ∧ v' = v ∧ Hid (wr.ownsRow w.heap.size 3 1 v' (goneP l now hold k).length ((goneP l now hold k).map (Value.int .i64))) ∧ Hid (Below w.heap.size w wr)) (fun _ i _ => n - (intOf i).toNat)
  case atStart => exact ⟨0, _, Nat.zero_le _, rfl, rfl, ho, B⟩
  case round =>
    clear ho B
    obtain ⟨k, v', hk, rfl, rfl, HO, HB⟩ := hrel
    have B := HB.out
    by_cases hlt : k < n
    · have hkl : Hid (k < l.length) := Lib.hid (by rw [HN.out]; exact hlt)
      obtain ⟨b0, off, rfl, hb0, c0, c1, c2, c3⟩ := (HA.out _ B).get hkl.out
      have hs := goneP_succ (now := now) (hold := hold) hkl.out
      have hml := goneP_len l now hold k
      have htt := (timV_at HV.out hkl.out).2
      have e2 : 0 ≤ (k : Int) ∧ (k : Int) < n := by omega
      have ho5 := HO.out
      clear HO
      go_wp2_with fail
      refine (c_expired (mn l k) now hold _ (by omega) (by omega)).mono ?_
      rintro e w2 ⟨rfl, hq⟩
      replace ho5 := own_to ho5 hq (Nat.le_refl _)
      have B5 := Bl.then B hq
      clear hq c0 c1 c2 c3 hb0 htt
      obtain ⟨b0', off', e', hb0, c0, c1, c2, c3⟩ := (HA.out _ B5).get hkl.out
      cases e'
      by_cases hh : hold ≤ now - (mn l k).la
      · have t0 : decide (hold ≤ now - (mn l k).la) = true := by rw [decide_eq_true_eq]; exact hh
        rw [if_pos hh] at hs
        have HSS := Lib.hid hs
        clear hs hh
        generalize hlle : goneP l now hold k = zs at ho5 hml HSS
        have HLL := Lib.hid hlle
        clear hlle
        have hoR := World.ownsRow.alloc ho5 (.cells #[.int .i64 (mn l k).po] 3)
        go_wp2_with (at_builtin; go_must (refine wpList_append_rd _ rfl _ _ 34 rfl w.heap.size 3 i0 _ 1 8 Tryz.underlying34 hi hz0 hz1 hz2 rfl (by omega) _ zs.length (zs.map (Value.int .i64)) rfl hoR (some ⟨w2.heap.size, 0, none⟩) 1 1 [.int .i64 (mn l k).po] rfl (lit_ints (w := w2) [(mn l k).po] rfl rfl) (by simp) (one_ints [(mn l k).po]) (by unfold maxLen; omega) (by omega) (by have := B5.size; simp; omega) ?_; intro v1 w5 ho6 hg5 hat5; clear hat5))
        have B6 := (B5.alloc B5.size (.cells #[.int .i64 (mn l k).po] 3)).grown hg5 (by have := B5.size; simp; omega) (fun j hj => (World.ownsRow.lt hoR j hj).1)
        go_roundw
        case rel =>
          refine ⟨k + 1, v1, by omega, by go_num, rfl, ?_, B6⟩
          rw [HSS.out]
          show World.ownsRow _ _ _ _ _ _ _
          rw [List.length_append, List.map_append]
          exact ho6
        case measure => simp [intOf]; omega
      · have t0 : decide (hold ≤ now - (mn l k).la) = false := by rw [decide_eq_false_iff_not]; exact hh
        rw [if_neg hh, List.append_nil] at hs
        have HSS := Lib.hid hs
        clear hs hh
        go_wp2
        go_roundw
        case rel => exact ⟨k + 1, v', by omega, by go_num, rfl, by rw [HSS.out]; exact ho5, B5⟩
        case measure => simp [intOf]; omega
    · obtain rfl : k = n := by omega
      obtain ⟨q, hq⟩ : ∃ q, (goneP l now hold k).length = q := ⟨_, rfl⟩
      have ho := HO.out
      rw [hq] at ho
      obtain ⟨E, d, rfl, hd, hdm, -⟩ := own_slice ho
      have hF := own_fr ho
      have hR := RI.of_own ho
      have HF := Lib.hid hF
      have HR := Lib.hid hR
      have HQ := Lib.hid hq
      clear HO ho hF hR hq
      go_wp2
      go_ret
      exact ⟨E, q, d, rfl, HQ.out, HF.out, HR.out, B⟩
def drpK (l : List Con) (p : Int) (k : Nat) : List Con := (l.take k).filter (fun c => !(c.po == p))
theorem drpK_succ {l : List Con} {p : Int} {k : Nat} (h : k < l.length) : drpK l p (k + 1) = drpK l p k ++ if (cn l k).po = p then [] else [cn l k] := by
  unfold drpK
  rw [List.take_add_one, List.getElem?_eq_getElem h, List.filter_append, cn_at h]
  congr 1
  by_cases hx : l[k].po = p <;> simp [hx]
theorem drpK_len (l : List Con) (p : Int) (k : Nat) : (drpK l p k).length ≤ k := by
  unfold drpK
  exact Nat.le_trans (List.length_filter_le _ _) (by rw [List.length_take]; omega)
set_option maxHeartbeats 1600000 in
theorem c_DropContacts (A : Option Addr) (n c : Nat) (l : List Con) (p : Int) (w : World) (hn : l.length = n) (h : TK w A l) (hl : n ≤ 1000) (hv : vCon l = true) :
    Calls Tryz.prog 150 #[.slice A n c, .int .i64 p] w fun e w' => ∃ A' k c', e = .returned (.slice A' k c') ∧ k ≤ c' ∧ (l.filter (fun c => !(c.po == p))).length = k ∧ Fr A' w.heap.size ∧ TK w' A' (l.filter (fun c => !(c.po == p))) ∧ Below w.heap.size w w' := by
  have HN := Lib.hid hn
  have HA : Hid (∀ W, Below w.heap.size w W → TK W A l) := fun W b => h.to b
  have HV := Lib.hid hv
  clear hn h hv
  have ho : KO (w.alloc (.cells #[] 129)) w.heap.size (.slice (some ⟨w.heap.size, 0, none⟩) 0 0) [] := KO.empty (Nat.le_refl _) rfl
  have B : Below w.heap.size w (w.alloc (.cells #[] 129)) := (Below.refl _ _).alloc (Nat.le_refl _) _
  unfold KO at ho
  go_enter Tryz.func150, Tryz.ntmps150
  go_wp2_with fail
  refine (c_sValidContacts A n c l _ HN.out (HA.out _ B) (by omega)).mono ?_
  rw [HV.out]
  rintro e w1 ⟨rfl, hq⟩
  replace ho := own_to ho hq (Nat.le_refl _)
  replace B := Bl.then B hq
  clear hq
  go_wp2
  go_loopw [5, 6] (fun v i wr => ∃ (k : Nat) (v' : Value), k ≤ n ∧ i = .int .i64 k ∧ v' = v ∧ Hid (KO wr w.heap.size v' (drpK l p k)) ∧ Hid (Below w.heap.size w wr)) (fun _ i _ => n - (intOf i).toNat)
  case atStart => exact ⟨0, _, Nat.zero_le _, rfl, rfl, ho, B⟩
  case round =>
    clear ho B
    obtain ⟨k, v', hk, rfl, rfl, HO, HB⟩ := hrel
    have B := HB.out
    by_cases hlt : k < n
    · have hkl : Hid (k < l.length) := Lib.hid (by rw [HN.out]; exact hlt)
      obtain ⟨b0, off, rfl, hb0, c0, c1, c2⟩ := (HA.out _ B).get hkl.out
      have hs := drpK_succ (p := p) hkl.out
      have hml := drpK_len l p k
      have e2 : 0 ≤ (k : Int) ∧ (k : Int) < n := by omega
      have ho := HO.out
      clear HO
      by_cases hh : (cn l k).po = p
      · have t0 : ((cn l k).po != p) = false := by simp [hh]
        rw [if_pos hh, List.append_nil] at hs
        have HSS := Lib.hid hs
        clear hs hh
        go_wp2
        go_roundw
        case rel => exact ⟨k + 1, v', by omega, by go_num, rfl, by rw [HSS.out]; exact ho, B⟩
        case measure => simp [intOf]; omega
      · have t0 : ((cn l k).po != p) = true := by simp [hh]
        rw [if_neg hh] at hs
        have HSS := Lib.hid hs
        clear hs hh
        generalize hlle : drpK l p k = ll at ho hml
        have HLL := Lib.hid hlle
        clear hlle
        have hL : TK (wr.alloc (.cells #[.int .i64 (cn l k).po, .int .i64 (cn l k).ad, .int .i64 (cn l k).ep] 129)) (some ⟨wr.heap.size, 0, none⟩) [cn l k] := lit_con (w := wr) (cn l k) rfl rfl
        have hoR : (wr.alloc (.cells #[.int .i64 (cn l k).po, .int .i64 (cn l k).ad, .int .i64 (cn l k).ep] 129)).ownsRow w.heap.size 129 3 v' ll.length (conCs ll) := World.ownsRow.alloc ho _
        have hnl := conCs_len [cn l k]
        have hnc := conCs_one [cn l k]
        unfold TK at hL
        generalize hnle : conCs [cn l k] = nl at hnl hnc hL
        have HNL := Lib.hid hnle
        have hs1 := B.size
        clear hnle ho
        go_wp2_with (at_builtin; go_must (obtain ⟨i0, hi, hz0, hz1, hz2⟩ := info_parts conT_info; refine wpList_append_rd _ rfl _ _ 42 rfl w.heap.size 129 i0 _ 3 24 Tryz.underlying42 hi hz0 hz1 hz2 rfl (by omega) _ ll.length (conCs ll) rfl hoR (some ⟨wr.heap.size, 0, none⟩) 1 1 nl rfl hL hnl hnc (by unfold maxLen; omega) (by omega) (by simp; omega) ?_; intro v1 w5 ho5 hg5 hat5; clear hi hz0 hz1 hz2 hat5))
        have B5 := (B.alloc B.size (.cells #[.int .i64 (cn l k).po, .int .i64 (cn l k).ad, .int .i64 (cn l k).ep] 129)).grown hg5 (by have := B.size; simp; omega) (fun j hj => (World.ownsRow.lt hoR j hj).1)
        go_roundw
        case rel =>
          refine ⟨k + 1, v1, by omega, by go_num, rfl, ?_, B5⟩
          rw [HSS.out, HLL.out]
          show KO _ _ _ _
          unfold KO
          rw [conCs_app, HNL.out, List.length_append]
          exact ho5
        case measure => simp [intOf]; omega
    · obtain rfl : k = n := by omega
      have hfl : drpK l p k = l.filter (fun c => !(c.po == p)) := by unfold drpK; rw [← HN.out, List.take_length]
      have ho := HO.out
      rw [hfl] at ho
      obtain ⟨q, hq⟩ : ∃ q, (l.filter (fun c => !(c.po == p))).length = q := ⟨_, rfl⟩
      unfold KO at ho
      rw [hq] at ho
      obtain ⟨E, d, rfl, hd, hdm, -⟩ := own_slice ho
      have hF := own_fr ho
      have hR := Rd.of_ownS ho
      have HF := Lib.hid hF
      have HR := Lib.hid hR
      have HQ := Lib.hid hq
      clear HO ho hF hR hq hfl
      go_wp2
      go_ret
      exact ⟨E, q, d, rfl, hd, HQ.out, HF.out, HR.out, B⟩
theorem c_withoutF (A : Option Addr) (n c : Nat) (l : List Con) (p : Int) (w : World) (hn : l.length = n) (h : TK w A l) (hl : n ≤ 1099511627) :
    Calls Tryz.prog 72 #[.slice A n c, .int .i64 p] w fun e w' => ∃ A' m, e = .returned (.slice A' m m) ∧ (l.filter (fun c => !(c.po == p))).length = m ∧ Fr A' w.heap.size ∧ TK w' A' (l.filter (fun c => !(c.po == p))) ∧ Below w.heap.size w w' := by
  have k0 := Blk.new w 3 #[.int .i64 p]
  have hp := p_without w.heap.size p _ (k0.cell 0) k0.lt
  have B : Below w.heap.size w (w.alloc (.cells #[.int .i64 p] 3)) := (Below.refl _ _).alloc (Nat.le_refl _) _
  have HP := Lib.hid hp
  have HN := Lib.hid hn
  have hf := List.length_filter_le (fun c : Con => !(c.po == p)) l
  rw [hn] at hf
  clear hp hn k0
  go_enter Tryz.func72, Tryz.ntmps72
  go_wp2_with fail
  refine (c_CloneK A n c l _ HN.out (h.alloc _) hl).mono ?_
  rintro e w1 ⟨A1, c1, rfl, hc1, hm1, ho, hq⟩
  go_wp2_with fail
  refine (c_DeleteK 122 #[.pointer (some ⟨w.heap.size, 0, none⟩)] (fun c => c.po == p) _ (enters_of Tryz.func122 (by kernel_rfl) rfl) A1 _ n c1 l _ HP.out hq (Nat.le_refl _) ho HN.out hl hm1).mono ?_
  rintro e w2 ⟨m, rfl, hlm, ho2, hb2⟩
  have hB := Bl.then B hb2
  have HFR : Hid (Fr A1 w.heap.size) := Lib.hid ((own_fr ho).low (by simp))
  have hT : TK w2 A1 (l.filter (fun c => !(c.po == p))) := Rd.of_ownS ho2
  have HLM := Lib.hid hlm
  have hmc : m ≤ c1 := by omega
  clear hlm ho2 hb2 ho hq hf
  go_wp2_with fail
  refine (c_ClipK _ _ _ _ hmc hm1).mono ?_
  rintro e w' ⟨rfl, rfl⟩
  go_wp2
  go_ret
  exact ⟨A1, m, rfl, HLM.out, HFR.out, hT, hB⟩
theorem c_ExpireTableF (A : Option Addr) (n c : Nat) (l : List Mpg) (now hold : Int) (w : World) (hn : l.length = n) (hc : n ≤ c) (h : TM w A l) (hl : n ≤ 1099511627) (hv : timV l now hold = true) :
    Calls Tryz.prog 73 #[.slice A n c, .int .i64 now, .int .i64 hold] w fun e w' => ∃ A' m, e = .returned (.slice A' m m) ∧ (l.filter (fun r => !expW r.la now hold)).length = m ∧ Fr A' w.heap.size ∧ TM w' A' (l.filter (fun r => !expW r.la now hold)) ∧ Below w.heap.size w w' := by
  have k0 := (Blk.new w 3 #[.int .i64 now]).alloc (.cells #[.int .i64 hold] 3)
  have k1 := Blk.new (w.alloc (.cells #[.int .i64 now] 3)) 3 #[.int .i64 hold]
  have B : Below w.heap.size w ((w.alloc (.cells #[.int .i64 now] 3)).alloc (.cells #[.int .i64 hold] 3)) := ((Below.refl _ _).alloc (Nat.le_refl _) _).alloc (by simp) _
  have HN := Lib.hid hn
  have hT := h.to B
  have HV := Lib.hid hv
  have hf := List.length_filter_le (fun r : Mpg => !expW r.la now hold) l
  rw [hn] at hf
  clear hn h hv
  have y0 := k0.cell 0
  have y1 := k1.cell 0
  simp only [List.getElem?_toArray, List.getElem?_cons_zero, World.size_alloc] at y0 y1
  go_enter Tryz.func73, Tryz.ntmps73
  go_wp2_with fail
  refine (c_timed A n c l now hold _ HN.out hc hT (by omega)).mono ?_
  rw [HV.out]
  rintro e w1 ⟨rfl, hq⟩
  replace k0 := k0.to hq
  replace k1 := k1.to hq
  replace hT := hT.to hq
  replace B := Bl.then B hq
  have hp := p_expire _ _ now hold w1 (k0.cell 0) (k1.cell 0) k0.lt k1.lt
  simp only [World.size_alloc] at hp
  have HP := Lib.hid hp
  clear hp hq y0 y1
  go_wp2_with fail
  refine (c_CloneM A n c l _ HN.out hT hl).mono ?_
  rintro e w2 ⟨A1, c1, rfl, hc1, hm1, ho, hq⟩
  go_wp2_with fail
  refine (c_DeleteM 126 _ (fun r => expW r.la now hold) _ (enters_of Tryz.func126 (by kernel_rfl) rfl) A1 _ n c1 l _ HP.out hq (Nat.le_refl _) ho HN.out hl hm1).mono ?_
  rintro e w3 ⟨m, rfl, hlm, ho2, hb2⟩
  have HFR : Hid (Fr A1 w.heap.size) := Lib.hid ((own_fr ho).low B.size)
  have hB := Bl.then B hb2
  have hT2 : TM w3 A1 (l.filter (fun r => !expW r.la now hold)) := Rd.of_ownS ho2
  have HLM := Lib.hid hlm
  have hmc : m ≤ c1 := by omega
  clear hlm ho2 hb2 ho hq hf
  go_wp2_with fail
  refine (c_ClipM _ _ _ _ hmc hm1).mono ?_
  rintro e w' ⟨rfl, rfl⟩
  go_wp2
  go_ret
  exact ⟨A1, m, rfl, HLM.out, HFR.out, hT2, hB⟩
end Go.Proofs.YtjflfhjnbccpmaaGreatDoor
