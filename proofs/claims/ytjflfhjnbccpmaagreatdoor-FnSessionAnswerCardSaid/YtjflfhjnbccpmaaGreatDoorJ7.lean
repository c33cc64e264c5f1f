/- Joined: W10. -/
import Derived.Test.YtjflfhjnbccpmaaGreatDoorJ6
import Derived.Deep.DeepCutAuto
import Derived.Deep.RegionHeld3
set_option linter.unusedVariables false
set_option linter.unusedSimpArgs false
namespace Go.Proofs.YtjflfhjnbccpmaaGreatDoor
open Go.RowKit
def pk0 : Pk := ⟨0, 0, 0, 0⟩
def gt0 : Gt := ⟨0, 0, 0, [], [], 0, 0, 0⟩
/-- What a function hands back that passes packets. -/
def FwdR (o : Option (Pk × Gt)) (w : World) (e : Ending) (w' : World) : Prop :=
  Below w.heap.size w w' ∧ ∃ (p : Pk) (g : Gt) (D : Option Addr) (dc : Nat) (A : Option Addr) (n c : Nat) (C : Option Addr) (m d : Nat) (ok : Bool),
    e = .returned (.tuple #[.agg #[.int .i64 0, .int .i64 p.fa, .int .i64 p.fp, .int .i64 p.ta, .int .i64 p.tp, .slice D 0 dc], .agg #[.int .i64 g.ba, .int .i64 g.bi, .int .i64 g.ou, .slice A n c, .slice C m d, .int .i64 g.fi, .int .i64 g.ho, .int .i64 g.no], .bool ok]) ∧ o = (if ok then some (p, g) else none) ∧
    g.tb.length = n ∧ n ≤ c ∧ Fr A w.heap.size ∧ TM w' A g.tb ∧ g.cs.length = m ∧ m ≤ d ∧ Fr C w.heap.size ∧ TK w' C g.cs
theorem allocB {b0 : Nat} {w0 wc : World} (_ : Below b0 w0 wc) (cs : Array Value) (t : TypeId) : ∃ x b, wc.alloc (.cells cs t) = x ∧ wc.heap.size = b ∧ Below wc.heap.size wc x ∧ Blk x b t cs :=
  ⟨_, _, rfl, rfl, (Below.refl _ _).alloc (Nat.le_refl _) _, Blk.new _ _ _⟩
theorem sent_ok {g : Gt} {p : Pk} {tb : List Mpg} {port : Int} (hv : vGate g = true) (hp : vPk p = true) (h : mapT g.tb g.tb.length p.fa p.fp g.no = some (tb, port)) : okC ⟨port, p.ta, p.tp⟩ = true := by
  have hk := hp
  unfold vPk at hk
  simp only [Bool.and_eq_true] at hk
  obtain ⟨⟨p1, p2⟩, p3, p4⟩ := hk
  obtain ⟨m1, m2, m3, m4, m5⟩ := mapT_valid (gate_tab hv) p1 p2 (gate_nums hv).2.2.2.2.2 h
  unfold okC; rw [inB_mk m2.1 m2.2, p3, p4]; rfl
set_option maxHeartbeats 3200000 in
theorem c_iSend (g : Gt) (p : Pk) (A : Option Addr) (n c : Nat) (C : Option Addr) (m d : Nat) (D : Option Addr) (dc : Nat) (w : World) (hv : vGate g = true) (hp : vPk p = true) (hn : g.tb.length = n) (hc : n ≤ c) (h : TM w A g.tb) (hm : g.cs.length = m) (hd : m ≤ d) (h' : TK w C g.cs) :
    Calls Tryz.prog 103 #[.agg #[.int .i64 g.ba, .int .i64 g.bi, .int .i64 g.ou, .slice A n c, .slice C m d, .int .i64 g.fi, .int .i64 g.ho, .int .i64 g.no], .agg #[.int .i64 0, .int .i64 p.fa, .int .i64 p.fp, .int .i64 p.ta, .int .i64 p.tp, .slice D 0 dc]] w (FwdR (sendG g p) w) := by
  have HN := Lib.hid hn
  have HM := Lib.hid hm
  have HA : Hid (∀ W, Below w.heap.size w W → TM W A g.tb) := fun W b => h.to b
  have HC : Hid (∀ W, Below w.heap.size w W → TK W C g.cs) := fun W b => h'.to b
  have HV := Lib.hid hv
  have HP := Lib.hid hp
  have hn8 : n ≤ 8 := hn ▸ tab_len (gate_tab hv)
  have hm10 : m ≤ 10 := hm ▸ con_len (gate_con hv)
  have HK := Lib.hid hp
  have hks : (inB p.fa 0 65535 = true ∧ inB p.fp 0 65535 = true) := by unfold vPk at hp; simp only [Bool.and_eq_true] at hp; exact hp.1
  have HS := Lib.hid hks
  have HSG : Hid (sendG g p = match mapT g.tb n p.fa p.fp g.no with | none => none | some (tb, port) => some ({ p with fa := g.ou, fp := port }, { g with tb := tb, cs := noteC g.cs ⟨port, p.ta, p.tp⟩ })) := by unfold sendG; rw [hn]; rfl
  clear hn hm h h' hv hp hks
  have k0 := (((Blk.new w 44 #[.int .i64 g.ba, .int .i64 g.bi, .int .i64 g.ou, .slice A n c, .slice C m d, .int .i64 g.fi, .int .i64 g.ho, .int .i64 g.no]).alloc (.cells #[.int .i64 0, .int .i64 p.fa, .int .i64 p.fp, .int .i64 p.ta, .int .i64 p.tp, .slice D 0 dc] 74)).alloc (.cells #[.int .i64 0, .int .i64 0, .int .i64 0, .int .i64 0, .int .i64 0, .slice none 0 0] 74)).alloc (.cells #[.int .i64 0, .int .i64 0, .int .i64 0, .slice none 0 0, .slice none 0 0, .int .i64 0, .int .i64 0, .int .i64 0] 44)
  have k1 := ((Blk.new (w.alloc (.cells #[.int .i64 g.ba, .int .i64 g.bi, .int .i64 g.ou, .slice A n c, .slice C m d, .int .i64 g.fi, .int .i64 g.ho, .int .i64 g.no] 44)) 74 #[.int .i64 0, .int .i64 p.fa, .int .i64 p.fp, .int .i64 p.ta, .int .i64 p.tp, .slice D 0 dc]).alloc (.cells #[.int .i64 0, .int .i64 0, .int .i64 0, .int .i64 0, .int .i64 0, .slice none 0 0] 74)).alloc (.cells #[.int .i64 0, .int .i64 0, .int .i64 0, .slice none 0 0, .slice none 0 0, .int .i64 0, .int .i64 0, .int .i64 0] 44)
  have k2 := (Blk.new ((w.alloc (.cells #[.int .i64 g.ba, .int .i64 g.bi, .int .i64 g.ou, .slice A n c, .slice C m d, .int .i64 g.fi, .int .i64 g.ho, .int .i64 g.no] 44)).alloc (.cells #[.int .i64 0, .int .i64 p.fa, .int .i64 p.fp, .int .i64 p.ta, .int .i64 p.tp, .slice D 0 dc] 74)) 74 #[.int .i64 0, .int .i64 0, .int .i64 0, .int .i64 0, .int .i64 0, .slice none 0 0]).alloc (.cells #[.int .i64 0, .int .i64 0, .int .i64 0, .slice none 0 0, .slice none 0 0, .int .i64 0, .int .i64 0, .int .i64 0] 44)
  have k3 := Blk.new (((w.alloc (.cells #[.int .i64 g.ba, .int .i64 g.bi, .int .i64 g.ou, .slice A n c, .slice C m d, .int .i64 g.fi, .int .i64 g.ho, .int .i64 g.no] 44)).alloc (.cells #[.int .i64 0, .int .i64 p.fa, .int .i64 p.fp, .int .i64 p.ta, .int .i64 p.tp, .slice D 0 dc] 74)).alloc (.cells #[.int .i64 0, .int .i64 0, .int .i64 0, .int .i64 0, .int .i64 0, .slice none 0 0] 74)) 44 #[.int .i64 0, .int .i64 0, .int .i64 0, .slice none 0 0, .slice none 0 0, .int .i64 0, .int .i64 0, .int .i64 0]
  have B : Below w.heap.size w ((((w.alloc (.cells #[.int .i64 g.ba, .int .i64 g.bi, .int .i64 g.ou, .slice A n c, .slice C m d, .int .i64 g.fi, .int .i64 g.ho, .int .i64 g.no] 44)).alloc (.cells #[.int .i64 0, .int .i64 p.fa, .int .i64 p.fp, .int .i64 p.ta, .int .i64 p.tp, .slice D 0 dc] 74)).alloc (.cells #[.int .i64 0, .int .i64 0, .int .i64 0, .int .i64 0, .int .i64 0, .slice none 0 0] 74)).alloc (.cells #[.int .i64 0, .int .i64 0, .int .i64 0, .slice none 0 0, .slice none 0 0, .int .i64 0, .int .i64 0, .int .i64 0] 44)) := ((((Below.refl _ _).alloc (Nat.le_refl _) _).alloc (by simp) _).alloc (by simp; omega) _).alloc (by simp; omega) _
  simp only [World.size_alloc] at k1 k2 k3
  have y0 := k0.cell 0; have y1 := k0.cell 1; have y2 := k0.cell 2; have y3 := k0.cell 3; have y4 := k0.cell 4; have y5 := k0.cell 5; have y6 := k0.cell 6; have y7 := k0.cell 7; have l0 := k0.lt; simp only [List.getElem?_toArray, List.getElem?_cons_zero, List.getElem?_cons_succ] at y0 y1 y2 y3 y4 y5 y6 y7
  have p0 := k1.cell 0; have p1 := k1.cell 1; have p2 := k1.cell 2; have p3 := k1.cell 3; have p4 := k1.cell 4; have p5 := k1.cell 5; have l1 := k1.lt; simp only [List.getElem?_toArray, List.getElem?_cons_zero, List.getElem?_cons_succ] at p0 p1 p2 p3 p4 p5
  go_enter Tryz.func103, Tryz.ntmps103
  go_wp2_with fail
  refine (c_iMapEnd A n c g.tb p.fa p.fp g.no _ HN.out hc (HA.out _ B) (by omega) (gate_tab HV.out) HS.out.1 HS.out.2 (gate_nums HV.out).2.2.2.2.2).mono ?_
  rintro e w1 ⟨hq, hE⟩
  have hbase : w.heap.size + 4 ≤ ((((w.alloc (.cells #[.int .i64 g.ba, .int .i64 g.bi, .int .i64 g.ou, .slice A n c, .slice C m d, .int .i64 g.fi, .int .i64 g.ho, .int .i64 g.no] 44)).alloc (.cells #[.int .i64 0, .int .i64 p.fa, .int .i64 p.fp, .int .i64 p.ta, .int .i64 p.tp, .slice D 0 dc] 74)).alloc (.cells #[.int .i64 0, .int .i64 0, .int .i64 0, .int .i64 0, .int .i64 0, .slice none 0 0] 74)).alloc (.cells #[.int .i64 0, .int .i64 0, .int .i64 0, .slice none 0 0, .slice none 0 0, .int .i64 0, .int .i64 0, .int .i64 0] 44)).heap.size := by simp
  cases hmt : mapT g.tb n p.fa p.fp g.no with
  | none =>
    rw [hmt] at hE HSG
    obtain rfl := hE
    clear hbase hmt
    clear y0 y1 y2 y3 y4 y5 y6 y7 l0
    clear p0 p1 p2 p3 p4 p5 l1
    replace k0 := k0.to hq; replace k1 := k1.to hq; replace k2 := k2.to hq; replace k3 := k3.to hq; replace B := Bl.then B hq; clear hq
    have q0 := k2.cell 0; have q1 := k2.cell 1; have q2 := k2.cell 2; have q3 := k2.cell 3; have q4 := k2.cell 4; have q5 := k2.cell 5; have l2 := k2.lt; simp only [List.getElem?_toArray, List.getElem?_cons_zero, List.getElem?_cons_succ] at q0 q1 q2 q3 q4 q5
    have z0 := k3.cell 0; have z1 := k3.cell 1; have z2 := k3.cell 2; have z3 := k3.cell 3; have z4 := k3.cell 4; have z5 := k3.cell 5; have z6 := k3.cell 6; have z7 := k3.cell 7; have l3 := k3.lt; simp only [List.getElem?_toArray, List.getElem?_cons_zero, List.getElem?_cons_succ] at z0 z1 z2 z3 z4 z5 z6 z7
    have fq0 := k2.frozen 0; have fq1 := k2.frozen 1; have fq2 := k2.frozen 2; have fq3 := k2.frozen 3; have fq4 := k2.frozen 4; have fq5 := k2.frozen 5
    have fz0 := k3.frozen 0; have fz1 := k3.frozen 1; have fz2 := k3.frozen 2; have fz3 := k3.frozen 3; have fz4 := k3.frozen 4; have fz5 := k3.frozen 5; have fz6 := k3.frozen 6; have fz7 := k3.frozen 7
    go_wp2
    clear q0 q1 q2 q3 q4 q5 z0 z1 z2 z3 z4 z5 z6 z7
    obtain ⟨W, e, z, hf, hb, hr⟩ := put6 k2 (.int .i64 0) (.int .i64 0) (.int .i64 0) (.int .i64 0) (.int .i64 0) (.slice none 0 0)
    rw [e]
    replace k3 := hf k3 (by omega)
    replace B := hb B (by omega)
    clear e hf hb hr k2
    obtain ⟨W2, e, z2, hf, hb, hr⟩ := put8 k3 (.int .i64 0) (.int .i64 0) (.int .i64 0) (.slice none 0 0) (.slice none 0 0) (.int .i64 0) (.int .i64 0) (.int .i64 0)
    rw [e]
    have k2 := hf z (by omega)
    replace B := hb B (by omega)
    have k3 := z2
    clear e hf hb hr z z2
    have q0 := k2.cell 0; have q1 := k2.cell 1; have q2 := k2.cell 2; have q3 := k2.cell 3; have q4 := k2.cell 4; have q5 := k2.cell 5; have l2 := k2.lt; simp only [List.getElem?_toArray, List.getElem?_cons_zero, List.getElem?_cons_succ] at q0 q1 q2 q3 q4 q5
    have z0 := k3.cell 0; have z1 := k3.cell 1; have z2 := k3.cell 2; have z3 := k3.cell 3; have z4 := k3.cell 4; have z5 := k3.cell 5; have z6 := k3.cell 6; have z7 := k3.cell 7; have l3 := k3.lt; simp only [List.getElem?_toArray, List.getElem?_cons_zero, List.getElem?_cons_succ] at z0 z1 z2 z3 z4 z5 z6 z7
    refine bodyPost_ret (v := .tuple #[.agg #[.int .i64 0, .int .i64 0, .int .i64 0, .int .i64 0, .int .i64 0, .slice none 0 0], .agg #[.int .i64 0, .int .i64 0, .int .i64 0, .slice none 0 0, .slice none 0 0, .int .i64 0, .int .i64 0, .int .i64 0], .bool false]) (by simp [results, Tryz.results103, go_sem, q0, q1, q2, q3, q4, q5, z0, z1, z2, z3, z4, z5, z6, z7]) rfl ?_
    exact ⟨B, pk0, gt0, none, 0, none, 0, 0, none, 0, 0, false, rfl, HSG.out, rfl, Nat.le_refl _, Fr.none _, TM.nil _ _, rfl, Nat.le_refl _, Fr.none _, TK.nil _ _⟩
  | some r =>
    obtain ⟨tb, port⟩ := r
    rw [hmt] at hE HSG
    have hok : okC ⟨port, p.ta, p.tp⟩ = true := sent_ok HV.out HK.out (by rw [HN.out]; exact hmt)
    have HOK := Lib.hid hok
    obtain ⟨A', mm, rfl, hlen, hFr, hTab⟩ := hE
    replace hFr : Fr A' (w.heap.size + 4) := hFr.low hbase
    have HLT := Lib.hid hlen
    clear hbase hmt hok hlen
    clear y0 y1 y2 y3 y4 y5 y6 y7 l0
    clear p0 p1 p2 p3 p4 p5 l1
    replace k0 := k0.to hq; replace k1 := k1.to hq; replace k2 := k2.to hq; replace k3 := k3.to hq; replace B := Bl.then B hq; clear hq
    have hNear := Rd.near hTab
    have hw1 := k3.lt
    go_upto_region 4 with fail
    go_cut [10, 11] (fun s10 s11 wx => ∃ b10 b11 D' T T2, s10 = .pointer (some ⟨b10, 0, none⟩) ∧ s11 = .pointer (some ⟨b11, 0, none⟩) ∧ Hid (Blk wx w.heap.size 44 #[.int .i64 g.ba, .int .i64 g.bi, .int .i64 g.ou, .slice A n c, .slice C m d, .int .i64 g.fi, .int .i64 g.ho, .int .i64 g.no] ∧ Blk wx (w.heap.size + 1) 74 #[.int .i64 0, .int .i64 p.fa, .int .i64 p.fp, .int .i64 p.ta, .int .i64 p.tp, .slice D 0 dc] ∧ Blk wx (w.heap.size + 1 + 1) 74 #[.int .i64 0, .int .i64 0, .int .i64 0, .int .i64 0, .int .i64 0, .slice none 0 0] ∧ Blk wx (w.heap.size + 1 + 1 + 1) 44 #[.int .i64 0, .int .i64 0, .int .i64 0, .slice none 0 0, .slice none 0 0, .int .i64 0, .int .i64 0, .int .i64 0] ∧
      Blk wx b10 74 #[.int .i64 0, .int .i64 p.fa, .int .i64 p.fp, .int .i64 p.ta, .int .i64 p.tp, .slice D' 0 0] ∧ Blk wx b11 44 #[.int .i64 g.ba, .int .i64 g.bi, .int .i64 g.ou, .slice T n n, .slice T2 m m, .int .i64 g.fi, .int .i64 g.ho, .int .i64 g.no] ∧
      TM wx A' tb ∧ Below w.heap.size w wx ∧ w1.heap.size ≤ b10 ∧ w1.heap.size ≤ b11 ∧ b10 ≠ b11))
    case first =>
      have hq : Below w1.heap.size w1 w1.drew := Bl.of_drewN w1 1
      have hsz : w1.heap.size ≤ w1.heap.size := Nat.le_refl _
      replace k0 := k0.to hq; replace k1 := k1.to hq; replace k2 := k2.to hq; replace k3 := k3.to hq; replace B := Bl.then B hq; replace hTab := Rd.to hTab hq; replace hsz := Nat.le_trans hsz hq.size; (first | (replace kp := Blk.to kp hq) | skip); (first | (replace kg := Blk.to kg hq) | skip); clear hq
      go_wp2_with fail
      refine wp_region_held_drew (S := (fun w' => w'.cell? ⟨w.heap.size, 0, none⟩ = some (.int .i64 g.ba) ∧ w'.cell? ⟨w.heap.size, 1, none⟩ = some (.int .i64 g.bi) ∧ w'.cell? ⟨w.heap.size, 2, none⟩ = some (.int .i64 g.ou) ∧ w'.cell? ⟨w.heap.size, 3, none⟩ = some (.slice A n c) ∧ w'.cell? ⟨w.heap.size, 4, none⟩ = some (.slice C m d) ∧ w'.cell? ⟨w.heap.size, 5, none⟩ = some (.int .i64 g.fi) ∧ w'.cell? ⟨w.heap.size, 6, none⟩ = some (.int .i64 g.ho) ∧ w'.cell? ⟨w.heap.size, 7, none⟩ = some (.int .i64 g.no) ∧ w'.cell? ⟨w.heap.size + 1, 0, none⟩ = some (.int .i64 0) ∧ w'.cell? ⟨w.heap.size + 1, 1, none⟩ = some (.int .i64 p.fa) ∧ w'.cell? ⟨w.heap.size + 1, 2, none⟩ = some (.int .i64 p.fp) ∧ w'.cell? ⟨w.heap.size + 1, 3, none⟩ = some (.int .i64 p.ta) ∧ w'.cell? ⟨w.heap.size + 1, 4, none⟩ = some (.int .i64 p.tp) ∧ w'.cell? ⟨w.heap.size + 1, 5, none⟩ = some (.slice D 0 dc))) (by kernel_rfl) ?_ (fun hHeld => ?_)
      · (try dsimp only); exact ⟨k0.cell 0, k0.cell 1, k0.cell 2, k0.cell 3, k0.cell 4, k0.cell 5, k0.cell 6, k0.cell 7, k1.cell 0, k1.cell 1, k1.cell 2, k1.cell 3, k1.cell 4, k1.cell 5⟩
      generalize World.drew w1 = wq at *
      refine wpAnyH_take (i := 0) (v := ?_) (arr_at rfl) (by kernel_rfl) (by kernel_rfl) (by kernel_rfl) (fun _ _ _ h => h) ?_ (by assumption) ?_
      rotate_left
      · first | (refine Or.inr ⟨by rfl, ?_⟩; with_reducible rfl) | (refine Or.inl ⟨by rfl, ?_⟩; intro w hSw; (try dsimp only at hSw); go_simp; first | done | with_reducible rfl)
      try simp only [Act.put, List.setIfInBounds_toArray, List.set_cons_zero, List.set_cons_succ]
      refine wpAnyH_take (i := 2) (v := ?_) (arr_at rfl) (by kernel_rfl) (by kernel_rfl) (by kernel_rfl) (fun _ _ _ h => h) ?_ (by assumption) ?_
      rotate_left
      · first | (refine Or.inr ⟨by rfl, ?_⟩; with_reducible rfl) | (refine Or.inl ⟨by rfl, ?_⟩; intro w hSw; (try dsimp only at hSw); go_simp; first | done | with_reducible rfl)
      try simp only [Act.put, List.setIfInBounds_toArray, List.set_cons_zero, List.set_cons_succ]
      refine wpAnyH_ready (rs := [1, 4, 5]) (by kernel_rfl) (by simp) ?_
      refine AllReadyH.cons (arr_at rfl) (fun K hK => ?_) (AllReadyH.cons (arr_at rfl) (fun K hK => ?_) (AllReadyH.cons (arr_at rfl) (fun K hK => ?_) AllReadyH.nil))
      · go_simp
        go_at_call 105; refine (c_PcopyOf p D dc _).mono ?_; rintro e wA ⟨D', rfl, hq⟩; replace k0 := k0.to hq; replace k1 := k1.to hq; replace k2 := k2.to hq; replace k3 := k3.to hq; replace B := Bl.then B hq; replace hTab := Rd.to hTab hq; replace hsz := Nat.le_trans hsz hq.size; (first | (replace kp := Blk.to kp hq) | skip); (first | (replace kg := Blk.to kg hq) | skip); clear hq
        refine hK.out _ _ ?_ (fun hHeld => ?_)
        · (try dsimp only); exact ⟨k0.cell 0, k0.cell 1, k0.cell 2, k0.cell 3, k0.cell 4, k0.cell 5, k0.cell 6, k0.cell 7, k1.cell 0, k1.cell 1, k1.cell 2, k1.cell 3, k1.cell 4, k1.cell 5⟩
        clear hK K
        try simp only [Act.put, List.setIfInBounds_toArray, List.set_cons_zero, List.set_cons_succ]
        refine wpAnyH_ready (rs := [3, 4, 5]) (by kernel_rfl) (by simp) ?_
        refine AllReadyH.cons (arr_at rfl) (fun K hK => ?_) (AllReadyH.cons (arr_at rfl) (fun K hK => ?_) (AllReadyH.cons (arr_at rfl) (fun K hK => ?_) AllReadyH.nil))
        · go_simp
          go_at_call 70; refine (c_GcopyOf g A n c C m d _ HN.out (HA.out _ B) HM.out (HC.out _ B) (by omega) (by omega)).mono ?_; rintro e wB ⟨T, T2, rfl, -, -, -, -, hq⟩; replace k0 := k0.to hq; replace k1 := k1.to hq; replace k2 := k2.to hq; replace k3 := k3.to hq; replace B := Bl.then B hq; replace hTab := Rd.to hTab hq; replace hsz := Nat.le_trans hsz hq.size; (first | (replace kp := Blk.to kp hq) | skip); (first | (replace kg := Blk.to kg hq) | skip); clear hq
          refine hK.out _ _ ?_ (fun hHeld => ?_)
          · (try dsimp only); exact ⟨k0.cell 0, k0.cell 1, k0.cell 2, k0.cell 3, k0.cell 4, k0.cell 5, k0.cell 6, k0.cell 7, k1.cell 0, k1.cell 1, k1.cell 2, k1.cell 3, k1.cell 4, k1.cell 5⟩
          clear hK K
          try simp only [Act.put, List.setIfInBounds_toArray, List.set_cons_zero, List.set_cons_succ]
          refine wpAnyH_ready (rs := [4, 5]) (by kernel_rfl) (by simp) ?_
          refine AllReadyH.cons (arr_at rfl) (fun K hK => ?_) (AllReadyH.cons (arr_at rfl) (fun K hK => ?_) AllReadyH.nil)
          · go_simp
            obtain ⟨wp, b10, ex, eb, hq, kpn⟩ := allocB B #[.int .i64 0, .int .i64 0, .int .i64 0, .int .i64 0, .int .i64 0, .slice none 0 0] 74; rw [ex, eb]; have h10 := hsz; rw [eb] at h10; clear ex eb; replace k0 := k0.to hq; replace k1 := k1.to hq; replace k2 := k2.to hq; replace k3 := k3.to hq; replace B := Bl.then B hq; replace hTab := Rd.to hTab hq; replace hsz := Nat.le_trans hsz hq.size; (first | (replace kp := Blk.to kp hq) | skip); (first | (replace kg := Blk.to kg hq) | skip); clear hq; have kp := kpn; clear kpn
            refine hK.out _ _ ?_ (fun hHeld => ?_)
            · (try dsimp only); exact ⟨k0.cell 0, k0.cell 1, k0.cell 2, k0.cell 3, k0.cell 4, k0.cell 5, k0.cell 6, k0.cell 7, k1.cell 0, k1.cell 1, k1.cell 2, k1.cell 3, k1.cell 4, k1.cell 5⟩
            clear hK K
            try simp only [Act.put, List.setIfInBounds_toArray, List.set_cons_zero, List.set_cons_succ]
            refine wpAnyH_ready (rs := [5]) (by kernel_rfl) (by simp) ?_
            refine AllReadyH.cons (arr_at rfl) (fun K hK => ?_) AllReadyH.nil
            go_simp
            obtain ⟨wg, b11, ex, eb, hq, kgn⟩ := allocB B #[.int .i64 0, .int .i64 0, .int .i64 0, .slice none 0 0, .slice none 0 0, .int .i64 0, .int .i64 0, .int .i64 0] 44; rw [ex, eb]; have h11 := hsz; rw [eb] at h11; have hne := kp.lt; rw [eb] at hne; replace hne : b10 ≠ b11 := (by omega); clear ex eb; replace k0 := k0.to hq; replace k1 := k1.to hq; replace k2 := k2.to hq; replace k3 := k3.to hq; replace B := Bl.then B hq; replace hTab := Rd.to hTab hq; replace hsz := Nat.le_trans hsz hq.size; (first | (replace kp := Blk.to kp hq) | skip); (first | (replace kg := Blk.to kg hq) | skip); clear hq; have kg := kgn; clear kgn
            refine hK.out _ _ ?_ (fun hHeld => ?_)
            · (try dsimp only); exact ⟨k0.cell 0, k0.cell 1, k0.cell 2, k0.cell 3, k0.cell 4, k0.cell 5, k0.cell 6, k0.cell 7, k1.cell 0, k1.cell 1, k1.cell 2, k1.cell 3, k1.cell 4, k1.cell 5⟩
            clear hK K
            try simp only [Act.put, List.setIfInBounds_toArray, List.set_cons_zero, List.set_cons_succ]
            refine wpAnyH_ready (rs := [6]) (by kernel_rfl) (by simp) ?_
            refine AllReadyH.cons (arr_at rfl) (fun K hK => ?_) AllReadyH.nil
            have e0 := kp.cell 0; have e1 := kp.cell 1; have e2 := kp.cell 2; have e3 := kp.cell 3; have e4 := kp.cell 4; have e5 := kp.cell 5; have f0 := kp.frozen 0; have f1 := kp.frozen 1; have f2 := kp.frozen 2; have f3 := kp.frozen 3; have f4 := kp.frozen 4; have f5 := kp.frozen 5; have hlp := kp.lt; simp only [List.getElem?_toArray, List.getElem?_cons_zero, List.getElem?_cons_succ] at e0 e1 e2 e3 e4 e5; go_simp; clear e0 e1 e2 e3 e4 e5 f0 f1 f2 f3 f4 f5 hlp; obtain ⟨W, e, z, hf, hb, hr⟩ := put6 kp (.int .i64 0) (.int .i64 p.fa) (.int .i64 p.fp) (.int .i64 p.ta) (.int .i64 p.tp) (.slice D' 0 0); rw [e]; clear e; replace k0 := hf k0 (by omega); replace k1 := hf k1 (by omega); replace k2 := hf k2 (by omega); replace k3 := hf k3 (by omega); replace kg := hf kg (Ne.symm hne); replace B := hb B (by omega); replace hTab := (hr (base := 0)).2 hTab (fun a ha hx => by have := hNear a ha hx; omega); replace kp := z; clear z hf hb hr
            refine hK.out _ _ ?_ (fun hHeld => ?_)
            · (try dsimp only); exact ⟨k0.cell 0, k0.cell 1, k0.cell 2, k0.cell 3, k0.cell 4, k0.cell 5, k0.cell 6, k0.cell 7, k1.cell 0, k1.cell 1, k1.cell 2, k1.cell 3, k1.cell 4, k1.cell 5⟩
            clear hK K
            try simp only [Act.put, List.setIfInBounds_toArray, List.set_cons_zero, List.set_cons_succ]
            refine wpAnyH_ready (rs := [7]) (by kernel_rfl) (by simp) ?_
            refine AllReadyH.cons (arr_at rfl) (fun K hK => ?_) AllReadyH.nil
            have e0 := kg.cell 0; have e1 := kg.cell 1; have e2 := kg.cell 2; have e3 := kg.cell 3; have e4 := kg.cell 4; have e5 := kg.cell 5; have e6 := kg.cell 6; have e7 := kg.cell 7; have f0 := kg.frozen 0; have f1 := kg.frozen 1; have f2 := kg.frozen 2; have f3 := kg.frozen 3; have f4 := kg.frozen 4; have f5 := kg.frozen 5; have f6 := kg.frozen 6; have f7 := kg.frozen 7; have hlp := kg.lt; simp only [List.getElem?_toArray, List.getElem?_cons_zero, List.getElem?_cons_succ] at e0 e1 e2 e3 e4 e5 e6 e7; go_simp; clear e0 e1 e2 e3 e4 e5 e6 e7 f0 f1 f2 f3 f4 f5 f6 f7 hlp; obtain ⟨W2, e, z, hf, hb, hr⟩ := put8 kg (.int .i64 g.ba) (.int .i64 g.bi) (.int .i64 g.ou) (.slice T n n) (.slice T2 m m) (.int .i64 g.fi) (.int .i64 g.ho) (.int .i64 g.no); rw [e]; clear e; replace k0 := hf k0 (by omega); replace k1 := hf k1 (by omega); replace k2 := hf k2 (by omega); replace k3 := hf k3 (by omega); replace kp := hf kp hne; replace B := hb B (by omega); replace hTab := (hr (base := 0)).2 hTab (fun a ha hx => by have := hNear a ha hx; omega); replace kg := z; clear z hf hb hr
            refine hK.out _ _ ?_ (fun hHeld => ?_)
            · (try dsimp only); exact ⟨k0.cell 0, k0.cell 1, k0.cell 2, k0.cell 3, k0.cell 4, k0.cell 5, k0.cell 6, k0.cell 7, k1.cell 0, k1.cell 1, k1.cell 2, k1.cell 3, k1.cell 4, k1.cell 5⟩
            clear hK K
            try simp only [Act.put, List.setIfInBounds_toArray, List.set_cons_zero, List.set_cons_succ]
            refine wpAnyH_done (by kernel_rfl) ?_ _
            go_wp2_with fail
            go_meet
            exact ⟨b10, b11, D', T, T2, rfl, rfl, k0, k1, k2, k3, kp, kg, hTab, B, h10, h11, hne⟩
          · go_simp
            obtain ⟨wg, b11, ex, eb, hq, kgn⟩ := allocB B #[.int .i64 0, .int .i64 0, .int .i64 0, .slice none 0 0, .slice none 0 0, .int .i64 0, .int .i64 0, .int .i64 0] 44; rw [ex, eb]; have h11 := hsz; rw [eb] at h11; clear ex eb; replace k0 := k0.to hq; replace k1 := k1.to hq; replace k2 := k2.to hq; replace k3 := k3.to hq; replace B := Bl.then B hq; replace hTab := Rd.to hTab hq; replace hsz := Nat.le_trans hsz hq.size; (first | (replace kp := Blk.to kp hq) | skip); (first | (replace kg := Blk.to kg hq) | skip); clear hq; have kg := kgn; clear kgn
            refine hK.out _ _ ?_ (fun hHeld => ?_)
            · (try dsimp only); exact ⟨k0.cell 0, k0.cell 1, k0.cell 2, k0.cell 3, k0.cell 4, k0.cell 5, k0.cell 6, k0.cell 7, k1.cell 0, k1.cell 1, k1.cell 2, k1.cell 3, k1.cell 4, k1.cell 5⟩
            clear hK K
            try simp only [Act.put, List.setIfInBounds_toArray, List.set_cons_zero, List.set_cons_succ]
            refine wpAnyH_ready (rs := [4]) (by kernel_rfl) (by simp) ?_
            refine AllReadyH.cons (arr_at rfl) (fun K hK => ?_) AllReadyH.nil
            go_simp
            obtain ⟨wp, b10, ex, eb, hq, kpn⟩ := allocB B #[.int .i64 0, .int .i64 0, .int .i64 0, .int .i64 0, .int .i64 0, .slice none 0 0] 74; rw [ex, eb]; have h10 := hsz; rw [eb] at h10; have hne := kg.lt; rw [eb] at hne; replace hne : b10 ≠ b11 := (by omega); clear ex eb; replace k0 := k0.to hq; replace k1 := k1.to hq; replace k2 := k2.to hq; replace k3 := k3.to hq; replace B := Bl.then B hq; replace hTab := Rd.to hTab hq; replace hsz := Nat.le_trans hsz hq.size; (first | (replace kp := Blk.to kp hq) | skip); (first | (replace kg := Blk.to kg hq) | skip); clear hq; have kp := kpn; clear kpn
            refine hK.out _ _ ?_ (fun hHeld => ?_)
            · (try dsimp only); exact ⟨k0.cell 0, k0.cell 1, k0.cell 2, k0.cell 3, k0.cell 4, k0.cell 5, k0.cell 6, k0.cell 7, k1.cell 0, k1.cell 1, k1.cell 2, k1.cell 3, k1.cell 4, k1.cell 5⟩
            clear hK K
            try simp only [Act.put, List.setIfInBounds_toArray, List.set_cons_zero, List.set_cons_succ]
            refine wpAnyH_ready (rs := [6]) (by kernel_rfl) (by simp) ?_
            refine AllReadyH.cons (arr_at rfl) (fun K hK => ?_) AllReadyH.nil
            have e0 := kp.cell 0; have e1 := kp.cell 1; have e2 := kp.cell 2; have e3 := kp.cell 3; have e4 := kp.cell 4; have e5 := kp.cell 5; have f0 := kp.frozen 0; have f1 := kp.frozen 1; have f2 := kp.frozen 2; have f3 := kp.frozen 3; have f4 := kp.frozen 4; have f5 := kp.frozen 5; have hlp := kp.lt; simp only [List.getElem?_toArray, List.getElem?_cons_zero, List.getElem?_cons_succ] at e0 e1 e2 e3 e4 e5; go_simp; clear e0 e1 e2 e3 e4 e5 f0 f1 f2 f3 f4 f5 hlp; obtain ⟨W, e, z, hf, hb, hr⟩ := put6 kp (.int .i64 0) (.int .i64 p.fa) (.int .i64 p.fp) (.int .i64 p.ta) (.int .i64 p.tp) (.slice D' 0 0); rw [e]; clear e; replace k0 := hf k0 (by omega); replace k1 := hf k1 (by omega); replace k2 := hf k2 (by omega); replace k3 := hf k3 (by omega); replace kg := hf kg (Ne.symm hne); replace B := hb B (by omega); replace hTab := (hr (base := 0)).2 hTab (fun a ha hx => by have := hNear a ha hx; omega); replace kp := z; clear z hf hb hr
            refine hK.out _ _ ?_ (fun hHeld => ?_)
            · (try dsimp only); exact ⟨k0.cell 0, k0.cell 1, k0.cell 2, k0.cell 3, k0.cell 4, k0.cell 5, k0.cell 6, k0.cell 7, k1.cell 0, k1.cell 1, k1.cell 2, k1.cell 3, k1.cell 4, k1.cell 5⟩
            clear hK K
            try simp only [Act.put, List.setIfInBounds_toArray, List.set_cons_zero, List.set_cons_succ]
            refine wpAnyH_ready (rs := [7]) (by kernel_rfl) (by simp) ?_
            refine AllReadyH.cons (arr_at rfl) (fun K hK => ?_) AllReadyH.nil
            have e0 := kg.cell 0; have e1 := kg.cell 1; have e2 := kg.cell 2; have e3 := kg.cell 3; have e4 := kg.cell 4; have e5 := kg.cell 5; have e6 := kg.cell 6; have e7 := kg.cell 7; have f0 := kg.frozen 0; have f1 := kg.frozen 1; have f2 := kg.frozen 2; have f3 := kg.frozen 3; have f4 := kg.frozen 4; have f5 := kg.frozen 5; have f6 := kg.frozen 6; have f7 := kg.frozen 7; have hlp := kg.lt; simp only [List.getElem?_toArray, List.getElem?_cons_zero, List.getElem?_cons_succ] at e0 e1 e2 e3 e4 e5 e6 e7; go_simp; clear e0 e1 e2 e3 e4 e5 e6 e7 f0 f1 f2 f3 f4 f5 f6 f7 hlp; obtain ⟨W2, e, z, hf, hb, hr⟩ := put8 kg (.int .i64 g.ba) (.int .i64 g.bi) (.int .i64 g.ou) (.slice T n n) (.slice T2 m m) (.int .i64 g.fi) (.int .i64 g.ho) (.int .i64 g.no); rw [e]; clear e; replace k0 := hf k0 (by omega); replace k1 := hf k1 (by omega); replace k2 := hf k2 (by omega); replace k3 := hf k3 (by omega); replace kp := hf kp hne; replace B := hb B (by omega); replace hTab := (hr (base := 0)).2 hTab (fun a ha hx => by have := hNear a ha hx; omega); replace kg := z; clear z hf hb hr
            refine hK.out _ _ ?_ (fun hHeld => ?_)
            · (try dsimp only); exact ⟨k0.cell 0, k0.cell 1, k0.cell 2, k0.cell 3, k0.cell 4, k0.cell 5, k0.cell 6, k0.cell 7, k1.cell 0, k1.cell 1, k1.cell 2, k1.cell 3, k1.cell 4, k1.cell 5⟩
            clear hK K
            try simp only [Act.put, List.setIfInBounds_toArray, List.set_cons_zero, List.set_cons_succ]
            refine wpAnyH_done (by kernel_rfl) ?_ _
            go_wp2_with fail
            go_meet
            exact ⟨b10, b11, D', T, T2, rfl, rfl, k0, k1, k2, k3, kp, kg, hTab, B, h10, h11, hne⟩
        · go_simp
          obtain ⟨wp, b10, ex, eb, hq, kpn⟩ := allocB B #[.int .i64 0, .int .i64 0, .int .i64 0, .int .i64 0, .int .i64 0, .slice none 0 0] 74; rw [ex, eb]; have h10 := hsz; rw [eb] at h10; clear ex eb; replace k0 := k0.to hq; replace k1 := k1.to hq; replace k2 := k2.to hq; replace k3 := k3.to hq; replace B := Bl.then B hq; replace hTab := Rd.to hTab hq; replace hsz := Nat.le_trans hsz hq.size; (first | (replace kp := Blk.to kp hq) | skip); (first | (replace kg := Blk.to kg hq) | skip); clear hq; have kp := kpn; clear kpn
          refine hK.out _ _ ?_ (fun hHeld => ?_)
          · (try dsimp only); exact ⟨k0.cell 0, k0.cell 1, k0.cell 2, k0.cell 3, k0.cell 4, k0.cell 5, k0.cell 6, k0.cell 7, k1.cell 0, k1.cell 1, k1.cell 2, k1.cell 3, k1.cell 4, k1.cell 5⟩
          clear hK K
          try simp only [Act.put, List.setIfInBounds_toArray, List.set_cons_zero, List.set_cons_succ]
          refine wpAnyH_ready (rs := [3, 5]) (by kernel_rfl) (by simp) ?_
          refine AllReadyH.cons (arr_at rfl) (fun K hK => ?_) (AllReadyH.cons (arr_at rfl) (fun K hK => ?_) AllReadyH.nil)
          · go_simp
            go_at_call 70; refine (c_GcopyOf g A n c C m d _ HN.out (HA.out _ B) HM.out (HC.out _ B) (by omega) (by omega)).mono ?_; rintro e wB ⟨T, T2, rfl, -, -, -, -, hq⟩; replace k0 := k0.to hq; replace k1 := k1.to hq; replace k2 := k2.to hq; replace k3 := k3.to hq; replace B := Bl.then B hq; replace hTab := Rd.to hTab hq; replace hsz := Nat.le_trans hsz hq.size; (first | (replace kp := Blk.to kp hq) | skip); (first | (replace kg := Blk.to kg hq) | skip); clear hq
            refine hK.out _ _ ?_ (fun hHeld => ?_)
            · (try dsimp only); exact ⟨k0.cell 0, k0.cell 1, k0.cell 2, k0.cell 3, k0.cell 4, k0.cell 5, k0.cell 6, k0.cell 7, k1.cell 0, k1.cell 1, k1.cell 2, k1.cell 3, k1.cell 4, k1.cell 5⟩
            clear hK K
            try simp only [Act.put, List.setIfInBounds_toArray, List.set_cons_zero, List.set_cons_succ]
            refine wpAnyH_ready (rs := [5]) (by kernel_rfl) (by simp) ?_
            refine AllReadyH.cons (arr_at rfl) (fun K hK => ?_) AllReadyH.nil
            go_simp
            obtain ⟨wg, b11, ex, eb, hq, kgn⟩ := allocB B #[.int .i64 0, .int .i64 0, .int .i64 0, .slice none 0 0, .slice none 0 0, .int .i64 0, .int .i64 0, .int .i64 0] 44; rw [ex, eb]; have h11 := hsz; rw [eb] at h11; have hne := kp.lt; rw [eb] at hne; replace hne : b10 ≠ b11 := (by omega); clear ex eb; replace k0 := k0.to hq; replace k1 := k1.to hq; replace k2 := k2.to hq; replace k3 := k3.to hq; replace B := Bl.then B hq; replace hTab := Rd.to hTab hq; replace hsz := Nat.le_trans hsz hq.size; (first | (replace kp := Blk.to kp hq) | skip); (first | (replace kg := Blk.to kg hq) | skip); clear hq; have kg := kgn; clear kgn
            refine hK.out _ _ ?_ (fun hHeld => ?_)
            · (try dsimp only); exact ⟨k0.cell 0, k0.cell 1, k0.cell 2, k0.cell 3, k0.cell 4, k0.cell 5, k0.cell 6, k0.cell 7, k1.cell 0, k1.cell 1, k1.cell 2, k1.cell 3, k1.cell 4, k1.cell 5⟩
            clear hK K
            try simp only [Act.put, List.setIfInBounds_toArray, List.set_cons_zero, List.set_cons_succ]
            refine wpAnyH_ready (rs := [6]) (by kernel_rfl) (by simp) ?_
            refine AllReadyH.cons (arr_at rfl) (fun K hK => ?_) AllReadyH.nil
            have e0 := kp.cell 0; have e1 := kp.cell 1; have e2 := kp.cell 2; have e3 := kp.cell 3; have e4 := kp.cell 4; have e5 := kp.cell 5; have f0 := kp.frozen 0; have f1 := kp.frozen 1; have f2 := kp.frozen 2; have f3 := kp.frozen 3; have f4 := kp.frozen 4; have f5 := kp.frozen 5; have hlp := kp.lt; simp only [List.getElem?_toArray, List.getElem?_cons_zero, List.getElem?_cons_succ] at e0 e1 e2 e3 e4 e5; go_simp; clear e0 e1 e2 e3 e4 e5 f0 f1 f2 f3 f4 f5 hlp; obtain ⟨W, e, z, hf, hb, hr⟩ := put6 kp (.int .i64 0) (.int .i64 p.fa) (.int .i64 p.fp) (.int .i64 p.ta) (.int .i64 p.tp) (.slice D' 0 0); rw [e]; clear e; replace k0 := hf k0 (by omega); replace k1 := hf k1 (by omega); replace k2 := hf k2 (by omega); replace k3 := hf k3 (by omega); replace kg := hf kg (Ne.symm hne); replace B := hb B (by omega); replace hTab := (hr (base := 0)).2 hTab (fun a ha hx => by have := hNear a ha hx; omega); replace kp := z; clear z hf hb hr
            refine hK.out _ _ ?_ (fun hHeld => ?_)
            · (try dsimp only); exact ⟨k0.cell 0, k0.cell 1, k0.cell 2, k0.cell 3, k0.cell 4, k0.cell 5, k0.cell 6, k0.cell 7, k1.cell 0, k1.cell 1, k1.cell 2, k1.cell 3, k1.cell 4, k1.cell 5⟩
            clear hK K
            try simp only [Act.put, List.setIfInBounds_toArray, List.set_cons_zero, List.set_cons_succ]
            refine wpAnyH_ready (rs := [7]) (by kernel_rfl) (by simp) ?_
            refine AllReadyH.cons (arr_at rfl) (fun K hK => ?_) AllReadyH.nil
            have e0 := kg.cell 0; have e1 := kg.cell 1; have e2 := kg.cell 2; have e3 := kg.cell 3; have e4 := kg.cell 4; have e5 := kg.cell 5; have e6 := kg.cell 6; have e7 := kg.cell 7; have f0 := kg.frozen 0; have f1 := kg.frozen 1; have f2 := kg.frozen 2; have f3 := kg.frozen 3; have f4 := kg.frozen 4; have f5 := kg.frozen 5; have f6 := kg.frozen 6; have f7 := kg.frozen 7; have hlp := kg.lt; simp only [List.getElem?_toArray, List.getElem?_cons_zero, List.getElem?_cons_succ] at e0 e1 e2 e3 e4 e5 e6 e7; go_simp; clear e0 e1 e2 e3 e4 e5 e6 e7 f0 f1 f2 f3 f4 f5 f6 f7 hlp; obtain ⟨W2, e, z, hf, hb, hr⟩ := put8 kg (.int .i64 g.ba) (.int .i64 g.bi) (.int .i64 g.ou) (.slice T n n) (.slice T2 m m) (.int .i64 g.fi) (.int .i64 g.ho) (.int .i64 g.no); rw [e]; clear e; replace k0 := hf k0 (by omega); replace k1 := hf k1 (by omega); replace k2 := hf k2 (by omega); replace k3 := hf k3 (by omega); replace kp := hf kp hne; replace B := hb B (by omega); replace hTab := (hr (base := 0)).2 hTab (fun a ha hx => by have := hNear a ha hx; omega); replace kg := z; clear z hf hb hr
            refine hK.out _ _ ?_ (fun hHeld => ?_)
            · (try dsimp only); exact ⟨k0.cell 0, k0.cell 1, k0.cell 2, k0.cell 3, k0.cell 4, k0.cell 5, k0.cell 6, k0.cell 7, k1.cell 0, k1.cell 1, k1.cell 2, k1.cell 3, k1.cell 4, k1.cell 5⟩
            clear hK K
            try simp only [Act.put, List.setIfInBounds_toArray, List.set_cons_zero, List.set_cons_succ]
            refine wpAnyH_done (by kernel_rfl) ?_ _
            go_wp2_with fail
            go_meet
            exact ⟨b10, b11, D', T, T2, rfl, rfl, k0, k1, k2, k3, kp, kg, hTab, B, h10, h11, hne⟩
          · go_simp
            obtain ⟨wg, b11, ex, eb, hq, kgn⟩ := allocB B #[.int .i64 0, .int .i64 0, .int .i64 0, .slice none 0 0, .slice none 0 0, .int .i64 0, .int .i64 0, .int .i64 0] 44; rw [ex, eb]; have h11 := hsz; rw [eb] at h11; have hne := kp.lt; rw [eb] at hne; replace hne : b10 ≠ b11 := (by omega); clear ex eb; replace k0 := k0.to hq; replace k1 := k1.to hq; replace k2 := k2.to hq; replace k3 := k3.to hq; replace B := Bl.then B hq; replace hTab := Rd.to hTab hq; replace hsz := Nat.le_trans hsz hq.size; (first | (replace kp := Blk.to kp hq) | skip); (first | (replace kg := Blk.to kg hq) | skip); clear hq; have kg := kgn; clear kgn
            refine hK.out _ _ ?_ (fun hHeld => ?_)
            · (try dsimp only); exact ⟨k0.cell 0, k0.cell 1, k0.cell 2, k0.cell 3, k0.cell 4, k0.cell 5, k0.cell 6, k0.cell 7, k1.cell 0, k1.cell 1, k1.cell 2, k1.cell 3, k1.cell 4, k1.cell 5⟩
            clear hK K
            try simp only [Act.put, List.setIfInBounds_toArray, List.set_cons_zero, List.set_cons_succ]
            refine wpAnyH_ready (rs := [3]) (by kernel_rfl) (by simp) ?_
            refine AllReadyH.cons (arr_at rfl) (fun K hK => ?_) AllReadyH.nil
            go_simp
            go_at_call 70; refine (c_GcopyOf g A n c C m d _ HN.out (HA.out _ B) HM.out (HC.out _ B) (by omega) (by omega)).mono ?_; rintro e wB ⟨T, T2, rfl, -, -, -, -, hq⟩; replace k0 := k0.to hq; replace k1 := k1.to hq; replace k2 := k2.to hq; replace k3 := k3.to hq; replace B := Bl.then B hq; replace hTab := Rd.to hTab hq; replace hsz := Nat.le_trans hsz hq.size; (first | (replace kp := Blk.to kp hq) | skip); (first | (replace kg := Blk.to kg hq) | skip); clear hq
            refine hK.out _ _ ?_ (fun hHeld => ?_)
            · (try dsimp only); exact ⟨k0.cell 0, k0.cell 1, k0.cell 2, k0.cell 3, k0.cell 4, k0.cell 5, k0.cell 6, k0.cell 7, k1.cell 0, k1.cell 1, k1.cell 2, k1.cell 3, k1.cell 4, k1.cell 5⟩
            clear hK K
            try simp only [Act.put, List.setIfInBounds_toArray, List.set_cons_zero, List.set_cons_succ]
            refine wpAnyH_ready (rs := [6]) (by kernel_rfl) (by simp) ?_
            refine AllReadyH.cons (arr_at rfl) (fun K hK => ?_) AllReadyH.nil
            have e0 := kp.cell 0; have e1 := kp.cell 1; have e2 := kp.cell 2; have e3 := kp.cell 3; have e4 := kp.cell 4; have e5 := kp.cell 5; have f0 := kp.frozen 0; have f1 := kp.frozen 1; have f2 := kp.frozen 2; have f3 := kp.frozen 3; have f4 := kp.frozen 4; have f5 := kp.frozen 5; have hlp := kp.lt; simp only [List.getElem?_toArray, List.getElem?_cons_zero, List.getElem?_cons_succ] at e0 e1 e2 e3 e4 e5; go_simp; clear e0 e1 e2 e3 e4 e5 f0 f1 f2 f3 f4 f5 hlp; obtain ⟨W, e, z, hf, hb, hr⟩ := put6 kp (.int .i64 0) (.int .i64 p.fa) (.int .i64 p.fp) (.int .i64 p.ta) (.int .i64 p.tp) (.slice D' 0 0); rw [e]; clear e; replace k0 := hf k0 (by omega); replace k1 := hf k1 (by omega); replace k2 := hf k2 (by omega); replace k3 := hf k3 (by omega); replace kg := hf kg (Ne.symm hne); replace B := hb B (by omega); replace hTab := (hr (base := 0)).2 hTab (fun a ha hx => by have := hNear a ha hx; omega); replace kp := z; clear z hf hb hr
            refine hK.out _ _ ?_ (fun hHeld => ?_)
            · (try dsimp only); exact ⟨k0.cell 0, k0.cell 1, k0.cell 2, k0.cell 3, k0.cell 4, k0.cell 5, k0.cell 6, k0.cell 7, k1.cell 0, k1.cell 1, k1.cell 2, k1.cell 3, k1.cell 4, k1.cell 5⟩
            clear hK K
            try simp only [Act.put, List.setIfInBounds_toArray, List.set_cons_zero, List.set_cons_succ]
            refine wpAnyH_ready (rs := [7]) (by kernel_rfl) (by simp) ?_
            refine AllReadyH.cons (arr_at rfl) (fun K hK => ?_) AllReadyH.nil
            have e0 := kg.cell 0; have e1 := kg.cell 1; have e2 := kg.cell 2; have e3 := kg.cell 3; have e4 := kg.cell 4; have e5 := kg.cell 5; have e6 := kg.cell 6; have e7 := kg.cell 7; have f0 := kg.frozen 0; have f1 := kg.frozen 1; have f2 := kg.frozen 2; have f3 := kg.frozen 3; have f4 := kg.frozen 4; have f5 := kg.frozen 5; have f6 := kg.frozen 6; have f7 := kg.frozen 7; have hlp := kg.lt; simp only [List.getElem?_toArray, List.getElem?_cons_zero, List.getElem?_cons_succ] at e0 e1 e2 e3 e4 e5 e6 e7; go_simp; clear e0 e1 e2 e3 e4 e5 e6 e7 f0 f1 f2 f3 f4 f5 f6 f7 hlp; obtain ⟨W2, e, z, hf, hb, hr⟩ := put8 kg (.int .i64 g.ba) (.int .i64 g.bi) (.int .i64 g.ou) (.slice T n n) (.slice T2 m m) (.int .i64 g.fi) (.int .i64 g.ho) (.int .i64 g.no); rw [e]; clear e; replace k0 := hf k0 (by omega); replace k1 := hf k1 (by omega); replace k2 := hf k2 (by omega); replace k3 := hf k3 (by omega); replace kp := hf kp hne; replace B := hb B (by omega); replace hTab := (hr (base := 0)).2 hTab (fun a ha hx => by have := hNear a ha hx; omega); replace kg := z; clear z hf hb hr
            refine hK.out _ _ ?_ (fun hHeld => ?_)
            · (try dsimp only); exact ⟨k0.cell 0, k0.cell 1, k0.cell 2, k0.cell 3, k0.cell 4, k0.cell 5, k0.cell 6, k0.cell 7, k1.cell 0, k1.cell 1, k1.cell 2, k1.cell 3, k1.cell 4, k1.cell 5⟩
            clear hK K
            try simp only [Act.put, List.setIfInBounds_toArray, List.set_cons_zero, List.set_cons_succ]
            refine wpAnyH_done (by kernel_rfl) ?_ _
            go_wp2_with fail
            go_meet
            exact ⟨b10, b11, D', T, T2, rfl, rfl, k0, k1, k2, k3, kp, kg, hTab, B, h10, h11, hne⟩
        · go_simp
          obtain ⟨wg, b11, ex, eb, hq, kgn⟩ := allocB B #[.int .i64 0, .int .i64 0, .int .i64 0, .slice none 0 0, .slice none 0 0, .int .i64 0, .int .i64 0, .int .i64 0] 44; rw [ex, eb]; have h11 := hsz; rw [eb] at h11; clear ex eb; replace k0 := k0.to hq; replace k1 := k1.to hq; replace k2 := k2.to hq; replace k3 := k3.to hq; replace B := Bl.then B hq; replace hTab := Rd.to hTab hq; replace hsz := Nat.le_trans hsz hq.size; (first | (replace kp := Blk.to kp hq) | skip); (first | (replace kg := Blk.to kg hq) | skip); clear hq; have kg := kgn; clear kgn
          refine hK.out _ _ ?_ (fun hHeld => ?_)
          · (try dsimp only); exact ⟨k0.cell 0, k0.cell 1, k0.cell 2, k0.cell 3, k0.cell 4, k0.cell 5, k0.cell 6, k0.cell 7, k1.cell 0, k1.cell 1, k1.cell 2, k1.cell 3, k1.cell 4, k1.cell 5⟩
          clear hK K
          try simp only [Act.put, List.setIfInBounds_toArray, List.set_cons_zero, List.set_cons_succ]
          refine wpAnyH_ready (rs := [3, 4]) (by kernel_rfl) (by simp) ?_
          refine AllReadyH.cons (arr_at rfl) (fun K hK => ?_) (AllReadyH.cons (arr_at rfl) (fun K hK => ?_) AllReadyH.nil)
          · go_simp
            go_at_call 70; refine (c_GcopyOf g A n c C m d _ HN.out (HA.out _ B) HM.out (HC.out _ B) (by omega) (by omega)).mono ?_; rintro e wB ⟨T, T2, rfl, -, -, -, -, hq⟩; replace k0 := k0.to hq; replace k1 := k1.to hq; replace k2 := k2.to hq; replace k3 := k3.to hq; replace B := Bl.then B hq; replace hTab := Rd.to hTab hq; replace hsz := Nat.le_trans hsz hq.size; (first | (replace kp := Blk.to kp hq) | skip); (first | (replace kg := Blk.to kg hq) | skip); clear hq
            refine hK.out _ _ ?_ (fun hHeld => ?_)
            · (try dsimp only); exact ⟨k0.cell 0, k0.cell 1, k0.cell 2, k0.cell 3, k0.cell 4, k0.cell 5, k0.cell 6, k0.cell 7, k1.cell 0, k1.cell 1, k1.cell 2, k1.cell 3, k1.cell 4, k1.cell 5⟩
            clear hK K
            try simp only [Act.put, List.setIfInBounds_toArray, List.set_cons_zero, List.set_cons_succ]
            refine wpAnyH_ready (rs := [4]) (by kernel_rfl) (by simp) ?_
            refine AllReadyH.cons (arr_at rfl) (fun K hK => ?_) AllReadyH.nil
            go_simp
            obtain ⟨wp, b10, ex, eb, hq, kpn⟩ := allocB B #[.int .i64 0, .int .i64 0, .int .i64 0, .int .i64 0, .int .i64 0, .slice none 0 0] 74; rw [ex, eb]; have h10 := hsz; rw [eb] at h10; have hne := kg.lt; rw [eb] at hne; replace hne : b10 ≠ b11 := (by omega); clear ex eb; replace k0 := k0.to hq; replace k1 := k1.to hq; replace k2 := k2.to hq; replace k3 := k3.to hq; replace B := Bl.then B hq; replace hTab := Rd.to hTab hq; replace hsz := Nat.le_trans hsz hq.size; (first | (replace kp := Blk.to kp hq) | skip); (first | (replace kg := Blk.to kg hq) | skip); clear hq; have kp := kpn; clear kpn
            refine hK.out _ _ ?_ (fun hHeld => ?_)
            · (try dsimp only); exact ⟨k0.cell 0, k0.cell 1, k0.cell 2, k0.cell 3, k0.cell 4, k0.cell 5, k0.cell 6, k0.cell 7, k1.cell 0, k1.cell 1, k1.cell 2, k1.cell 3, k1.cell 4, k1.cell 5⟩
            clear hK K
            try simp only [Act.put, List.setIfInBounds_toArray, List.set_cons_zero, List.set_cons_succ]
            refine wpAnyH_ready (rs := [6]) (by kernel_rfl) (by simp) ?_
            refine AllReadyH.cons (arr_at rfl) (fun K hK => ?_) AllReadyH.nil
            have e0 := kp.cell 0; have e1 := kp.cell 1; have e2 := kp.cell 2; have e3 := kp.cell 3; have e4 := kp.cell 4; have e5 := kp.cell 5; have f0 := kp.frozen 0; have f1 := kp.frozen 1; have f2 := kp.frozen 2; have f3 := kp.frozen 3; have f4 := kp.frozen 4; have f5 := kp.frozen 5; have hlp := kp.lt; simp only [List.getElem?_toArray, List.getElem?_cons_zero, List.getElem?_cons_succ] at e0 e1 e2 e3 e4 e5; go_simp; clear e0 e1 e2 e3 e4 e5 f0 f1 f2 f3 f4 f5 hlp; obtain ⟨W, e, z, hf, hb, hr⟩ := put6 kp (.int .i64 0) (.int .i64 p.fa) (.int .i64 p.fp) (.int .i64 p.ta) (.int .i64 p.tp) (.slice D' 0 0); rw [e]; clear e; replace k0 := hf k0 (by omega); replace k1 := hf k1 (by omega); replace k2 := hf k2 (by omega); replace k3 := hf k3 (by omega); replace kg := hf kg (Ne.symm hne); replace B := hb B (by omega); replace hTab := (hr (base := 0)).2 hTab (fun a ha hx => by have := hNear a ha hx; omega); replace kp := z; clear z hf hb hr
            refine hK.out _ _ ?_ (fun hHeld => ?_)
            · (try dsimp only); exact ⟨k0.cell 0, k0.cell 1, k0.cell 2, k0.cell 3, k0.cell 4, k0.cell 5, k0.cell 6, k0.cell 7, k1.cell 0, k1.cell 1, k1.cell 2, k1.cell 3, k1.cell 4, k1.cell 5⟩
            clear hK K
            try simp only [Act.put, List.setIfInBounds_toArray, List.set_cons_zero, List.set_cons_succ]
            refine wpAnyH_ready (rs := [7]) (by kernel_rfl) (by simp) ?_
            refine AllReadyH.cons (arr_at rfl) (fun K hK => ?_) AllReadyH.nil
            have e0 := kg.cell 0; have e1 := kg.cell 1; have e2 := kg.cell 2; have e3 := kg.cell 3; have e4 := kg.cell 4; have e5 := kg.cell 5; have e6 := kg.cell 6; have e7 := kg.cell 7; have f0 := kg.frozen 0; have f1 := kg.frozen 1; have f2 := kg.frozen 2; have f3 := kg.frozen 3; have f4 := kg.frozen 4; have f5 := kg.frozen 5; have f6 := kg.frozen 6; have f7 := kg.frozen 7; have hlp := kg.lt; simp only [List.getElem?_toArray, List.getElem?_cons_zero, List.getElem?_cons_succ] at e0 e1 e2 e3 e4 e5 e6 e7; go_simp; clear e0 e1 e2 e3 e4 e5 e6 e7 f0 f1 f2 f3 f4 f5 f6 f7 hlp; obtain ⟨W2, e, z, hf, hb, hr⟩ := put8 kg (.int .i64 g.ba) (.int .i64 g.bi) (.int .i64 g.ou) (.slice T n n) (.slice T2 m m) (.int .i64 g.fi) (.int .i64 g.ho) (.int .i64 g.no); rw [e]; clear e; replace k0 := hf k0 (by omega); replace k1 := hf k1 (by omega); replace k2 := hf k2 (by omega); replace k3 := hf k3 (by omega); replace kp := hf kp hne; replace B := hb B (by omega); replace hTab := (hr (base := 0)).2 hTab (fun a ha hx => by have := hNear a ha hx; omega); replace kg := z; clear z hf hb hr
            refine hK.out _ _ ?_ (fun hHeld => ?_)
            · (try dsimp only); exact ⟨k0.cell 0, k0.cell 1, k0.cell 2, k0.cell 3, k0.cell 4, k0.cell 5, k0.cell 6, k0.cell 7, k1.cell 0, k1.cell 1, k1.cell 2, k1.cell 3, k1.cell 4, k1.cell 5⟩
            clear hK K
            try simp only [Act.put, List.setIfInBounds_toArray, List.set_cons_zero, List.set_cons_succ]
            refine wpAnyH_done (by kernel_rfl) ?_ _
            go_wp2_with fail
            go_meet
            exact ⟨b10, b11, D', T, T2, rfl, rfl, k0, k1, k2, k3, kp, kg, hTab, B, h10, h11, hne⟩
          · go_simp
            obtain ⟨wp, b10, ex, eb, hq, kpn⟩ := allocB B #[.int .i64 0, .int .i64 0, .int .i64 0, .int .i64 0, .int .i64 0, .slice none 0 0] 74; rw [ex, eb]; have h10 := hsz; rw [eb] at h10; have hne := kg.lt; rw [eb] at hne; replace hne : b10 ≠ b11 := (by omega); clear ex eb; replace k0 := k0.to hq; replace k1 := k1.to hq; replace k2 := k2.to hq; replace k3 := k3.to hq; replace B := Bl.then B hq; replace hTab := Rd.to hTab hq; replace hsz := Nat.le_trans hsz hq.size; (first | (replace kp := Blk.to kp hq) | skip); (first | (replace kg := Blk.to kg hq) | skip); clear hq; have kp := kpn; clear kpn
            refine hK.out _ _ ?_ (fun hHeld => ?_)
            · (try dsimp only); exact ⟨k0.cell 0, k0.cell 1, k0.cell 2, k0.cell 3, k0.cell 4, k0.cell 5, k0.cell 6, k0.cell 7, k1.cell 0, k1.cell 1, k1.cell 2, k1.cell 3, k1.cell 4, k1.cell 5⟩
            clear hK K
            try simp only [Act.put, List.setIfInBounds_toArray, List.set_cons_zero, List.set_cons_succ]
            refine wpAnyH_ready (rs := [3]) (by kernel_rfl) (by simp) ?_
            refine AllReadyH.cons (arr_at rfl) (fun K hK => ?_) AllReadyH.nil
            go_simp
            go_at_call 70; refine (c_GcopyOf g A n c C m d _ HN.out (HA.out _ B) HM.out (HC.out _ B) (by omega) (by omega)).mono ?_; rintro e wB ⟨T, T2, rfl, -, -, -, -, hq⟩; replace k0 := k0.to hq; replace k1 := k1.to hq; replace k2 := k2.to hq; replace k3 := k3.to hq; replace B := Bl.then B hq; replace hTab := Rd.to hTab hq; replace hsz := Nat.le_trans hsz hq.size; (first | (replace kp := Blk.to kp hq) | skip); (first | (replace kg := Blk.to kg hq) | skip); clear hq
            refine hK.out _ _ ?_ (fun hHeld => ?_)
            · (try dsimp only); exact ⟨k0.cell 0, k0.cell 1, k0.cell 2, k0.cell 3, k0.cell 4, k0.cell 5, k0.cell 6, k0.cell 7, k1.cell 0, k1.cell 1, k1.cell 2, k1.cell 3, k1.cell 4, k1.cell 5⟩
            clear hK K
            try simp only [Act.put, List.setIfInBounds_toArray, List.set_cons_zero, List.set_cons_succ]
            refine wpAnyH_ready (rs := [6]) (by kernel_rfl) (by simp) ?_
            refine AllReadyH.cons (arr_at rfl) (fun K hK => ?_) AllReadyH.nil
            have e0 := kp.cell 0; have e1 := kp.cell 1; have e2 := kp.cell 2; have e3 := kp.cell 3; have e4 := kp.cell 4; have e5 := kp.cell 5; have f0 := kp.frozen 0; have f1 := kp.frozen 1; have f2 := kp.frozen 2; have f3 := kp.frozen 3; have f4 := kp.frozen 4; have f5 := kp.frozen 5; have hlp := kp.lt; simp only [List.getElem?_toArray, List.getElem?_cons_zero, List.getElem?_cons_succ] at e0 e1 e2 e3 e4 e5; go_simp; clear e0 e1 e2 e3 e4 e5 f0 f1 f2 f3 f4 f5 hlp; obtain ⟨W, e, z, hf, hb, hr⟩ := put6 kp (.int .i64 0) (.int .i64 p.fa) (.int .i64 p.fp) (.int .i64 p.ta) (.int .i64 p.tp) (.slice D' 0 0); rw [e]; clear e; replace k0 := hf k0 (by omega); replace k1 := hf k1 (by omega); replace k2 := hf k2 (by omega); replace k3 := hf k3 (by omega); replace kg := hf kg (Ne.symm hne); replace B := hb B (by omega); replace hTab := (hr (base := 0)).2 hTab (fun a ha hx => by have := hNear a ha hx; omega); replace kp := z; clear z hf hb hr
            refine hK.out _ _ ?_ (fun hHeld => ?_)
            · (try dsimp only); exact ⟨k0.cell 0, k0.cell 1, k0.cell 2, k0.cell 3, k0.cell 4, k0.cell 5, k0.cell 6, k0.cell 7, k1.cell 0, k1.cell 1, k1.cell 2, k1.cell 3, k1.cell 4, k1.cell 5⟩
            clear hK K
            try simp only [Act.put, List.setIfInBounds_toArray, List.set_cons_zero, List.set_cons_succ]
            refine wpAnyH_ready (rs := [7]) (by kernel_rfl) (by simp) ?_
            refine AllReadyH.cons (arr_at rfl) (fun K hK => ?_) AllReadyH.nil
            have e0 := kg.cell 0; have e1 := kg.cell 1; have e2 := kg.cell 2; have e3 := kg.cell 3; have e4 := kg.cell 4; have e5 := kg.cell 5; have e6 := kg.cell 6; have e7 := kg.cell 7; have f0 := kg.frozen 0; have f1 := kg.frozen 1; have f2 := kg.frozen 2; have f3 := kg.frozen 3; have f4 := kg.frozen 4; have f5 := kg.frozen 5; have f6 := kg.frozen 6; have f7 := kg.frozen 7; have hlp := kg.lt; simp only [List.getElem?_toArray, List.getElem?_cons_zero, List.getElem?_cons_succ] at e0 e1 e2 e3 e4 e5 e6 e7; go_simp; clear e0 e1 e2 e3 e4 e5 e6 e7 f0 f1 f2 f3 f4 f5 f6 f7 hlp; obtain ⟨W2, e, z, hf, hb, hr⟩ := put8 kg (.int .i64 g.ba) (.int .i64 g.bi) (.int .i64 g.ou) (.slice T n n) (.slice T2 m m) (.int .i64 g.fi) (.int .i64 g.ho) (.int .i64 g.no); rw [e]; clear e; replace k0 := hf k0 (by omega); replace k1 := hf k1 (by omega); replace k2 := hf k2 (by omega); replace k3 := hf k3 (by omega); replace kp := hf kp hne; replace B := hb B (by omega); replace hTab := (hr (base := 0)).2 hTab (fun a ha hx => by have := hNear a ha hx; omega); replace kg := z; clear z hf hb hr
            refine hK.out _ _ ?_ (fun hHeld => ?_)
            · (try dsimp only); exact ⟨k0.cell 0, k0.cell 1, k0.cell 2, k0.cell 3, k0.cell 4, k0.cell 5, k0.cell 6, k0.cell 7, k1.cell 0, k1.cell 1, k1.cell 2, k1.cell 3, k1.cell 4, k1.cell 5⟩
            clear hK K
            try simp only [Act.put, List.setIfInBounds_toArray, List.set_cons_zero, List.set_cons_succ]
            refine wpAnyH_done (by kernel_rfl) ?_ _
            go_wp2_with fail
            go_meet
            exact ⟨b10, b11, D', T, T2, rfl, rfl, k0, k1, k2, k3, kp, kg, hTab, B, h10, h11, hne⟩
      · go_simp
        obtain ⟨wp, b10, ex, eb, hq, kpn⟩ := allocB B #[.int .i64 0, .int .i64 0, .int .i64 0, .int .i64 0, .int .i64 0, .slice none 0 0] 74; rw [ex, eb]; have h10 := hsz; rw [eb] at h10; clear ex eb; replace k0 := k0.to hq; replace k1 := k1.to hq; replace k2 := k2.to hq; replace k3 := k3.to hq; replace B := Bl.then B hq; replace hTab := Rd.to hTab hq; replace hsz := Nat.le_trans hsz hq.size; (first | (replace kp := Blk.to kp hq) | skip); (first | (replace kg := Blk.to kg hq) | skip); clear hq; have kp := kpn; clear kpn
        refine hK.out _ _ ?_ (fun hHeld => ?_)
        · (try dsimp only); exact ⟨k0.cell 0, k0.cell 1, k0.cell 2, k0.cell 3, k0.cell 4, k0.cell 5, k0.cell 6, k0.cell 7, k1.cell 0, k1.cell 1, k1.cell 2, k1.cell 3, k1.cell 4, k1.cell 5⟩
        clear hK K
        try simp only [Act.put, List.setIfInBounds_toArray, List.set_cons_zero, List.set_cons_succ]
        refine wpAnyH_ready (rs := [1, 5]) (by kernel_rfl) (by simp) ?_
        refine AllReadyH.cons (arr_at rfl) (fun K hK => ?_) (AllReadyH.cons (arr_at rfl) (fun K hK => ?_) AllReadyH.nil)
        · go_simp
          go_at_call 105; refine (c_PcopyOf p D dc _).mono ?_; rintro e wA ⟨D', rfl, hq⟩; replace k0 := k0.to hq; replace k1 := k1.to hq; replace k2 := k2.to hq; replace k3 := k3.to hq; replace B := Bl.then B hq; replace hTab := Rd.to hTab hq; replace hsz := Nat.le_trans hsz hq.size; (first | (replace kp := Blk.to kp hq) | skip); (first | (replace kg := Blk.to kg hq) | skip); clear hq
          refine hK.out _ _ ?_ (fun hHeld => ?_)
          · (try dsimp only); exact ⟨k0.cell 0, k0.cell 1, k0.cell 2, k0.cell 3, k0.cell 4, k0.cell 5, k0.cell 6, k0.cell 7, k1.cell 0, k1.cell 1, k1.cell 2, k1.cell 3, k1.cell 4, k1.cell 5⟩
          clear hK K
          try simp only [Act.put, List.setIfInBounds_toArray, List.set_cons_zero, List.set_cons_succ]
          refine wpAnyH_ready (rs := [3, 5]) (by kernel_rfl) (by simp) ?_
          refine AllReadyH.cons (arr_at rfl) (fun K hK => ?_) (AllReadyH.cons (arr_at rfl) (fun K hK => ?_) AllReadyH.nil)
          · go_simp
            go_at_call 70; refine (c_GcopyOf g A n c C m d _ HN.out (HA.out _ B) HM.out (HC.out _ B) (by omega) (by omega)).mono ?_; rintro e wB ⟨T, T2, rfl, -, -, -, -, hq⟩; replace k0 := k0.to hq; replace k1 := k1.to hq; replace k2 := k2.to hq; replace k3 := k3.to hq; replace B := Bl.then B hq; replace hTab := Rd.to hTab hq; replace hsz := Nat.le_trans hsz hq.size; (first | (replace kp := Blk.to kp hq) | skip); (first | (replace kg := Blk.to kg hq) | skip); clear hq
            refine hK.out _ _ ?_ (fun hHeld => ?_)
            · (try dsimp only); exact ⟨k0.cell 0, k0.cell 1, k0.cell 2, k0.cell 3, k0.cell 4, k0.cell 5, k0.cell 6, k0.cell 7, k1.cell 0, k1.cell 1, k1.cell 2, k1.cell 3, k1.cell 4, k1.cell 5⟩
            clear hK K
            try simp only [Act.put, List.setIfInBounds_toArray, List.set_cons_zero, List.set_cons_succ]
            refine wpAnyH_ready (rs := [5]) (by kernel_rfl) (by simp) ?_
            refine AllReadyH.cons (arr_at rfl) (fun K hK => ?_) AllReadyH.nil
            go_simp
            obtain ⟨wg, b11, ex, eb, hq, kgn⟩ := allocB B #[.int .i64 0, .int .i64 0, .int .i64 0, .slice none 0 0, .slice none 0 0, .int .i64 0, .int .i64 0, .int .i64 0] 44; rw [ex, eb]; have h11 := hsz; rw [eb] at h11; have hne := kp.lt; rw [eb] at hne; replace hne : b10 ≠ b11 := (by omega); clear ex eb; replace k0 := k0.to hq; replace k1 := k1.to hq; replace k2 := k2.to hq; replace k3 := k3.to hq; replace B := Bl.then B hq; replace hTab := Rd.to hTab hq; replace hsz := Nat.le_trans hsz hq.size; (first | (replace kp := Blk.to kp hq) | skip); (first | (replace kg := Blk.to kg hq) | skip); clear hq; have kg := kgn; clear kgn
            refine hK.out _ _ ?_ (fun hHeld => ?_)
            · (try dsimp only); exact ⟨k0.cell 0, k0.cell 1, k0.cell 2, k0.cell 3, k0.cell 4, k0.cell 5, k0.cell 6, k0.cell 7, k1.cell 0, k1.cell 1, k1.cell 2, k1.cell 3, k1.cell 4, k1.cell 5⟩
            clear hK K
            try simp only [Act.put, List.setIfInBounds_toArray, List.set_cons_zero, List.set_cons_succ]
            refine wpAnyH_ready (rs := [6]) (by kernel_rfl) (by simp) ?_
            refine AllReadyH.cons (arr_at rfl) (fun K hK => ?_) AllReadyH.nil
            have e0 := kp.cell 0; have e1 := kp.cell 1; have e2 := kp.cell 2; have e3 := kp.cell 3; have e4 := kp.cell 4; have e5 := kp.cell 5; have f0 := kp.frozen 0; have f1 := kp.frozen 1; have f2 := kp.frozen 2; have f3 := kp.frozen 3; have f4 := kp.frozen 4; have f5 := kp.frozen 5; have hlp := kp.lt; simp only [List.getElem?_toArray, List.getElem?_cons_zero, List.getElem?_cons_succ] at e0 e1 e2 e3 e4 e5; go_simp; clear e0 e1 e2 e3 e4 e5 f0 f1 f2 f3 f4 f5 hlp; obtain ⟨W, e, z, hf, hb, hr⟩ := put6 kp (.int .i64 0) (.int .i64 p.fa) (.int .i64 p.fp) (.int .i64 p.ta) (.int .i64 p.tp) (.slice D' 0 0); rw [e]; clear e; replace k0 := hf k0 (by omega); replace k1 := hf k1 (by omega); replace k2 := hf k2 (by omega); replace k3 := hf k3 (by omega); replace kg := hf kg (Ne.symm hne); replace B := hb B (by omega); replace hTab := (hr (base := 0)).2 hTab (fun a ha hx => by have := hNear a ha hx; omega); replace kp := z; clear z hf hb hr
            refine hK.out _ _ ?_ (fun hHeld => ?_)
            · (try dsimp only); exact ⟨k0.cell 0, k0.cell 1, k0.cell 2, k0.cell 3, k0.cell 4, k0.cell 5, k0.cell 6, k0.cell 7, k1.cell 0, k1.cell 1, k1.cell 2, k1.cell 3, k1.cell 4, k1.cell 5⟩
            clear hK K
            try simp only [Act.put, List.setIfInBounds_toArray, List.set_cons_zero, List.set_cons_succ]
            refine wpAnyH_ready (rs := [7]) (by kernel_rfl) (by simp) ?_
            refine AllReadyH.cons (arr_at rfl) (fun K hK => ?_) AllReadyH.nil
            have e0 := kg.cell 0; have e1 := kg.cell 1; have e2 := kg.cell 2; have e3 := kg.cell 3; have e4 := kg.cell 4; have e5 := kg.cell 5; have e6 := kg.cell 6; have e7 := kg.cell 7; have f0 := kg.frozen 0; have f1 := kg.frozen 1; have f2 := kg.frozen 2; have f3 := kg.frozen 3; have f4 := kg.frozen 4; have f5 := kg.frozen 5; have f6 := kg.frozen 6; have f7 := kg.frozen 7; have hlp := kg.lt; simp only [List.getElem?_toArray, List.getElem?_cons_zero, List.getElem?_cons_succ] at e0 e1 e2 e3 e4 e5 e6 e7; go_simp; clear e0 e1 e2 e3 e4 e5 e6 e7 f0 f1 f2 f3 f4 f5 f6 f7 hlp; obtain ⟨W2, e, z, hf, hb, hr⟩ := put8 kg (.int .i64 g.ba) (.int .i64 g.bi) (.int .i64 g.ou) (.slice T n n) (.slice T2 m m) (.int .i64 g.fi) (.int .i64 g.ho) (.int .i64 g.no); rw [e]; clear e; replace k0 := hf k0 (by omega); replace k1 := hf k1 (by omega); replace k2 := hf k2 (by omega); replace k3 := hf k3 (by omega); replace kp := hf kp hne; replace B := hb B (by omega); replace hTab := (hr (base := 0)).2 hTab (fun a ha hx => by have := hNear a ha hx; omega); replace kg := z; clear z hf hb hr
            refine hK.out _ _ ?_ (fun hHeld => ?_)
            · (try dsimp only); exact ⟨k0.cell 0, k0.cell 1, k0.cell 2, k0.cell 3, k0.cell 4, k0.cell 5, k0.cell 6, k0.cell 7, k1.cell 0, k1.cell 1, k1.cell 2, k1.cell 3, k1.cell 4, k1.cell 5⟩
            clear hK K
            try simp only [Act.put, List.setIfInBounds_toArray, List.set_cons_zero, List.set_cons_succ]
            refine wpAnyH_done (by kernel_rfl) ?_ _
            go_wp2_with fail
            go_meet
            exact ⟨b10, b11, D', T, T2, rfl, rfl, k0, k1, k2, k3, kp, kg, hTab, B, h10, h11, hne⟩
          · go_simp
            obtain ⟨wg, b11, ex, eb, hq, kgn⟩ := allocB B #[.int .i64 0, .int .i64 0, .int .i64 0, .slice none 0 0, .slice none 0 0, .int .i64 0, .int .i64 0, .int .i64 0] 44; rw [ex, eb]; have h11 := hsz; rw [eb] at h11; have hne := kp.lt; rw [eb] at hne; replace hne : b10 ≠ b11 := (by omega); clear ex eb; replace k0 := k0.to hq; replace k1 := k1.to hq; replace k2 := k2.to hq; replace k3 := k3.to hq; replace B := Bl.then B hq; replace hTab := Rd.to hTab hq; replace hsz := Nat.le_trans hsz hq.size; (first | (replace kp := Blk.to kp hq) | skip); (first | (replace kg := Blk.to kg hq) | skip); clear hq; have kg := kgn; clear kgn
            refine hK.out _ _ ?_ (fun hHeld => ?_)
            · (try dsimp only); exact ⟨k0.cell 0, k0.cell 1, k0.cell 2, k0.cell 3, k0.cell 4, k0.cell 5, k0.cell 6, k0.cell 7, k1.cell 0, k1.cell 1, k1.cell 2, k1.cell 3, k1.cell 4, k1.cell 5⟩
            clear hK K
            try simp only [Act.put, List.setIfInBounds_toArray, List.set_cons_zero, List.set_cons_succ]
            refine wpAnyH_ready (rs := [3]) (by kernel_rfl) (by simp) ?_
            refine AllReadyH.cons (arr_at rfl) (fun K hK => ?_) AllReadyH.nil
            go_simp
            go_at_call 70; refine (c_GcopyOf g A n c C m d _ HN.out (HA.out _ B) HM.out (HC.out _ B) (by omega) (by omega)).mono ?_; rintro e wB ⟨T, T2, rfl, -, -, -, -, hq⟩; replace k0 := k0.to hq; replace k1 := k1.to hq; replace k2 := k2.to hq; replace k3 := k3.to hq; replace B := Bl.then B hq; replace hTab := Rd.to hTab hq; replace hsz := Nat.le_trans hsz hq.size; (first | (replace kp := Blk.to kp hq) | skip); (first | (replace kg := Blk.to kg hq) | skip); clear hq
            refine hK.out _ _ ?_ (fun hHeld => ?_)
            · (try dsimp only); exact ⟨k0.cell 0, k0.cell 1, k0.cell 2, k0.cell 3, k0.cell 4, k0.cell 5, k0.cell 6, k0.cell 7, k1.cell 0, k1.cell 1, k1.cell 2, k1.cell 3, k1.cell 4, k1.cell 5⟩
            clear hK K
            try simp only [Act.put, List.setIfInBounds_toArray, List.set_cons_zero, List.set_cons_succ]
            refine wpAnyH_ready (rs := [6]) (by kernel_rfl) (by simp) ?_
            refine AllReadyH.cons (arr_at rfl) (fun K hK => ?_) AllReadyH.nil
            have e0 := kp.cell 0; have e1 := kp.cell 1; have e2 := kp.cell 2; have e3 := kp.cell 3; have e4 := kp.cell 4; have e5 := kp.cell 5; have f0 := kp.frozen 0; have f1 := kp.frozen 1; have f2 := kp.frozen 2; have f3 := kp.frozen 3; have f4 := kp.frozen 4; have f5 := kp.frozen 5; have hlp := kp.lt; simp only [List.getElem?_toArray, List.getElem?_cons_zero, List.getElem?_cons_succ] at e0 e1 e2 e3 e4 e5; go_simp; clear e0 e1 e2 e3 e4 e5 f0 f1 f2 f3 f4 f5 hlp; obtain ⟨W, e, z, hf, hb, hr⟩ := put6 kp (.int .i64 0) (.int .i64 p.fa) (.int .i64 p.fp) (.int .i64 p.ta) (.int .i64 p.tp) (.slice D' 0 0); rw [e]; clear e; replace k0 := hf k0 (by omega); replace k1 := hf k1 (by omega); replace k2 := hf k2 (by omega); replace k3 := hf k3 (by omega); replace kg := hf kg (Ne.symm hne); replace B := hb B (by omega); replace hTab := (hr (base := 0)).2 hTab (fun a ha hx => by have := hNear a ha hx; omega); replace kp := z; clear z hf hb hr
            refine hK.out _ _ ?_ (fun hHeld => ?_)
            · (try dsimp only); exact ⟨k0.cell 0, k0.cell 1, k0.cell 2, k0.cell 3, k0.cell 4, k0.cell 5, k0.cell 6, k0.cell 7, k1.cell 0, k1.cell 1, k1.cell 2, k1.cell 3, k1.cell 4, k1.cell 5⟩
            clear hK K
            try simp only [Act.put, List.setIfInBounds_toArray, List.set_cons_zero, List.set_cons_succ]
            refine wpAnyH_ready (rs := [7]) (by kernel_rfl) (by simp) ?_
            refine AllReadyH.cons (arr_at rfl) (fun K hK => ?_) AllReadyH.nil
            have e0 := kg.cell 0; have e1 := kg.cell 1; have e2 := kg.cell 2; have e3 := kg.cell 3; have e4 := kg.cell 4; have e5 := kg.cell 5; have e6 := kg.cell 6; have e7 := kg.cell 7; have f0 := kg.frozen 0; have f1 := kg.frozen 1; have f2 := kg.frozen 2; have f3 := kg.frozen 3; have f4 := kg.frozen 4; have f5 := kg.frozen 5; have f6 := kg.frozen 6; have f7 := kg.frozen 7; have hlp := kg.lt; simp only [List.getElem?_toArray, List.getElem?_cons_zero, List.getElem?_cons_succ] at e0 e1 e2 e3 e4 e5 e6 e7; go_simp; clear e0 e1 e2 e3 e4 e5 e6 e7 f0 f1 f2 f3 f4 f5 f6 f7 hlp; obtain ⟨W2, e, z, hf, hb, hr⟩ := put8 kg (.int .i64 g.ba) (.int .i64 g.bi) (.int .i64 g.ou) (.slice T n n) (.slice T2 m m) (.int .i64 g.fi) (.int .i64 g.ho) (.int .i64 g.no); rw [e]; clear e; replace k0 := hf k0 (by omega); replace k1 := hf k1 (by omega); replace k2 := hf k2 (by omega); replace k3 := hf k3 (by omega); replace kp := hf kp hne; replace B := hb B (by omega); replace hTab := (hr (base := 0)).2 hTab (fun a ha hx => by have := hNear a ha hx; omega); replace kg := z; clear z hf hb hr
            refine hK.out _ _ ?_ (fun hHeld => ?_)
            · (try dsimp only); exact ⟨k0.cell 0, k0.cell 1, k0.cell 2, k0.cell 3, k0.cell 4, k0.cell 5, k0.cell 6, k0.cell 7, k1.cell 0, k1.cell 1, k1.cell 2, k1.cell 3, k1.cell 4, k1.cell 5⟩
            clear hK K
            try simp only [Act.put, List.setIfInBounds_toArray, List.set_cons_zero, List.set_cons_succ]
            refine wpAnyH_done (by kernel_rfl) ?_ _
            go_wp2_with fail
            go_meet
            exact ⟨b10, b11, D', T, T2, rfl, rfl, k0, k1, k2, k3, kp, kg, hTab, B, h10, h11, hne⟩
        · go_simp
          obtain ⟨wg, b11, ex, eb, hq, kgn⟩ := allocB B #[.int .i64 0, .int .i64 0, .int .i64 0, .slice none 0 0, .slice none 0 0, .int .i64 0, .int .i64 0, .int .i64 0] 44; rw [ex, eb]; have h11 := hsz; rw [eb] at h11; have hne := kp.lt; rw [eb] at hne; replace hne : b10 ≠ b11 := (by omega); clear ex eb; replace k0 := k0.to hq; replace k1 := k1.to hq; replace k2 := k2.to hq; replace k3 := k3.to hq; replace B := Bl.then B hq; replace hTab := Rd.to hTab hq; replace hsz := Nat.le_trans hsz hq.size; (first | (replace kp := Blk.to kp hq) | skip); (first | (replace kg := Blk.to kg hq) | skip); clear hq; have kg := kgn; clear kgn
          refine hK.out _ _ ?_ (fun hHeld => ?_)
          · (try dsimp only); exact ⟨k0.cell 0, k0.cell 1, k0.cell 2, k0.cell 3, k0.cell 4, k0.cell 5, k0.cell 6, k0.cell 7, k1.cell 0, k1.cell 1, k1.cell 2, k1.cell 3, k1.cell 4, k1.cell 5⟩
          clear hK K
          try simp only [Act.put, List.setIfInBounds_toArray, List.set_cons_zero, List.set_cons_succ]
          refine wpAnyH_ready (rs := [1]) (by kernel_rfl) (by simp) ?_
          refine AllReadyH.cons (arr_at rfl) (fun K hK => ?_) AllReadyH.nil
          go_simp
          go_at_call 105; refine (c_PcopyOf p D dc _).mono ?_; rintro e wA ⟨D', rfl, hq⟩; replace k0 := k0.to hq; replace k1 := k1.to hq; replace k2 := k2.to hq; replace k3 := k3.to hq; replace B := Bl.then B hq; replace hTab := Rd.to hTab hq; replace hsz := Nat.le_trans hsz hq.size; (first | (replace kp := Blk.to kp hq) | skip); (first | (replace kg := Blk.to kg hq) | skip); clear hq
          refine hK.out _ _ ?_ (fun hHeld => ?_)
          · (try dsimp only); exact ⟨k0.cell 0, k0.cell 1, k0.cell 2, k0.cell 3, k0.cell 4, k0.cell 5, k0.cell 6, k0.cell 7, k1.cell 0, k1.cell 1, k1.cell 2, k1.cell 3, k1.cell 4, k1.cell 5⟩
          clear hK K
          try simp only [Act.put, List.setIfInBounds_toArray, List.set_cons_zero, List.set_cons_succ]
          refine wpAnyH_ready (rs := [3]) (by kernel_rfl) (by simp) ?_
          refine AllReadyH.cons (arr_at rfl) (fun K hK => ?_) AllReadyH.nil
          go_simp
          go_at_call 70; refine (c_GcopyOf g A n c C m d _ HN.out (HA.out _ B) HM.out (HC.out _ B) (by omega) (by omega)).mono ?_; rintro e wB ⟨T, T2, rfl, -, -, -, -, hq⟩; replace k0 := k0.to hq; replace k1 := k1.to hq; replace k2 := k2.to hq; replace k3 := k3.to hq; replace B := Bl.then B hq; replace hTab := Rd.to hTab hq; replace hsz := Nat.le_trans hsz hq.size; (first | (replace kp := Blk.to kp hq) | skip); (first | (replace kg := Blk.to kg hq) | skip); clear hq
          refine hK.out _ _ ?_ (fun hHeld => ?_)
          · (try dsimp only); exact ⟨k0.cell 0, k0.cell 1, k0.cell 2, k0.cell 3, k0.cell 4, k0.cell 5, k0.cell 6, k0.cell 7, k1.cell 0, k1.cell 1, k1.cell 2, k1.cell 3, k1.cell 4, k1.cell 5⟩
          clear hK K
          try simp only [Act.put, List.setIfInBounds_toArray, List.set_cons_zero, List.set_cons_succ]
          refine wpAnyH_ready (rs := [6]) (by kernel_rfl) (by simp) ?_
          refine AllReadyH.cons (arr_at rfl) (fun K hK => ?_) AllReadyH.nil
          have e0 := kp.cell 0; have e1 := kp.cell 1; have e2 := kp.cell 2; have e3 := kp.cell 3; have e4 := kp.cell 4; have e5 := kp.cell 5; have f0 := kp.frozen 0; have f1 := kp.frozen 1; have f2 := kp.frozen 2; have f3 := kp.frozen 3; have f4 := kp.frozen 4; have f5 := kp.frozen 5; have hlp := kp.lt; simp only [List.getElem?_toArray, List.getElem?_cons_zero, List.getElem?_cons_succ] at e0 e1 e2 e3 e4 e5; go_simp; clear e0 e1 e2 e3 e4 e5 f0 f1 f2 f3 f4 f5 hlp; obtain ⟨W, e, z, hf, hb, hr⟩ := put6 kp (.int .i64 0) (.int .i64 p.fa) (.int .i64 p.fp) (.int .i64 p.ta) (.int .i64 p.tp) (.slice D' 0 0); rw [e]; clear e; replace k0 := hf k0 (by omega); replace k1 := hf k1 (by omega); replace k2 := hf k2 (by omega); replace k3 := hf k3 (by omega); replace kg := hf kg (Ne.symm hne); replace B := hb B (by omega); replace hTab := (hr (base := 0)).2 hTab (fun a ha hx => by have := hNear a ha hx; omega); replace kp := z; clear z hf hb hr
          refine hK.out _ _ ?_ (fun hHeld => ?_)
          · (try dsimp only); exact ⟨k0.cell 0, k0.cell 1, k0.cell 2, k0.cell 3, k0.cell 4, k0.cell 5, k0.cell 6, k0.cell 7, k1.cell 0, k1.cell 1, k1.cell 2, k1.cell 3, k1.cell 4, k1.cell 5⟩
          clear hK K
          try simp only [Act.put, List.setIfInBounds_toArray, List.set_cons_zero, List.set_cons_succ]
          refine wpAnyH_ready (rs := [7]) (by kernel_rfl) (by simp) ?_
          refine AllReadyH.cons (arr_at rfl) (fun K hK => ?_) AllReadyH.nil
          have e0 := kg.cell 0; have e1 := kg.cell 1; have e2 := kg.cell 2; have e3 := kg.cell 3; have e4 := kg.cell 4; have e5 := kg.cell 5; have e6 := kg.cell 6; have e7 := kg.cell 7; have f0 := kg.frozen 0; have f1 := kg.frozen 1; have f2 := kg.frozen 2; have f3 := kg.frozen 3; have f4 := kg.frozen 4; have f5 := kg.frozen 5; have f6 := kg.frozen 6; have f7 := kg.frozen 7; have hlp := kg.lt; simp only [List.getElem?_toArray, List.getElem?_cons_zero, List.getElem?_cons_succ] at e0 e1 e2 e3 e4 e5 e6 e7; go_simp; clear e0 e1 e2 e3 e4 e5 e6 e7 f0 f1 f2 f3 f4 f5 f6 f7 hlp; obtain ⟨W2, e, z, hf, hb, hr⟩ := put8 kg (.int .i64 g.ba) (.int .i64 g.bi) (.int .i64 g.ou) (.slice T n n) (.slice T2 m m) (.int .i64 g.fi) (.int .i64 g.ho) (.int .i64 g.no); rw [e]; clear e; replace k0 := hf k0 (by omega); replace k1 := hf k1 (by omega); replace k2 := hf k2 (by omega); replace k3 := hf k3 (by omega); replace kp := hf kp hne; replace B := hb B (by omega); replace hTab := (hr (base := 0)).2 hTab (fun a ha hx => by have := hNear a ha hx; omega); replace kg := z; clear z hf hb hr
          refine hK.out _ _ ?_ (fun hHeld => ?_)
          · (try dsimp only); exact ⟨k0.cell 0, k0.cell 1, k0.cell 2, k0.cell 3, k0.cell 4, k0.cell 5, k0.cell 6, k0.cell 7, k1.cell 0, k1.cell 1, k1.cell 2, k1.cell 3, k1.cell 4, k1.cell 5⟩
          clear hK K
          try simp only [Act.put, List.setIfInBounds_toArray, List.set_cons_zero, List.set_cons_succ]
          refine wpAnyH_done (by kernel_rfl) ?_ _
          go_wp2_with fail
          go_meet
          exact ⟨b10, b11, D', T, T2, rfl, rfl, k0, k1, k2, k3, kp, kg, hTab, B, h10, h11, hne⟩
      · go_simp
        obtain ⟨wg, b11, ex, eb, hq, kgn⟩ := allocB B #[.int .i64 0, .int .i64 0, .int .i64 0, .slice none 0 0, .slice none 0 0, .int .i64 0, .int .i64 0, .int .i64 0] 44; rw [ex, eb]; have h11 := hsz; rw [eb] at h11; clear ex eb; replace k0 := k0.to hq; replace k1 := k1.to hq; replace k2 := k2.to hq; replace k3 := k3.to hq; replace B := Bl.then B hq; replace hTab := Rd.to hTab hq; replace hsz := Nat.le_trans hsz hq.size; (first | (replace kp := Blk.to kp hq) | skip); (first | (replace kg := Blk.to kg hq) | skip); clear hq; have kg := kgn; clear kgn
        refine hK.out _ _ ?_ (fun hHeld => ?_)
        · (try dsimp only); exact ⟨k0.cell 0, k0.cell 1, k0.cell 2, k0.cell 3, k0.cell 4, k0.cell 5, k0.cell 6, k0.cell 7, k1.cell 0, k1.cell 1, k1.cell 2, k1.cell 3, k1.cell 4, k1.cell 5⟩
        clear hK K
        try simp only [Act.put, List.setIfInBounds_toArray, List.set_cons_zero, List.set_cons_succ]
        refine wpAnyH_ready (rs := [1, 4]) (by kernel_rfl) (by simp) ?_
        refine AllReadyH.cons (arr_at rfl) (fun K hK => ?_) (AllReadyH.cons (arr_at rfl) (fun K hK => ?_) AllReadyH.nil)
        · go_simp
          go_at_call 105; refine (c_PcopyOf p D dc _).mono ?_; rintro e wA ⟨D', rfl, hq⟩; replace k0 := k0.to hq; replace k1 := k1.to hq; replace k2 := k2.to hq; replace k3 := k3.to hq; replace B := Bl.then B hq; replace hTab := Rd.to hTab hq; replace hsz := Nat.le_trans hsz hq.size; (first | (replace kp := Blk.to kp hq) | skip); (first | (replace kg := Blk.to kg hq) | skip); clear hq
          refine hK.out _ _ ?_ (fun hHeld => ?_)
          · (try dsimp only); exact ⟨k0.cell 0, k0.cell 1, k0.cell 2, k0.cell 3, k0.cell 4, k0.cell 5, k0.cell 6, k0.cell 7, k1.cell 0, k1.cell 1, k1.cell 2, k1.cell 3, k1.cell 4, k1.cell 5⟩
          clear hK K
          try simp only [Act.put, List.setIfInBounds_toArray, List.set_cons_zero, List.set_cons_succ]
          refine wpAnyH_ready (rs := [3, 4]) (by kernel_rfl) (by simp) ?_
          refine AllReadyH.cons (arr_at rfl) (fun K hK => ?_) (AllReadyH.cons (arr_at rfl) (fun K hK => ?_) AllReadyH.nil)
          · go_simp
            go_at_call 70; refine (c_GcopyOf g A n c C m d _ HN.out (HA.out _ B) HM.out (HC.out _ B) (by omega) (by omega)).mono ?_; rintro e wB ⟨T, T2, rfl, -, -, -, -, hq⟩; replace k0 := k0.to hq; replace k1 := k1.to hq; replace k2 := k2.to hq; replace k3 := k3.to hq; replace B := Bl.then B hq; replace hTab := Rd.to hTab hq; replace hsz := Nat.le_trans hsz hq.size; (first | (replace kp := Blk.to kp hq) | skip); (first | (replace kg := Blk.to kg hq) | skip); clear hq
            refine hK.out _ _ ?_ (fun hHeld => ?_)
            · (try dsimp only); exact ⟨k0.cell 0, k0.cell 1, k0.cell 2, k0.cell 3, k0.cell 4, k0.cell 5, k0.cell 6, k0.cell 7, k1.cell 0, k1.cell 1, k1.cell 2, k1.cell 3, k1.cell 4, k1.cell 5⟩
            clear hK K
            try simp only [Act.put, List.setIfInBounds_toArray, List.set_cons_zero, List.set_cons_succ]
            refine wpAnyH_ready (rs := [4]) (by kernel_rfl) (by simp) ?_
            refine AllReadyH.cons (arr_at rfl) (fun K hK => ?_) AllReadyH.nil
            go_simp
            obtain ⟨wp, b10, ex, eb, hq, kpn⟩ := allocB B #[.int .i64 0, .int .i64 0, .int .i64 0, .int .i64 0, .int .i64 0, .slice none 0 0] 74; rw [ex, eb]; have h10 := hsz; rw [eb] at h10; have hne := kg.lt; rw [eb] at hne; replace hne : b10 ≠ b11 := (by omega); clear ex eb; replace k0 := k0.to hq; replace k1 := k1.to hq; replace k2 := k2.to hq; replace k3 := k3.to hq; replace B := Bl.then B hq; replace hTab := Rd.to hTab hq; replace hsz := Nat.le_trans hsz hq.size; (first | (replace kp := Blk.to kp hq) | skip); (first | (replace kg := Blk.to kg hq) | skip); clear hq; have kp := kpn; clear kpn
            refine hK.out _ _ ?_ (fun hHeld => ?_)
            · (try dsimp only); exact ⟨k0.cell 0, k0.cell 1, k0.cell 2, k0.cell 3, k0.cell 4, k0.cell 5, k0.cell 6, k0.cell 7, k1.cell 0, k1.cell 1, k1.cell 2, k1.cell 3, k1.cell 4, k1.cell 5⟩
            clear hK K
            try simp only [Act.put, List.setIfInBounds_toArray, List.set_cons_zero, List.set_cons_succ]
            refine wpAnyH_ready (rs := [6]) (by kernel_rfl) (by simp) ?_
            refine AllReadyH.cons (arr_at rfl) (fun K hK => ?_) AllReadyH.nil
            have e0 := kp.cell 0; have e1 := kp.cell 1; have e2 := kp.cell 2; have e3 := kp.cell 3; have e4 := kp.cell 4; have e5 := kp.cell 5; have f0 := kp.frozen 0; have f1 := kp.frozen 1; have f2 := kp.frozen 2; have f3 := kp.frozen 3; have f4 := kp.frozen 4; have f5 := kp.frozen 5; have hlp := kp.lt; simp only [List.getElem?_toArray, List.getElem?_cons_zero, List.getElem?_cons_succ] at e0 e1 e2 e3 e4 e5; go_simp; clear e0 e1 e2 e3 e4 e5 f0 f1 f2 f3 f4 f5 hlp; obtain ⟨W, e, z, hf, hb, hr⟩ := put6 kp (.int .i64 0) (.int .i64 p.fa) (.int .i64 p.fp) (.int .i64 p.ta) (.int .i64 p.tp) (.slice D' 0 0); rw [e]; clear e; replace k0 := hf k0 (by omega); replace k1 := hf k1 (by omega); replace k2 := hf k2 (by omega); replace k3 := hf k3 (by omega); replace kg := hf kg (Ne.symm hne); replace B := hb B (by omega); replace hTab := (hr (base := 0)).2 hTab (fun a ha hx => by have := hNear a ha hx; omega); replace kp := z; clear z hf hb hr
            refine hK.out _ _ ?_ (fun hHeld => ?_)
            · (try dsimp only); exact ⟨k0.cell 0, k0.cell 1, k0.cell 2, k0.cell 3, k0.cell 4, k0.cell 5, k0.cell 6, k0.cell 7, k1.cell 0, k1.cell 1, k1.cell 2, k1.cell 3, k1.cell 4, k1.cell 5⟩
            clear hK K
            try simp only [Act.put, List.setIfInBounds_toArray, List.set_cons_zero, List.set_cons_succ]
            refine wpAnyH_ready (rs := [7]) (by kernel_rfl) (by simp) ?_
            refine AllReadyH.cons (arr_at rfl) (fun K hK => ?_) AllReadyH.nil
            have e0 := kg.cell 0; have e1 := kg.cell 1; have e2 := kg.cell 2; have e3 := kg.cell 3; have e4 := kg.cell 4; have e5 := kg.cell 5; have e6 := kg.cell 6; have e7 := kg.cell 7; have f0 := kg.frozen 0; have f1 := kg.frozen 1; have f2 := kg.frozen 2; have f3 := kg.frozen 3; have f4 := kg.frozen 4; have f5 := kg.frozen 5; have f6 := kg.frozen 6; have f7 := kg.frozen 7; have hlp := kg.lt; simp only [List.getElem?_toArray, List.getElem?_cons_zero, List.getElem?_cons_succ] at e0 e1 e2 e3 e4 e5 e6 e7; go_simp; clear e0 e1 e2 e3 e4 e5 e6 e7 f0 f1 f2 f3 f4 f5 f6 f7 hlp; obtain ⟨W2, e, z, hf, hb, hr⟩ := put8 kg (.int .i64 g.ba) (.int .i64 g.bi) (.int .i64 g.ou) (.slice T n n) (.slice T2 m m) (.int .i64 g.fi) (.int .i64 g.ho) (.int .i64 g.no); rw [e]; clear e; replace k0 := hf k0 (by omega); replace k1 := hf k1 (by omega); replace k2 := hf k2 (by omega); replace k3 := hf k3 (by omega); replace kp := hf kp hne; replace B := hb B (by omega); replace hTab := (hr (base := 0)).2 hTab (fun a ha hx => by have := hNear a ha hx; omega); replace kg := z; clear z hf hb hr
            refine hK.out _ _ ?_ (fun hHeld => ?_)
            · (try dsimp only); exact ⟨k0.cell 0, k0.cell 1, k0.cell 2, k0.cell 3, k0.cell 4, k0.cell 5, k0.cell 6, k0.cell 7, k1.cell 0, k1.cell 1, k1.cell 2, k1.cell 3, k1.cell 4, k1.cell 5⟩
            clear hK K
            try simp only [Act.put, List.setIfInBounds_toArray, List.set_cons_zero, List.set_cons_succ]
            refine wpAnyH_done (by kernel_rfl) ?_ _
            go_wp2_with fail
            go_meet
            exact ⟨b10, b11, D', T, T2, rfl, rfl, k0, k1, k2, k3, kp, kg, hTab, B, h10, h11, hne⟩
          · go_simp
            obtain ⟨wp, b10, ex, eb, hq, kpn⟩ := allocB B #[.int .i64 0, .int .i64 0, .int .i64 0, .int .i64 0, .int .i64 0, .slice none 0 0] 74; rw [ex, eb]; have h10 := hsz; rw [eb] at h10; have hne := kg.lt; rw [eb] at hne; replace hne : b10 ≠ b11 := (by omega); clear ex eb; replace k0 := k0.to hq; replace k1 := k1.to hq; replace k2 := k2.to hq; replace k3 := k3.to hq; replace B := Bl.then B hq; replace hTab := Rd.to hTab hq; replace hsz := Nat.le_trans hsz hq.size; (first | (replace kp := Blk.to kp hq) | skip); (first | (replace kg := Blk.to kg hq) | skip); clear hq; have kp := kpn; clear kpn
            refine hK.out _ _ ?_ (fun hHeld => ?_)
            · (try dsimp only); exact ⟨k0.cell 0, k0.cell 1, k0.cell 2, k0.cell 3, k0.cell 4, k0.cell 5, k0.cell 6, k0.cell 7, k1.cell 0, k1.cell 1, k1.cell 2, k1.cell 3, k1.cell 4, k1.cell 5⟩
            clear hK K
            try simp only [Act.put, List.setIfInBounds_toArray, List.set_cons_zero, List.set_cons_succ]
            refine wpAnyH_ready (rs := [3]) (by kernel_rfl) (by simp) ?_
            refine AllReadyH.cons (arr_at rfl) (fun K hK => ?_) AllReadyH.nil
            go_simp
            go_at_call 70; refine (c_GcopyOf g A n c C m d _ HN.out (HA.out _ B) HM.out (HC.out _ B) (by omega) (by omega)).mono ?_; rintro e wB ⟨T, T2, rfl, -, -, -, -, hq⟩; replace k0 := k0.to hq; replace k1 := k1.to hq; replace k2 := k2.to hq; replace k3 := k3.to hq; replace B := Bl.then B hq; replace hTab := Rd.to hTab hq; replace hsz := Nat.le_trans hsz hq.size; (first | (replace kp := Blk.to kp hq) | skip); (first | (replace kg := Blk.to kg hq) | skip); clear hq
            refine hK.out _ _ ?_ (fun hHeld => ?_)
            · (try dsimp only); exact ⟨k0.cell 0, k0.cell 1, k0.cell 2, k0.cell 3, k0.cell 4, k0.cell 5, k0.cell 6, k0.cell 7, k1.cell 0, k1.cell 1, k1.cell 2, k1.cell 3, k1.cell 4, k1.cell 5⟩
            clear hK K
            try simp only [Act.put, List.setIfInBounds_toArray, List.set_cons_zero, List.set_cons_succ]
            refine wpAnyH_ready (rs := [6]) (by kernel_rfl) (by simp) ?_
            refine AllReadyH.cons (arr_at rfl) (fun K hK => ?_) AllReadyH.nil
            have e0 := kp.cell 0; have e1 := kp.cell 1; have e2 := kp.cell 2; have e3 := kp.cell 3; have e4 := kp.cell 4; have e5 := kp.cell 5; have f0 := kp.frozen 0; have f1 := kp.frozen 1; have f2 := kp.frozen 2; have f3 := kp.frozen 3; have f4 := kp.frozen 4; have f5 := kp.frozen 5; have hlp := kp.lt; simp only [List.getElem?_toArray, List.getElem?_cons_zero, List.getElem?_cons_succ] at e0 e1 e2 e3 e4 e5; go_simp; clear e0 e1 e2 e3 e4 e5 f0 f1 f2 f3 f4 f5 hlp; obtain ⟨W, e, z, hf, hb, hr⟩ := put6 kp (.int .i64 0) (.int .i64 p.fa) (.int .i64 p.fp) (.int .i64 p.ta) (.int .i64 p.tp) (.slice D' 0 0); rw [e]; clear e; replace k0 := hf k0 (by omega); replace k1 := hf k1 (by omega); replace k2 := hf k2 (by omega); replace k3 := hf k3 (by omega); replace kg := hf kg (Ne.symm hne); replace B := hb B (by omega); replace hTab := (hr (base := 0)).2 hTab (fun a ha hx => by have := hNear a ha hx; omega); replace kp := z; clear z hf hb hr
            refine hK.out _ _ ?_ (fun hHeld => ?_)
            · (try dsimp only); exact ⟨k0.cell 0, k0.cell 1, k0.cell 2, k0.cell 3, k0.cell 4, k0.cell 5, k0.cell 6, k0.cell 7, k1.cell 0, k1.cell 1, k1.cell 2, k1.cell 3, k1.cell 4, k1.cell 5⟩
            clear hK K
            try simp only [Act.put, List.setIfInBounds_toArray, List.set_cons_zero, List.set_cons_succ]
            refine wpAnyH_ready (rs := [7]) (by kernel_rfl) (by simp) ?_
            refine AllReadyH.cons (arr_at rfl) (fun K hK => ?_) AllReadyH.nil
            have e0 := kg.cell 0; have e1 := kg.cell 1; have e2 := kg.cell 2; have e3 := kg.cell 3; have e4 := kg.cell 4; have e5 := kg.cell 5; have e6 := kg.cell 6; have e7 := kg.cell 7; have f0 := kg.frozen 0; have f1 := kg.frozen 1; have f2 := kg.frozen 2; have f3 := kg.frozen 3; have f4 := kg.frozen 4; have f5 := kg.frozen 5; have f6 := kg.frozen 6; have f7 := kg.frozen 7; have hlp := kg.lt; simp only [List.getElem?_toArray, List.getElem?_cons_zero, List.getElem?_cons_succ] at e0 e1 e2 e3 e4 e5 e6 e7; go_simp; clear e0 e1 e2 e3 e4 e5 e6 e7 f0 f1 f2 f3 f4 f5 f6 f7 hlp; obtain ⟨W2, e, z, hf, hb, hr⟩ := put8 kg (.int .i64 g.ba) (.int .i64 g.bi) (.int .i64 g.ou) (.slice T n n) (.slice T2 m m) (.int .i64 g.fi) (.int .i64 g.ho) (.int .i64 g.no); rw [e]; clear e; replace k0 := hf k0 (by omega); replace k1 := hf k1 (by omega); replace k2 := hf k2 (by omega); replace k3 := hf k3 (by omega); replace kp := hf kp hne; replace B := hb B (by omega); replace hTab := (hr (base := 0)).2 hTab (fun a ha hx => by have := hNear a ha hx; omega); replace kg := z; clear z hf hb hr
            refine hK.out _ _ ?_ (fun hHeld => ?_)
            · (try dsimp only); exact ⟨k0.cell 0, k0.cell 1, k0.cell 2, k0.cell 3, k0.cell 4, k0.cell 5, k0.cell 6, k0.cell 7, k1.cell 0, k1.cell 1, k1.cell 2, k1.cell 3, k1.cell 4, k1.cell 5⟩
            clear hK K
            try simp only [Act.put, List.setIfInBounds_toArray, List.set_cons_zero, List.set_cons_succ]
            refine wpAnyH_done (by kernel_rfl) ?_ _
            go_wp2_with fail
            go_meet
            exact ⟨b10, b11, D', T, T2, rfl, rfl, k0, k1, k2, k3, kp, kg, hTab, B, h10, h11, hne⟩
        · go_simp
          obtain ⟨wp, b10, ex, eb, hq, kpn⟩ := allocB B #[.int .i64 0, .int .i64 0, .int .i64 0, .int .i64 0, .int .i64 0, .slice none 0 0] 74; rw [ex, eb]; have h10 := hsz; rw [eb] at h10; have hne := kg.lt; rw [eb] at hne; replace hne : b10 ≠ b11 := (by omega); clear ex eb; replace k0 := k0.to hq; replace k1 := k1.to hq; replace k2 := k2.to hq; replace k3 := k3.to hq; replace B := Bl.then B hq; replace hTab := Rd.to hTab hq; replace hsz := Nat.le_trans hsz hq.size; (first | (replace kp := Blk.to kp hq) | skip); (first | (replace kg := Blk.to kg hq) | skip); clear hq; have kp := kpn; clear kpn
          refine hK.out _ _ ?_ (fun hHeld => ?_)
          · (try dsimp only); exact ⟨k0.cell 0, k0.cell 1, k0.cell 2, k0.cell 3, k0.cell 4, k0.cell 5, k0.cell 6, k0.cell 7, k1.cell 0, k1.cell 1, k1.cell 2, k1.cell 3, k1.cell 4, k1.cell 5⟩
          clear hK K
          try simp only [Act.put, List.setIfInBounds_toArray, List.set_cons_zero, List.set_cons_succ]
          refine wpAnyH_ready (rs := [1]) (by kernel_rfl) (by simp) ?_
          refine AllReadyH.cons (arr_at rfl) (fun K hK => ?_) AllReadyH.nil
          go_simp
          go_at_call 105; refine (c_PcopyOf p D dc _).mono ?_; rintro e wA ⟨D', rfl, hq⟩; replace k0 := k0.to hq; replace k1 := k1.to hq; replace k2 := k2.to hq; replace k3 := k3.to hq; replace B := Bl.then B hq; replace hTab := Rd.to hTab hq; replace hsz := Nat.le_trans hsz hq.size; (first | (replace kp := Blk.to kp hq) | skip); (first | (replace kg := Blk.to kg hq) | skip); clear hq
          refine hK.out _ _ ?_ (fun hHeld => ?_)
          · (try dsimp only); exact ⟨k0.cell 0, k0.cell 1, k0.cell 2, k0.cell 3, k0.cell 4, k0.cell 5, k0.cell 6, k0.cell 7, k1.cell 0, k1.cell 1, k1.cell 2, k1.cell 3, k1.cell 4, k1.cell 5⟩
          clear hK K
          try simp only [Act.put, List.setIfInBounds_toArray, List.set_cons_zero, List.set_cons_succ]
          refine wpAnyH_ready (rs := [3]) (by kernel_rfl) (by simp) ?_
          refine AllReadyH.cons (arr_at rfl) (fun K hK => ?_) AllReadyH.nil
          go_simp
          go_at_call 70; refine (c_GcopyOf g A n c C m d _ HN.out (HA.out _ B) HM.out (HC.out _ B) (by omega) (by omega)).mono ?_; rintro e wB ⟨T, T2, rfl, -, -, -, -, hq⟩; replace k0 := k0.to hq; replace k1 := k1.to hq; replace k2 := k2.to hq; replace k3 := k3.to hq; replace B := Bl.then B hq; replace hTab := Rd.to hTab hq; replace hsz := Nat.le_trans hsz hq.size; (first | (replace kp := Blk.to kp hq) | skip); (first | (replace kg := Blk.to kg hq) | skip); clear hq
          refine hK.out _ _ ?_ (fun hHeld => ?_)
          · (try dsimp only); exact ⟨k0.cell 0, k0.cell 1, k0.cell 2, k0.cell 3, k0.cell 4, k0.cell 5, k0.cell 6, k0.cell 7, k1.cell 0, k1.cell 1, k1.cell 2, k1.cell 3, k1.cell 4, k1.cell 5⟩
          clear hK K
          try simp only [Act.put, List.setIfInBounds_toArray, List.set_cons_zero, List.set_cons_succ]
          refine wpAnyH_ready (rs := [6]) (by kernel_rfl) (by simp) ?_
          refine AllReadyH.cons (arr_at rfl) (fun K hK => ?_) AllReadyH.nil
          have e0 := kp.cell 0; have e1 := kp.cell 1; have e2 := kp.cell 2; have e3 := kp.cell 3; have e4 := kp.cell 4; have e5 := kp.cell 5; have f0 := kp.frozen 0; have f1 := kp.frozen 1; have f2 := kp.frozen 2; have f3 := kp.frozen 3; have f4 := kp.frozen 4; have f5 := kp.frozen 5; have hlp := kp.lt; simp only [List.getElem?_toArray, List.getElem?_cons_zero, List.getElem?_cons_succ] at e0 e1 e2 e3 e4 e5; go_simp; clear e0 e1 e2 e3 e4 e5 f0 f1 f2 f3 f4 f5 hlp; obtain ⟨W, e, z, hf, hb, hr⟩ := put6 kp (.int .i64 0) (.int .i64 p.fa) (.int .i64 p.fp) (.int .i64 p.ta) (.int .i64 p.tp) (.slice D' 0 0); rw [e]; clear e; replace k0 := hf k0 (by omega); replace k1 := hf k1 (by omega); replace k2 := hf k2 (by omega); replace k3 := hf k3 (by omega); replace kg := hf kg (Ne.symm hne); replace B := hb B (by omega); replace hTab := (hr (base := 0)).2 hTab (fun a ha hx => by have := hNear a ha hx; omega); replace kp := z; clear z hf hb hr
          refine hK.out _ _ ?_ (fun hHeld => ?_)
          · (try dsimp only); exact ⟨k0.cell 0, k0.cell 1, k0.cell 2, k0.cell 3, k0.cell 4, k0.cell 5, k0.cell 6, k0.cell 7, k1.cell 0, k1.cell 1, k1.cell 2, k1.cell 3, k1.cell 4, k1.cell 5⟩
          clear hK K
          try simp only [Act.put, List.setIfInBounds_toArray, List.set_cons_zero, List.set_cons_succ]
          refine wpAnyH_ready (rs := [7]) (by kernel_rfl) (by simp) ?_
          refine AllReadyH.cons (arr_at rfl) (fun K hK => ?_) AllReadyH.nil
          have e0 := kg.cell 0; have e1 := kg.cell 1; have e2 := kg.cell 2; have e3 := kg.cell 3; have e4 := kg.cell 4; have e5 := kg.cell 5; have e6 := kg.cell 6; have e7 := kg.cell 7; have f0 := kg.frozen 0; have f1 := kg.frozen 1; have f2 := kg.frozen 2; have f3 := kg.frozen 3; have f4 := kg.frozen 4; have f5 := kg.frozen 5; have f6 := kg.frozen 6; have f7 := kg.frozen 7; have hlp := kg.lt; simp only [List.getElem?_toArray, List.getElem?_cons_zero, List.getElem?_cons_succ] at e0 e1 e2 e3 e4 e5 e6 e7; go_simp; clear e0 e1 e2 e3 e4 e5 e6 e7 f0 f1 f2 f3 f4 f5 f6 f7 hlp; obtain ⟨W2, e, z, hf, hb, hr⟩ := put8 kg (.int .i64 g.ba) (.int .i64 g.bi) (.int .i64 g.ou) (.slice T n n) (.slice T2 m m) (.int .i64 g.fi) (.int .i64 g.ho) (.int .i64 g.no); rw [e]; clear e; replace k0 := hf k0 (by omega); replace k1 := hf k1 (by omega); replace k2 := hf k2 (by omega); replace k3 := hf k3 (by omega); replace kp := hf kp hne; replace B := hb B (by omega); replace hTab := (hr (base := 0)).2 hTab (fun a ha hx => by have := hNear a ha hx; omega); replace kg := z; clear z hf hb hr
          refine hK.out _ _ ?_ (fun hHeld => ?_)
          · (try dsimp only); exact ⟨k0.cell 0, k0.cell 1, k0.cell 2, k0.cell 3, k0.cell 4, k0.cell 5, k0.cell 6, k0.cell 7, k1.cell 0, k1.cell 1, k1.cell 2, k1.cell 3, k1.cell 4, k1.cell 5⟩
          clear hK K
          try simp only [Act.put, List.setIfInBounds_toArray, List.set_cons_zero, List.set_cons_succ]
          refine wpAnyH_done (by kernel_rfl) ?_ _
          go_wp2_with fail
          go_meet
          exact ⟨b10, b11, D', T, T2, rfl, rfl, k0, k1, k2, k3, kp, kg, hTab, B, h10, h11, hne⟩
    case rest =>
      clear k0 k1 k2 k3 B hTab
      obtain ⟨b10, b11, D', T, T2, rfl, rfl, HH⟩ := hcut
      obtain ⟨k0, k1, k2, k3, kp, kg, hTab, B, h10, h11, hne⟩ := HH.out
      clear HH
      have hKK := Lib.hid (And.intro (And.intro k2 k3) kp)
      have y0 := k0.cell 0; have y1 := k0.cell 1; have y2 := k0.cell 2; have y3 := k0.cell 3; have y4 := k0.cell 4; have y5 := k0.cell 5; have y6 := k0.cell 6; have y7 := k0.cell 7; have l0 := k0.lt; simp only [List.getElem?_toArray, List.getElem?_cons_zero, List.getElem?_cons_succ] at y0 y1 y2 y3 y4 y5 y6 y7
      have p0 := k1.cell 0; have p1 := k1.cell 1; have p2 := k1.cell 2; have p3 := k1.cell 3; have p4 := k1.cell 4; have p5 := k1.cell 5; have l1 := k1.lt; simp only [List.getElem?_toArray, List.getElem?_cons_zero, List.getElem?_cons_succ] at p0 p1 p2 p3 p4 p5
      have e3 := kg.cell 3
      have e4 := kg.cell 4
      have f3 := kg.frozen 3
      have f4 := kg.frozen 4
      have hlg := kg.lt
      simp only [List.getElem?_toArray, List.getElem?_cons_zero, List.getElem?_cons_succ] at e3 e4
      go_upto_region 6 with fail
      have kg' : Blk (wc.setCell ⟨b11, 3, none⟩ (.slice A' mm mm)) b11 44 #[.int .i64 g.ba, .int .i64 g.bi, .int .i64 g.ou, .slice A' mm mm, .slice T2 m m, .int .i64 g.fi, .int .i64 g.ho, .int .i64 g.no] := (kg.set_ 3 _)
      have k0' := (k0.far (p := ⟨b11, 3, none⟩) (by show _ ≠ b11; omega) (.slice A' mm mm))
      have k1' := (k1.far (p := ⟨b11, 3, none⟩) (by show _ ≠ b11; omega) (.slice A' mm mm))
      have k2' := (k2.far (p := ⟨b11, 3, none⟩) (by show _ ≠ b11; omega) (.slice A' mm mm))
      have k3' := (k3.far (p := ⟨b11, 3, none⟩) (by show _ ≠ b11; omega) (.slice A' mm mm))
      have kp' := (kp.far (p := ⟨b11, 3, none⟩) (by show _ ≠ b11; exact hne) (.slice A' mm mm))
      have B' := (B.setCell (p := ⟨b11, 3, none⟩) (by show _ ≤ b11; omega) (.slice A' mm mm))
      have hTab' := (Rd.apart hTab (p := ⟨b11, 3, none⟩) (fun a ha hx => by have := hNear a ha hx; show _ ≠ b11; omega) (.slice A' mm mm))
      generalize hwX : (wc.setCell ⟨b11, 3, none⟩ (.slice A' mm mm)) = wa at kg' k0' k1' k2' k3' kp' B' hTab' ⊢
      clear hwX kg k0 k1 k2 k3 kp B hTab
      have kg := kg'
      have k0 := k0'
      have k1 := k1'
      have k2 := k2'
      have k3 := k3'
      have kp := kp'
      have B := B'
      have hTab := hTab'
      clear kg' k0' k1' k2' k3' kp' B' hTab'
      clear e3 e4 f3 f4 hlg
      clear y0 y1 y2 y3 y4 y5 y6 y7 l0
      clear p0 p1 p2 p3 p4 p5 l1
      have y0 := k0.cell 0; have y1 := k0.cell 1; have y2 := k0.cell 2; have y3 := k0.cell 3; have y4 := k0.cell 4; have y5 := k0.cell 5; have y6 := k0.cell 6; have y7 := k0.cell 7; have l0 := k0.lt; simp only [List.getElem?_toArray, List.getElem?_cons_zero, List.getElem?_cons_succ] at y0 y1 y2 y3 y4 y5 y6 y7
      have p0 := k1.cell 0; have p1 := k1.cell 1; have p2 := k1.cell 2; have p3 := k1.cell 3; have p4 := k1.cell 4; have p5 := k1.cell 5; have l1 := k1.lt; simp only [List.getElem?_toArray, List.getElem?_cons_zero, List.getElem?_cons_succ] at p0 p1 p2 p3 p4 p5
      go_wp2_with fail
      refine (c_NoteContact C m d g.cs ⟨port, p.ta, p.tp⟩ _ HM.out hd (HC.out _ B) (gate_con HV.out) HOK.out).mono ?_
      rintro e w5 ⟨A2, k, rfl, hlk, hFc, hCon, hq⟩
      have HLK := Lib.hid hlk
      have hlw := kg.lt
      have hlw2 := kp.lt
      clear hlk
      clear y0 y1 y2 y3 y4 y5 y6 y7 l0
      clear p0 p1 p2 p3 p4 p5 l1
      replace kp := kp.to hq
      replace kg := kg.to hq
      replace hTab := Rd.to hTab hq
      replace k0 := k0.to hq; replace k1 := k1.to hq; replace k2 := k2.to hq; replace k3 := k3.to hq; replace B := Bl.then B hq; clear hq
      have e4 := kg.cell 4
      have f4 := kg.frozen 4
      have hlg := kg.lt
      simp only [List.getElem?_toArray, List.getElem?_cons_zero, List.getElem?_cons_succ] at e4
      go_upto_region 7 with fail
      have kg' : Blk (w5.setCell ⟨b11, 4, none⟩ (.slice A2 k k)) b11 44 #[.int .i64 g.ba, .int .i64 g.bi, .int .i64 g.ou, .slice A' mm mm, .slice A2 k k, .int .i64 g.fi, .int .i64 g.ho, .int .i64 g.no] := (kg.set_ 4 _)
      have k0' := (k0.far (p := ⟨b11, 4, none⟩) (by show _ ≠ b11; omega) (.slice A2 k k))
      have k1' := (k1.far (p := ⟨b11, 4, none⟩) (by show _ ≠ b11; omega) (.slice A2 k k))
      have k2' := (k2.far (p := ⟨b11, 4, none⟩) (by show _ ≠ b11; omega) (.slice A2 k k))
      have k3' := (k3.far (p := ⟨b11, 4, none⟩) (by show _ ≠ b11; omega) (.slice A2 k k))
      have kp' := (kp.far (p := ⟨b11, 4, none⟩) (by show _ ≠ b11; exact hne) (.slice A2 k k))
      have B' := (B.setCell (p := ⟨b11, 4, none⟩) (by show _ ≤ b11; omega) (.slice A2 k k))
      have hTab' := (Rd.apart hTab (p := ⟨b11, 4, none⟩) (fun a ha hx => by have := hNear a ha hx; show _ ≠ b11; omega) (.slice A2 k k))
      have hCon' := (Rd.far hCon hFc (p := ⟨b11, 4, none⟩) (by show b11 < _; omega) (.slice A2 k k))
      generalize hwX : (w5.setCell ⟨b11, 4, none⟩ (.slice A2 k k)) = w6 at kg' k0' k1' k2' k3' kp' B' hTab' hCon' ⊢
      clear hwX kg k0 k1 k2 k3 kp B hTab hCon
      have kg := kg'
      have k0 := k0'
      have k1 := k1'
      have k2 := k2'
      have k3 := k3'
      have kp := kp'
      have B := B'
      have hTab := hTab'
      have hCon := hCon'
      clear kg' k0' k1' k2' k3' kp' B' hTab' hCon'
      clear e4 f4 hlg
      have y0 := k0.cell 0; have y1 := k0.cell 1; have y2 := k0.cell 2; have y3 := k0.cell 3; have y4 := k0.cell 4; have y5 := k0.cell 5; have y6 := k0.cell 6; have y7 := k0.cell 7; have l0 := k0.lt; simp only [List.getElem?_toArray, List.getElem?_cons_zero, List.getElem?_cons_succ] at y0 y1 y2 y3 y4 y5 y6 y7
      have e1 := kp.cell 1
      have e2 := kp.cell 2
      have f1 := kp.frozen 1
      have f2 := kp.frozen 2
      have hlg := kp.lt
      simp only [List.getElem?_toArray, List.getElem?_cons_zero, List.getElem?_cons_succ] at e1 e2
      go_upto_region 8 with fail
      have kp' : Blk ((w6.setCell ⟨b10, 1, none⟩ (.int .i64 g.ou)).setCell ⟨b10, 2, none⟩ (.int .i64 port)) b10 74 #[.int .i64 0, .int .i64 g.ou, .int .i64 port, .int .i64 p.ta, .int .i64 p.tp, .slice D' 0 0] := ((kp.set_ 1 _).set_ 2 _)
      have k0' := ((k0.far (p := ⟨b10, 1, none⟩) (by show _ ≠ b10; omega) (.int .i64 g.ou)).far (p := ⟨b10, 2, none⟩) (by show _ ≠ b10; omega) (.int .i64 port))
      have k1' := ((k1.far (p := ⟨b10, 1, none⟩) (by show _ ≠ b10; omega) (.int .i64 g.ou)).far (p := ⟨b10, 2, none⟩) (by show _ ≠ b10; omega) (.int .i64 port))
      have k2' := ((k2.far (p := ⟨b10, 1, none⟩) (by show _ ≠ b10; omega) (.int .i64 g.ou)).far (p := ⟨b10, 2, none⟩) (by show _ ≠ b10; omega) (.int .i64 port))
      have k3' := ((k3.far (p := ⟨b10, 1, none⟩) (by show _ ≠ b10; omega) (.int .i64 g.ou)).far (p := ⟨b10, 2, none⟩) (by show _ ≠ b10; omega) (.int .i64 port))
      have kg' := ((kg.far (p := ⟨b10, 1, none⟩) (by show _ ≠ b10; exact Ne.symm hne) (.int .i64 g.ou)).far (p := ⟨b10, 2, none⟩) (by show _ ≠ b10; exact Ne.symm hne) (.int .i64 port))
      have B' := ((B.setCell (p := ⟨b10, 1, none⟩) (by show _ ≤ b10; omega) (.int .i64 g.ou)).setCell (p := ⟨b10, 2, none⟩) (by show _ ≤ b10; omega) (.int .i64 port))
      have hTab' := (Rd.apart (Rd.apart hTab (p := ⟨b10, 1, none⟩) (fun a ha hx => by have := hNear a ha hx; show _ ≠ b10; omega) (.int .i64 g.ou)) (p := ⟨b10, 2, none⟩) (fun a ha hx => by have := hNear a ha hx; show _ ≠ b10; omega) (.int .i64 port))
      have hCon' := (Rd.far (Rd.far hCon hFc (p := ⟨b10, 1, none⟩) (by show b10 < _; omega) (.int .i64 g.ou)) hFc (p := ⟨b10, 2, none⟩) (by show b10 < _; omega) (.int .i64 port))
      generalize hwX : ((w6.setCell ⟨b10, 1, none⟩ (.int .i64 g.ou)).setCell ⟨b10, 2, none⟩ (.int .i64 port)) = w7 at kp' k0' k1' k2' k3' kg' B' hTab' hCon' ⊢
      clear hwX kp k0 k1 k2 k3 kg B hTab hCon
      have kp := kp'
      have k0 := k0'
      have k1 := k1'
      have k2 := k2'
      have k3 := k3'
      have kg := kg'
      have B := B'
      have hTab := hTab'
      have hCon := hCon'
      clear kp' k0' k1' k2' k3' kg' B' hTab' hCon'
      clear e1 e2 f1 f2 hlg
      clear y0 y1 y2 y3 y4 y5 y6 y7 l0
      have hq : Below w7.heap.size w7 w7.drew := Bl.of_drewN w7 1
      replace kp := kp.to hq
      replace kg := kg.to hq
      replace hTab := Rd.to hTab hq
      replace hCon := Rd.to hCon hq
      replace k0 := k0.to hq; replace k1 := k1.to hq; replace k2 := k2.to hq; replace k3 := k3.to hq; replace B := Bl.then B hq; clear hq
      go_wp2_with fail
      refine wp_region_held_drew (S := (fun w' => w'.cell? ⟨b10, 0, none⟩ = some (.int .i64 0) ∧ w'.cell? ⟨b10, 1, none⟩ = some (.int .i64 g.ou) ∧ w'.cell? ⟨b10, 2, none⟩ = some (.int .i64 port) ∧ w'.cell? ⟨b10, 3, none⟩ = some (.int .i64 p.ta) ∧ w'.cell? ⟨b10, 4, none⟩ = some (.int .i64 p.tp) ∧ w'.cell? ⟨b10, 5, none⟩ = some (.slice D' 0 0) ∧ w'.cell? ⟨b11, 0, none⟩ = some (.int .i64 g.ba) ∧ w'.cell? ⟨b11, 1, none⟩ = some (.int .i64 g.bi) ∧ w'.cell? ⟨b11, 2, none⟩ = some (.int .i64 g.ou) ∧ w'.cell? ⟨b11, 3, none⟩ = some (.slice A' mm mm) ∧ w'.cell? ⟨b11, 4, none⟩ = some (.slice A2 k k) ∧ w'.cell? ⟨b11, 5, none⟩ = some (.int .i64 g.fi) ∧ w'.cell? ⟨b11, 6, none⟩ = some (.int .i64 g.ho) ∧ w'.cell? ⟨b11, 7, none⟩ = some (.int .i64 g.no))) (by kernel_rfl) ?_ (fun hHeld => ?_)
      · (try dsimp only); exact ⟨kp.cell 0, kp.cell 1, kp.cell 2, kp.cell 3, kp.cell 4, kp.cell 5, kg.cell 0, kg.cell 1, kg.cell 2, kg.cell 3, kg.cell 4, kg.cell 5, kg.cell 6, kg.cell 7⟩
      generalize World.drew w7 = w8 at *
      refine wpAnyH_take (i := 0) (v := ?_) (arr_at rfl) (by kernel_rfl) (by kernel_rfl) (by kernel_rfl) (fun _ _ _ h => h) ?_ (by assumption) ?_
      rotate_left
      · first | (refine Or.inr ⟨by rfl, ?_⟩; with_reducible rfl) | (refine Or.inl ⟨by rfl, ?_⟩; intro w hSw; (try dsimp only at hSw); go_simp; first | done | with_reducible rfl)
      try simp only [Act.put, List.setIfInBounds_toArray, List.set_cons_zero, List.set_cons_succ]
      refine wpAnyH_take (i := 1) (v := ?_) (arr_at rfl) (by kernel_rfl) (by kernel_rfl) (by kernel_rfl) (fun _ _ _ h => h) ?_ (by assumption) ?_
      rotate_left
      · first | (refine Or.inr ⟨by rfl, ?_⟩; with_reducible rfl) | (refine Or.inl ⟨by rfl, ?_⟩; intro w hSw; (try dsimp only at hSw); go_simp; first | done | with_reducible rfl)
      try simp only [Act.put, List.setIfInBounds_toArray, List.set_cons_zero, List.set_cons_succ]
      refine wpAnyH_ready (rs := [2]) (by kernel_rfl) (by simp) ?_
      refine AllReadyH.cons (arr_at rfl) (fun K hK => ?_) AllReadyH.nil
      have q0 := k2.cell 0; have q1 := k2.cell 1; have q2 := k2.cell 2; have q3 := k2.cell 3; have q4 := k2.cell 4; have q5 := k2.cell 5; have l2 := k2.lt; simp only [List.getElem?_toArray, List.getElem?_cons_zero, List.getElem?_cons_succ] at q0 q1 q2 q3 q4 q5; have fq0 := k2.frozen 0; have fq1 := k2.frozen 1; have fq2 := k2.frozen 2; have fq3 := k2.frozen 3; have fq4 := k2.frozen 4; have fq5 := k2.frozen 5; go_simp; clear q0 q1 q2 q3 q4 q5 fq0 fq1 fq2 fq3 fq4 fq5 l2; obtain ⟨W3, e, z, hf, hb, hr⟩ := put6 k2 (.int .i64 0) (.int .i64 g.ou) (.int .i64 port) (.int .i64 p.ta) (.int .i64 p.tp) (.slice D' 0 0); rw [e]; clear e; replace k3 := hf k3 (by omega); replace kp := hf kp (by omega); replace kg := hf kg (by omega); replace B := hb B (by omega); replace hTab := hr.1 hTab hFr (by omega); replace hCon := hr.1 hCon hFc (by omega); replace k2 := z; clear z hf hb hr
      refine hK.out _ _ ?_ (fun hHeld => ?_)
      · (try dsimp only); exact ⟨kp.cell 0, kp.cell 1, kp.cell 2, kp.cell 3, kp.cell 4, kp.cell 5, kg.cell 0, kg.cell 1, kg.cell 2, kg.cell 3, kg.cell 4, kg.cell 5, kg.cell 6, kg.cell 7⟩
      clear hK K
      try simp only [Act.put, List.setIfInBounds_toArray, List.set_cons_zero, List.set_cons_succ]
      refine wpAnyH_ready (rs := [3]) (by kernel_rfl) (by simp) ?_
      refine AllReadyH.cons (arr_at rfl) (fun K hK => ?_) AllReadyH.nil
      have z0 := k3.cell 0; have z1 := k3.cell 1; have z2 := k3.cell 2; have z3 := k3.cell 3; have z4 := k3.cell 4; have z5 := k3.cell 5; have z6 := k3.cell 6; have z7 := k3.cell 7; have l3 := k3.lt; simp only [List.getElem?_toArray, List.getElem?_cons_zero, List.getElem?_cons_succ] at z0 z1 z2 z3 z4 z5 z6 z7; have fz0 := k3.frozen 0; have fz1 := k3.frozen 1; have fz2 := k3.frozen 2; have fz3 := k3.frozen 3; have fz4 := k3.frozen 4; have fz5 := k3.frozen 5; have fz6 := k3.frozen 6; have fz7 := k3.frozen 7; go_simp; clear z0 z1 z2 z3 z4 z5 z6 z7 fz0 fz1 fz2 fz3 fz4 fz5 fz6 fz7 l3; obtain ⟨W4, e, z, hf, hb, hr⟩ := put8 k3 (.int .i64 g.ba) (.int .i64 g.bi) (.int .i64 g.ou) (.slice A' mm mm) (.slice A2 k k) (.int .i64 g.fi) (.int .i64 g.ho) (.int .i64 g.no); rw [e]; clear e; replace k2 := hf k2 (by omega); replace kp := hf kp (by omega); replace kg := hf kg (by omega); replace B := hb B (by omega); replace hTab := hr.1 hTab hFr (by omega); replace hCon := hr.1 hCon hFc (by omega); replace k3 := z; clear z hf hb hr
      refine hK.out _ _ ?_ (fun hHeld => ?_)
      · (try dsimp only); exact ⟨kp.cell 0, kp.cell 1, kp.cell 2, kp.cell 3, kp.cell 4, kp.cell 5, kg.cell 0, kg.cell 1, kg.cell 2, kg.cell 3, kg.cell 4, kg.cell 5, kg.cell 6, kg.cell 7⟩
      clear hK K
      try simp only [Act.put, List.setIfInBounds_toArray, List.set_cons_zero, List.set_cons_succ]
      refine wpAnyH_take (i := 4) (v := ?_) (arr_at rfl) (by kernel_rfl) (by kernel_rfl) (by kernel_rfl) (fun _ _ _ h => h) ?_ (by assumption) ?_
      rotate_left
      · first | (refine Or.inr ⟨by rfl, ?_⟩; with_reducible rfl) | (refine Or.inl ⟨by rfl, ?_⟩; intro w hSw; (try dsimp only at hSw); go_simp; first | done | with_reducible rfl)
      try simp only [Act.put, List.setIfInBounds_toArray, List.set_cons_zero, List.set_cons_succ]
      refine wpAnyH_done (by kernel_rfl) ?_ _
      go_wp2
      have q0 := k2.cell 0; have q1 := k2.cell 1; have q2 := k2.cell 2; have q3 := k2.cell 3; have q4 := k2.cell 4; have q5 := k2.cell 5; have l2 := k2.lt; simp only [List.getElem?_toArray, List.getElem?_cons_zero, List.getElem?_cons_succ] at q0 q1 q2 q3 q4 q5
      have z0 := k3.cell 0; have z1 := k3.cell 1; have z2 := k3.cell 2; have z3 := k3.cell 3; have z4 := k3.cell 4; have z5 := k3.cell 5; have z6 := k3.cell 6; have z7 := k3.cell 7; have l3 := k3.lt; simp only [List.getElem?_toArray, List.getElem?_cons_zero, List.getElem?_cons_succ] at z0 z1 z2 z3 z4 z5 z6 z7
      refine bodyPost_ret (v := .tuple #[.agg #[.int .i64 0, .int .i64 g.ou, .int .i64 port, .int .i64 p.ta, .int .i64 p.tp, .slice D' 0 0], .agg #[.int .i64 g.ba, .int .i64 g.bi, .int .i64 g.ou, .slice A' mm mm, .slice A2 k k, .int .i64 g.fi, .int .i64 g.ho, .int .i64 g.no], .bool true]) (by simp [results, Tryz.results103, go_sem, q0, q1, q2, q3, q4, q5, z0, z1, z2, z3, z4, z5, z6, z7]) rfl ?_
      exact ⟨B, { p with fa := g.ou, fp := port }, { g with tb := tb, cs := noteC g.cs ⟨port, p.ta, p.tp⟩ }, D', 0, A', mm, mm, A2, k, k, true, rfl, HSG.out, HLT.out, Nat.le_refl _, hFr.low (by omega), hTab, HLK.out, Nat.le_refl _, hFc.low (by omega), hCon⟩
end Go.Proofs.YtjflfhjnbccpmaaGreatDoor
