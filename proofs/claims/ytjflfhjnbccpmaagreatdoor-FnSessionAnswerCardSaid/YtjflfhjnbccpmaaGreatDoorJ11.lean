/- Joined: W17, W18, SW, SS2, SE, SL2, S7, SR, S8, S10, S11. -/
import Derived.Test.YtjflfhjnbccpmaaGreatDoorJ10
import Derived.Handed
import Derived.SizedLaws
import Derived.WalkKit
import Derived.ProofKit
import Derived.OpenShut
import Derived.ChangeOld
import Derived.Stop.LaidErr
import Derived.Lib.LaidTab
import Derived.Shelf.Strings.Shaped
import Derived.Test.YtjflfhjnbccpmaaGreatDoorProg
import Derived.Lib.AtoiErrMem
import Derived.Deep.RegionLaw
set_option linter.unusedVariables false
set_option linter.unusedSimpArgs false
namespace Go.Proofs.YtjflfhjnbccpmaaGreatDoor
open Go.RowKit
/-- What TickGate hands back. -/
def TickR (o : Option Gt) (w : World) (e : Ending) (w' : World) : Prop :=
  Below w.heap.size w w' ∧ ∃ (g : Gt) (A : Option Addr) (n c : Nat) (C : Option Addr) (m d : Nat) (ok : Bool),
    e = .returned (.tuple #[.agg #[.int .i64 g.ba, .int .i64 g.bi, .int .i64 g.ou, .slice A n c, .slice C m d, .int .i64 g.fi, .int .i64 g.ho, .int .i64 g.no], .bool ok]) ∧ o = (if ok then some g else none) ∧
    g.tb.length = n ∧ n ≤ c ∧ Fr A w.heap.size ∧ TM w' A g.tb ∧ g.cs.length = m ∧ m ≤ d ∧ Fr C w.heap.size ∧ TK w' C g.cs
theorem dropC_step (l : List Con) (zs : List Int) (k : Nat) (hk : k < zs.length) : (dropC l (zs.take k)).filter (fun c => !(c.po == nth zs k)) = dropC l (zs.take (k + 1)) := by
  unfold dropC
  rw [List.filter_filter, take_succ_nth hk]
  refine List.filter_congr (fun c _ => ?_)
  rw [Bool.eq_iff_iff]
  simp [and_comm]
theorem dropC_len (l : List Con) (ps : List Int) : (dropC l ps).length ≤ l.length := List.length_filter_le _ _
theorem tick_time {g : Gt} {now : Int} (hv : vGate g = true) (hn : inB now g.no 10000 = true) : timV g.tb now g.ho = true := by
  have h1 := inB_true hn
  have hg := gate_nums hv
  have h2 := inB_true hg.2.2.2.2.2
  unfold timV
  rw [gate_tab hv, hg.2.2.2.2.1, inB_mk (by omega) (by omega)]; rfl
theorem exM_eq {l : List Mpg} {now hold : Int} {n : Nat} (hv : timV l now hold = true) (hn : l.length = n) : l.filter (fun r => !expW r.la now hold) = exM l now hold n := by
  unfold exM
  rw [← hn, List.take_length]
  refine List.filter_congr (fun r hr => ?_)
  obtain ⟨k, hk, rfl⟩ := mem_mn hr
  rw [(timV_at hv hk).1]
  rfl
set_option maxHeartbeats 3200000 in
theorem c_iTick (g : Gt) (now : Int) (A : Option Addr) (n c : Nat) (C : Option Addr) (m d : Nat) (w : World) (hv : vGate g = true) (hn : g.tb.length = n) (hc : n ≤ c) (h : TM w A g.tb) (hm : g.cs.length = m) (hd : m ≤ d) (h' : TK w C g.cs) :
    Calls Tryz.prog 43 #[.agg #[.int .i64 g.ba, .int .i64 g.bi, .int .i64 g.ou, .slice A n c, .slice C m d, .int .i64 g.fi, .int .i64 g.ho, .int .i64 g.no], .int .i64 now] w (TickR (tickG g now) w) := by

  have HT : Hid (tickG g now = if inB now g.no 10000 then some { g with tb := exM g.tb now g.ho n, cs := dropC g.cs (goneP g.tb now g.ho n), no := now } else none) := Lib.hid (by unfold tickG; rw [hv, hn]; rfl)
  have HN := Lib.hid hn
  have HM := Lib.hid hm
  have HA : Hid (∀ W, Below w.heap.size w W → TM W A g.tb) := fun W b => h.to b
  have HC : Hid (∀ W, Below w.heap.size w W → TK W C g.cs) := fun W b => h'.to b
  have HV := Lib.hid hv
  have HG := Lib.hid (gate_nums hv)
  have hn8 : n ≤ 8 := hn ▸ tab_len (gate_tab hv)
  have hm10 : m ≤ 10 := hm ▸ con_len (gate_con hv)
  clear hn hm h h' hv
  have k0 := (Blk.new w 44 #[.int .i64 g.ba, .int .i64 g.bi, .int .i64 g.ou, .slice A n c, .slice C m d, .int .i64 g.fi, .int .i64 g.ho, .int .i64 g.no]).alloc (.cells #[.int .i64 0, .int .i64 0, .int .i64 0, .slice none 0 0, .slice none 0 0, .int .i64 0, .int .i64 0, .int .i64 0] 44)
  have k3 := Blk.new (w.alloc (.cells #[.int .i64 g.ba, .int .i64 g.bi, .int .i64 g.ou, .slice A n c, .slice C m d, .int .i64 g.fi, .int .i64 g.ho, .int .i64 g.no] 44)) 44 #[.int .i64 0, .int .i64 0, .int .i64 0, .slice none 0 0, .slice none 0 0, .int .i64 0, .int .i64 0, .int .i64 0]
  have B : Below w.heap.size w ((w.alloc (.cells #[.int .i64 g.ba, .int .i64 g.bi, .int .i64 g.ou, .slice A n c, .slice C m d, .int .i64 g.fi, .int .i64 g.ho, .int .i64 g.no] 44)).alloc (.cells #[.int .i64 0, .int .i64 0, .int .i64 0, .slice none 0 0, .slice none 0 0, .int .i64 0, .int .i64 0, .int .i64 0] 44)) := ((Below.refl _ _).alloc (Nat.le_refl _) _).alloc (by simp) _
  simp only [World.size_alloc] at k3
  have y0 := k0.cell 0; have y1 := k0.cell 1; have y2 := k0.cell 2; have y3 := k0.cell 3; have y4 := k0.cell 4; have y5 := k0.cell 5; have y6 := k0.cell 6; have y7 := k0.cell 7; have l0 := k0.lt; simp only [List.getElem?_toArray, List.getElem?_cons_zero, List.getElem?_cons_succ] at y0 y1 y2 y3 y4 y5 y6 y7
  go_enter Tryz.func43, Tryz.ntmps43
  go_wp2_with fail
  refine (c_ValidGate g A n c C m d _ HV.out HN.out hc (HA.out _ B) HM.out hd (HC.out _ B)).mono ?_
  rintro e w1 ⟨rfl, hq⟩
  clear y0 y1 y2 y3 y4 y5 y6 y7 l0
  replace k0 := k0.to hq; replace k3 := k3.to hq; replace B := Bl.then B hq; clear hq
  have y0 := k0.cell 0; have y1 := k0.cell 1; have y2 := k0.cell 2; have y3 := k0.cell 3; have y4 := k0.cell 4; have y5 := k0.cell 5; have y6 := k0.cell 6; have y7 := k0.cell 7; have l0 := k0.lt; simp only [List.getElem?_toArray, List.getElem?_cons_zero, List.getElem?_cons_succ] at y0 y1 y2 y3 y4 y5 y6 y7
  go_wp2_with fail
  refine (c_in _ _ _ _).mono ?_
  rintro e w' ⟨rfl, rfl⟩
  cases hin : inB now g.no 10000
  · have HZ : Hid (tickG g now = none) := Lib.hid (by rw [HT.out, hin]; rfl)
    clear hin
    clear y0 y1 y2 y3 y4 y5 y6 y7 l0
    have z0 := k3.cell 0; have z1 := k3.cell 1; have z2 := k3.cell 2; have z3 := k3.cell 3; have z4 := k3.cell 4; have z5 := k3.cell 5; have z6 := k3.cell 6; have z7 := k3.cell 7; have l3 := k3.lt; simp only [List.getElem?_toArray, List.getElem?_cons_zero, List.getElem?_cons_succ] at z0 z1 z2 z3 z4 z5 z6 z7
    have fz0 := k3.frozen 0; have fz1 := k3.frozen 1; have fz2 := k3.frozen 2; have fz3 := k3.frozen 3; have fz4 := k3.frozen 4; have fz5 := k3.frozen 5; have fz6 := k3.frozen 6; have fz7 := k3.frozen 7
    go_wp2
    clear z0 z1 z2 z3 z4 z5 z6 z7 l3 fz0 fz1 fz2 fz3 fz4 fz5 fz6 fz7
    obtain ⟨W6, e6, z6, hf6, hb6, hr6⟩ := put8 k3 (.int .i64 0) (.int .i64 0) (.int .i64 0) (.slice none 0 0) (.slice none 0 0) (.int .i64 0) (.int .i64 0) (.int .i64 0)
    rw [e6]
    replace B := hb6 B (by omega)
    replace k3 := z6
    clear e6 hf6 hb6 hr6 z6
    have z0 := k3.cell 0; have z1 := k3.cell 1; have z2 := k3.cell 2; have z3 := k3.cell 3; have z4 := k3.cell 4; have z5 := k3.cell 5; have z6 := k3.cell 6; have z7 := k3.cell 7; have l3 := k3.lt; simp only [List.getElem?_toArray, List.getElem?_cons_zero, List.getElem?_cons_succ] at z0 z1 z2 z3 z4 z5 z6 z7
    refine bodyPost_ret (v := .tuple #[.agg #[.int .i64 0, .int .i64 0, .int .i64 0, .slice none 0 0, .slice none 0 0, .int .i64 0, .int .i64 0, .int .i64 0], .bool false]) (by simp [results, Tryz.results43, go_sem, z0, z1, z2, z3, z4, z5, z6, z7]) rfl ?_
    exact ⟨B, gt0, none, 0, 0, none, 0, 0, false, rfl, HZ.out, rfl, Nat.le_refl _, Fr.none _, TM.nil _ _, rfl, Nat.le_refl _, Fr.none _, TK.nil _ _⟩
  · have HZ : Hid (tickG g now = some { g with tb := exM g.tb now g.ho n, cs := dropC g.cs (goneP g.tb now g.ho n), no := now }) := Lib.hid (by rw [HT.out, hin]; rfl)
    have HTM := Lib.hid (tick_time HV.out hin)
    clear hin
    go_wp2_with fail
    refine (c_GcopyOf g A n c C m d _ HN.out (HA.out _ B) HM.out (HC.out _ B) (by omega) (by omega)).mono ?_
    have hl3 := k3.lt
    rintro e w2 ⟨T, T2, rfl, -, -, hFc, hCon, hq⟩
    clear y0 y1 y2 y3 y4 y5 y6 y7 l0
    replace hFc : Fr T2 (w.heap.size + 2) := hFc.low (by omega)
    have hNc := Rd.near hCon
    replace k0 := k0.to hq; replace k3 := k3.to hq; replace B := Bl.then B hq; clear hq
    have y0 := k0.cell 0; have y1 := k0.cell 1; have y2 := k0.cell 2; have y3 := k0.cell 3; have y4 := k0.cell 4; have y5 := k0.cell 5; have y6 := k0.cell 6; have y7 := k0.cell 7; have l0 := k0.lt; simp only [List.getElem?_toArray, List.getElem?_cons_zero, List.getElem?_cons_succ] at y0 y1 y2 y3 y4 y5 y6 y7
    go_upto_region 5 with fail
    have kg := Blk.new w2 44 #[.int .i64 g.ba, .int .i64 g.bi, .int .i64 g.ou, .slice T n n, .slice T2 m m, .int .i64 g.fi, .int .i64 g.ho, .int .i64 now]
    have hl2 := k3.lt
    obtain ⟨b6, hb6⟩ : ∃ b, w2.heap.size = b := ⟨_, rfl⟩
    rw [hb6] at kg hl2 hNc ⊢
    have hq : Below w2.heap.size w2 (w2.alloc (.cells #[.int .i64 g.ba, .int .i64 g.bi, .int .i64 g.ou, .slice T n n, .slice T2 m m, .int .i64 g.fi, .int .i64 g.ho, .int .i64 now] 44)) := (Below.refl _ _).alloc (Nat.le_refl _) _
    replace hCon := Rd.to hCon hq
    clear y0 y1 y2 y3 y4 y5 y6 y7 l0
    replace k0 := k0.to hq; replace k3 := k3.to hq; replace B := Bl.then B hq; clear hq
    clear hb6 hl3
    generalize w2.alloc (.cells #[.int .i64 g.ba, .int .i64 g.bi, .int .i64 g.ou, .slice T n n, .slice T2 m m, .int .i64 g.fi, .int .i64 g.ho, .int .i64 now] 44) = w3 at *
    have y0 := k0.cell 0; have y1 := k0.cell 1; have y2 := k0.cell 2; have y3 := k0.cell 3; have y4 := k0.cell 4; have y5 := k0.cell 5; have y6 := k0.cell 6; have y7 := k0.cell 7; have l0 := k0.lt; simp only [List.getElem?_toArray, List.getElem?_cons_zero, List.getElem?_cons_succ] at y0 y1 y2 y3 y4 y5 y6 y7
    go_wp2_with fail
    refine (c_iExpiredPorts A n c g.tb now g.ho _ HN.out hc (HA.out _ B) (by omega) HTM.out).mono ?_
    rintro e w4 ⟨A', q, rfl, hlq, hFp, hRI, hq⟩
    replace hFp : Fr A' (b6 + 1) := hFp.low (by have := kg.lt; omega)
    replace hCon := Rd.to hCon hq
    replace kg := kg.to hq
    clear y0 y1 y2 y3 y4 y5 y6 y7 l0
    replace k0 := k0.to hq; replace k3 := k3.to hq; replace B := Bl.then B hq; clear hq
    obtain ⟨zs, hzs⟩ : ∃ zs, goneP g.tb now g.ho n = zs := ⟨_, rfl⟩
    rw [hzs] at hlq hRI
    have HZS := Lib.hid hzs
    have HLQ := Lib.hid hlq
    have hAp : ∀ a, T2 = some a → conCs g.cs ≠ [] → a.block ≠ b6 := fun a ha hx => by have := hNc a ha hx; omega
    have hq8 : q ≤ 8 := by have := goneP_len g.tb now g.ho n; rw [hzs, hlq] at this; omega
    clear hzs hlq hNc
    have y0 := k0.cell 0; have y1 := k0.cell 1; have y2 := k0.cell 2; have y3 := k0.cell 3; have y4 := k0.cell 4; have y5 := k0.cell 5; have y6 := k0.cell 6; have y7 := k0.cell 7; have l0 := k0.lt; simp only [List.getElem?_toArray, List.getElem?_cons_zero, List.getElem?_cons_succ] at y0 y1 y2 y3 y4 y5 y6 y7
    go_wp2
    clear y0 y1 y2 y3 y4 y5 y6 y7 l0
    go_loopw [31] (fun i wr => ∃ (k m' : Nat) (C' : Option Addr), k ≤ q ∧ i = .int .i64 k ∧ Hid (Blk wr w.heap.size 44 #[.int .i64 g.ba, .int .i64 g.bi, .int .i64 g.ou, .slice A n c, .slice C m d, .int .i64 g.fi, .int .i64 g.ho, .int .i64 g.no] ∧ Blk wr (w.heap.size + 1) 44 #[.int .i64 0, .int .i64 0, .int .i64 0, .slice none 0 0, .slice none 0 0, .int .i64 0, .int .i64 0, .int .i64 0] ∧ Blk wr b6 44 #[.int .i64 g.ba, .int .i64 g.bi, .int .i64 g.ou, .slice T n n, .slice C' m' m', .int .i64 g.fi, .int .i64 g.ho, .int .i64 now] ∧ RI wr A' zs ∧ TK wr C' (dropC g.cs (zs.take k)) ∧
      (dropC g.cs (zs.take k)).length = m' ∧ Fr C' (w.heap.size + 2) ∧ (∀ a, C' = some a → conCs (dropC g.cs (zs.take k)) ≠ [] → a.block ≠ b6) ∧ Below w.heap.size w wr)) (fun i _ => q - (intOf i).toNat)
    case atStart =>
      have e0 : dropC g.cs (zs.take 0) = g.cs := by unfold dropC; simp
      exact ⟨0, m, T2, Nat.zero_le _, rfl, k0, k3, kg, hRI, by rw [e0]; exact hCon, by rw [e0]; exact HM.out, hFc, by rw [e0]; exact hAp, B⟩
    case round =>
      clear k0 k3 kg hRI hCon hFc hAp B
      obtain ⟨k, m', C', hk, rfl, HH⟩ := hrel
      obtain ⟨k0, k3, kg, hRI, hCon, hlm, hFc, hAp, B⟩ := HH.out
      clear HH
      have HLM := Lib.hid hlm
      have hdl := dropC_len g.cs (zs.take k)
      rw [HM.out, hlm] at hdl
      clear hlm
      have l1 := kg.lt
      by_cases hlt : k < q
      · have hkz : Hid (k < zs.length) := Lib.hid (by rw [HLQ.out]; exact hlt)
        obtain ⟨b0, off, rfl, hb0, c0⟩ := hRI.get hkz.out
        have hst := dropC_step g.cs zs k hkz.out
        have HST := Lib.hid hst
        have e2 : 0 ≤ (k : Int) ∧ (k : Int) < q := by omega
        have x4 := kg.cell 4
        simp only [List.getElem?_toArray, List.getElem?_cons_zero, List.getElem?_cons_succ] at x4
        clear hst
        go_wp2_with fail
        refine (c_withoutF C' m' m' (dropC g.cs (zs.take k)) (nth zs k) _ HLM.out hCon (by omega)).mono ?_
        rintro e w5 ⟨C2, m2, rfl, hl2', hF2, hT2, hq⟩
        have hF2' : Fr C2 (b6 + 1) := hF2.low (by omega)
        replace kg := kg.to hq
        replace hRI := Rd.to hRI hq
        replace k0 := k0.to hq; replace k3 := k3.to hq; replace B := Bl.then B hq; clear hq
        rw [HST.out] at hl2' hT2
        have HL2 := Lib.hid hl2'
        clear hCon hFc hAp hF2 x4 hl2' l1 hb0 c0
        have hCon : TK w5 C2 (dropC g.cs (zs.take (k + 1))) := hT2
        have x4 := kg.cell 4
        have fx4 := kg.frozen 4
        have l1 := kg.lt
        simp only [List.getElem?_toArray, List.getElem?_cons_zero, List.getElem?_cons_succ] at x4
        clear hT2
        go_upto_region 9 with fail
        have kg' : Blk (w5.setCell ⟨b6, 4, none⟩ (.slice C2 m2 m2)) b6 44 #[.int .i64 g.ba, .int .i64 g.bi, .int .i64 g.ou, .slice T n n, .slice C2 m2 m2, .int .i64 g.fi, .int .i64 g.ho, .int .i64 now] := (kg.set_ 4 _)
        have k0' := (k0.far (p := ⟨b6, 4, none⟩) (by show _ ≠ b6; omega) (.slice C2 m2 m2))
        have k3' := (k3.far (p := ⟨b6, 4, none⟩) (by show _ ≠ b6; omega) (.slice C2 m2 m2))
        have B' := (B.setCell (p := ⟨b6, 4, none⟩) (by show _ ≤ b6; omega) (.slice C2 m2 m2))
        have hRI' := (Rd.far hRI hFp (p := ⟨b6, 4, none⟩) (by show b6 < _; omega) (.slice C2 m2 m2))
        have hCon' := (Rd.far hCon hF2' (p := ⟨b6, 4, none⟩) (by show b6 < _; omega) (.slice C2 m2 m2))
        generalize hwX : (w5.setCell ⟨b6, 4, none⟩ (.slice C2 m2 m2)) = w6 at kg' k0' k3' B' hRI' hCon' ⊢
        clear hwX kg k0 k3 B hRI hCon
        have kg := kg'
        have k0 := k0'
        have k3 := k3'
        have B := B'
        have hRI := hRI'
        have hCon := hCon'
        clear kg' k0' k3' B' hRI' hCon'
        clear x4 fx4
        go_wp2
        go_roundw
        case rel => exact ⟨k + 1, m2, C2, by omega, by go_num, k0, k3, kg, hRI, hCon, HL2.out, hF2'.low (by omega), fun a ha _ => by have := hF2' a ha; omega, B⟩
        case measure => simp [intOf]; omega
      · obtain rfl : k = q := by omega
        have hzq : zs.take k = zs := by rw [← HLQ.out, List.take_length]
        rw [hzq] at hCon HLM
        rw [hzq] at hAp
        have y0 := k0.cell 0; have y1 := k0.cell 1; have y2 := k0.cell 2; have y3 := k0.cell 3; have y4 := k0.cell 4; have y5 := k0.cell 5; have y6 := k0.cell 6; have y7 := k0.cell 7; have l0 := k0.lt; simp only [List.getElem?_toArray, List.getElem?_cons_zero, List.getElem?_cons_succ] at y0 y1 y2 y3 y4 y5 y6 y7
        go_wp2_with fail
        refine (c_ExpireTableF A n c g.tb now g.ho _ HN.out hc (HA.out _ B) (by omega) HTM.out).mono ?_
        rintro e w5 ⟨A2, n2, rfl, hl2', hF2, hT2, hq⟩
        rw [exM_eq HTM.out HN.out] at hl2' hT2
        have HL2 := Lib.hid hl2'
        have hF2' : Fr A2 (b6 + 1) := hF2.low (by omega)
        replace kg := kg.to hq
        replace hCon := Rd.to hCon hq
        clear y0 y1 y2 y3 y4 y5 y6 y7 l0
        replace k0 := k0.to hq; replace k3 := k3.to hq; replace B := Bl.then B hq; clear hq
        have hTab : TM w5 A2 (exM g.tb now g.ho n) := hT2
        clear hF2 hl2' hT2 l1 hRI
        have x3 := kg.cell 3
        have fx3 := kg.frozen 3
        have l1 := kg.lt
        simp only [List.getElem?_toArray, List.getElem?_cons_zero, List.getElem?_cons_succ] at x3
        go_upto_region 11 with fail
        have kg' : Blk (w5.setCell ⟨b6, 3, none⟩ (.slice A2 n2 n2)) b6 44 #[.int .i64 g.ba, .int .i64 g.bi, .int .i64 g.ou, .slice A2 n2 n2, .slice C' m' m', .int .i64 g.fi, .int .i64 g.ho, .int .i64 now] := (kg.set_ 3 _)
        have k0' := (k0.far (p := ⟨b6, 3, none⟩) (by show _ ≠ b6; omega) (.slice A2 n2 n2))
        have k3' := (k3.far (p := ⟨b6, 3, none⟩) (by show _ ≠ b6; omega) (.slice A2 n2 n2))
        have B' := (B.setCell (p := ⟨b6, 3, none⟩) (by show _ ≤ b6; omega) (.slice A2 n2 n2))
        have hTab' := (Rd.far hTab hF2' (p := ⟨b6, 3, none⟩) (by show b6 < _; omega) (.slice A2 n2 n2))
        have hCon' := (Rd.apart hCon (p := ⟨b6, 3, none⟩) hAp (.slice A2 n2 n2))
        generalize hwX : (w5.setCell ⟨b6, 3, none⟩ (.slice A2 n2 n2)) = w6 at kg' k0' k3' B' hTab' hCon' ⊢
        clear hwX kg k0 k3 B hTab hCon
        have kg := kg'
        have k0 := k0'
        have k3 := k3'
        have B := B'
        have hTab := hTab'
        have hCon := hCon'
        clear kg' k0' k3' B' hTab' hCon'
        clear x3 fx3 k0
        have x0 := kg.cell 0
        have x1 := kg.cell 1
        have x2 := kg.cell 2
        have x3 := kg.cell 3
        have x4 := kg.cell 4
        have x5 := kg.cell 5
        have x6 := kg.cell 6
        have x7 := kg.cell 7
        simp only [List.getElem?_toArray, List.getElem?_cons_zero, List.getElem?_cons_succ] at x0 x1 x2 x3 x4 x5 x6 x7
        have z0 := k3.cell 0; have z1 := k3.cell 1; have z2 := k3.cell 2; have z3 := k3.cell 3; have z4 := k3.cell 4; have z5 := k3.cell 5; have z6 := k3.cell 6; have z7 := k3.cell 7; have l3 := k3.lt; simp only [List.getElem?_toArray, List.getElem?_cons_zero, List.getElem?_cons_succ] at z0 z1 z2 z3 z4 z5 z6 z7
        have fz0 := k3.frozen 0; have fz1 := k3.frozen 1; have fz2 := k3.frozen 2; have fz3 := k3.frozen 3; have fz4 := k3.frozen 4; have fz5 := k3.frozen 5; have fz6 := k3.frozen 6; have fz7 := k3.frozen 7
        go_wp2
        clear z0 z1 z2 z3 z4 z5 z6 z7 l3 fz0 fz1 fz2 fz3 fz4 fz5 fz6 fz7
        obtain ⟨W6, e6, z6, hf6, hb6, hr6⟩ := put8 k3 (.int .i64 g.ba) (.int .i64 g.bi) (.int .i64 g.ou) (.slice A2 n2 n2) (.slice C' m' m') (.int .i64 g.fi) (.int .i64 g.ho) (.int .i64 now)
        rw [e6]
        replace B := hb6 B (by omega)
        replace hTab := hr6.1 hTab hF2' (by omega)
        replace hCon := hr6.1 hCon hFc (by omega)
        replace k3 := z6
        clear e6 hf6 hb6 hr6 z6
        have z0 := k3.cell 0; have z1 := k3.cell 1; have z2 := k3.cell 2; have z3 := k3.cell 3; have z4 := k3.cell 4; have z5 := k3.cell 5; have z6 := k3.cell 6; have z7 := k3.cell 7; have l3 := k3.lt; simp only [List.getElem?_toArray, List.getElem?_cons_zero, List.getElem?_cons_succ] at z0 z1 z2 z3 z4 z5 z6 z7
        refine bodyPost_ret (v := .tuple #[.agg #[.int .i64 g.ba, .int .i64 g.bi, .int .i64 g.ou, .slice A2 n2 n2, .slice C' m' m', .int .i64 g.fi, .int .i64 g.ho, .int .i64 now], .bool true]) (by simp [results, Tryz.results43, go_sem, z0, z1, z2, z3, z4, z5, z6, z7]) rfl ?_
        exact ⟨B, { g with tb := exM g.tb now g.ho n, cs := dropC g.cs (goneP g.tb now g.ho n), no := now }, A2, n2, n2, C', m', m', true, rfl, HZ.out, HL2.out, Nat.le_refl _, hF2'.low (by omega), hTab, by rw [HZS.out]; exact HLM.out, Nat.le_refl _, hFc.low (by omega), by rw [HZS.out]; exact hCon⟩
end Go.Proofs.YtjflfhjnbccpmaaGreatDoor
namespace Go.Proofs.YtjflfhjnbccpmaaGreatDoor
open Go.RowKit
theorem ri_cell {w : World} {b off k : Nat} {zs : List Int} (h : RI w (some ⟨b, off, none⟩) zs) (hk : k < zs.length) : w.cell? ⟨b, off + k, none⟩ = some (.int .i64 (nth zs k)) := by
  obtain ⟨b', off', e, _, hc⟩ := h.get hk
  cases e
  exact hc
set_option maxHeartbeats 3200000 in
theorem c_tick (g : Gt) (now : Int) (A : Option Addr) (n c : Nat) (C : Option Addr) (m d : Nat) (w : World) (hv : vGate g = true) (hin : inB now g.no 10000 = true) (hn : g.tb.length = n) (h : TM w A g.tb) (hm : g.cs.length = m) (h' : TK w C g.cs) :
    Calls Tryz.prog 88 #[.agg #[.int .i64 g.ba, .int .i64 g.bi, .int .i64 g.ou, .slice A n c, .slice C m d, .int .i64 g.fi, .int .i64 g.ho, .int .i64 g.no], .int .i64 now] w fun e w' => ∃ A2 n2 c2 C2 m2 d2, e = .returned (.agg #[.int .i64 g.ba, .int .i64 g.bi, .int .i64 g.ou, .slice A2 n2 c2, .slice C2 m2 d2, .int .i64 g.fi, .int .i64 g.ho, .int .i64 now]) ∧ n2 ≤ c2 ∧ m2 ≤ d2 ∧ (exM g.tb now g.ho n).length = n2 ∧ Fr A2 w.heap.size ∧ TM w' A2 (exM g.tb now g.ho n) ∧ (dropC g.cs (goneP g.tb now g.ho n)).length = m2 ∧ Fr C2 w.heap.size ∧ TK w' C2 (dropC g.cs (goneP g.tb now g.ho n)) ∧ Below w.heap.size w w' := by

  have HTM := Lib.hid (tick_time hv hin)
  clear hin
  have HN := Lib.hid hn
  have HM := Lib.hid hm
  have HA : Hid (∀ W, Below w.heap.size w W → TM W A g.tb) := fun W b => h.to b
  have HC : Hid (∀ W, Below w.heap.size w W → TK W C g.cs) := fun W b => h'.to b
  have HV := Lib.hid hv
  have HG := Lib.hid (gate_nums hv)
  have hn8 : n ≤ 8 := hn ▸ tab_len (gate_tab hv)
  have hm10 : m ≤ 10 := hm ▸ con_len (gate_con hv)
  clear hn hm h h' hv
  have k0 := (Blk.new w 44 #[.int .i64 g.ba, .int .i64 g.bi, .int .i64 g.ou, .slice A n c, .slice C m d, .int .i64 g.fi, .int .i64 g.ho, .int .i64 g.no]).alloc (.cells #[.int .i64 0, .int .i64 0, .int .i64 0, .slice none 0 0, .slice none 0 0, .int .i64 0, .int .i64 0, .int .i64 0] 44)
  have k3 := Blk.new (w.alloc (.cells #[.int .i64 g.ba, .int .i64 g.bi, .int .i64 g.ou, .slice A n c, .slice C m d, .int .i64 g.fi, .int .i64 g.ho, .int .i64 g.no] 44)) 44 #[.int .i64 0, .int .i64 0, .int .i64 0, .slice none 0 0, .slice none 0 0, .int .i64 0, .int .i64 0, .int .i64 0]
  have B : Below w.heap.size w ((w.alloc (.cells #[.int .i64 g.ba, .int .i64 g.bi, .int .i64 g.ou, .slice A n c, .slice C m d, .int .i64 g.fi, .int .i64 g.ho, .int .i64 g.no] 44)).alloc (.cells #[.int .i64 0, .int .i64 0, .int .i64 0, .slice none 0 0, .slice none 0 0, .int .i64 0, .int .i64 0, .int .i64 0] 44)) := ((Below.refl _ _).alloc (Nat.le_refl _) _).alloc (by simp) _
  simp only [World.size_alloc] at k3
  have y0 := k0.cell 0; have y1 := k0.cell 1; have y2 := k0.cell 2; have y3 := k0.cell 3; have y4 := k0.cell 4; have y5 := k0.cell 5; have y6 := k0.cell 6; have y7 := k0.cell 7; have l0 := k0.lt; simp only [List.getElem?_toArray, List.getElem?_cons_zero, List.getElem?_cons_succ] at y0 y1 y2 y3 y4 y5 y6 y7
  go_enter Tryz.func88, Tryz.ntmps88
  go_wp2_with fail
  refine (c_copyGate g A n c C m d _ HN.out (HA.out _ B) HM.out (HC.out _ B) (by omega) (by omega)).mono ?_
  have hl3 := k3.lt
  rintro e w2 ⟨T, c1, T2, c2, rfl, -, hc2, -, -, hFc, hCon, hq⟩
  clear y0 y1 y2 y3 y4 y5 y6 y7 l0
  replace hFc : Fr T2 (w.heap.size + 2) := hFc.low (by omega)
  have hNc := Rd.near hCon
  replace k0 := k0.to hq; replace k3 := k3.to hq; replace B := Bl.then B hq; clear hq
  have y0 := k0.cell 0; have y1 := k0.cell 1; have y2 := k0.cell 2; have y3 := k0.cell 3; have y4 := k0.cell 4; have y5 := k0.cell 5; have y6 := k0.cell 6; have y7 := k0.cell 7; have l0 := k0.lt; simp only [List.getElem?_toArray, List.getElem?_cons_zero, List.getElem?_cons_succ] at y0 y1 y2 y3 y4 y5 y6 y7
  go_upto_region 2 with fail
  have kg := Blk.new w2 44 #[.int .i64 g.ba, .int .i64 g.bi, .int .i64 g.ou, .slice T n c1, .slice T2 m c2, .int .i64 g.fi, .int .i64 g.ho, .int .i64 g.no]
  have hl2 := k3.lt
  obtain ⟨b6, hb6⟩ : ∃ b, w2.heap.size = b := ⟨_, rfl⟩
  rw [hb6] at kg hl2 hNc ⊢
  have hq : Below w2.heap.size w2 (w2.alloc (.cells #[.int .i64 g.ba, .int .i64 g.bi, .int .i64 g.ou, .slice T n c1, .slice T2 m c2, .int .i64 g.fi, .int .i64 g.ho, .int .i64 g.no] 44)) := (Below.refl _ _).alloc (Nat.le_refl _) _
  replace hCon := Rd.to hCon hq
  clear y0 y1 y2 y3 y4 y5 y6 y7 l0
  replace k0 := k0.to hq; replace k3 := k3.to hq; replace B := Bl.then B hq; clear hq
  clear hb6 hl3
  generalize w2.alloc (.cells #[.int .i64 g.ba, .int .i64 g.bi, .int .i64 g.ou, .slice T n c1, .slice T2 m c2, .int .i64 g.fi, .int .i64 g.ho, .int .i64 g.no] 44) = w3 at *
  have y0 := k0.cell 0; have y1 := k0.cell 1; have y2 := k0.cell 2; have y3 := k0.cell 3; have y4 := k0.cell 4; have y5 := k0.cell 5; have y6 := k0.cell 6; have y7 := k0.cell 7; have l0 := k0.lt; simp only [List.getElem?_toArray, List.getElem?_cons_zero, List.getElem?_cons_succ] at y0 y1 y2 y3 y4 y5 y6 y7
  go_wp2_with fail
  refine (c_sExpiredPorts A n c g.tb now g.ho _ HN.out (HA.out _ B) (by omega) HTM.out).mono ?_
  rintro e w4 ⟨A', q, cq, rfl, hlq, hFp, hRI, hq⟩
  replace hFp : Fr A' (b6 + 1) := hFp.low (by have := kg.lt; omega)
  replace hCon := Rd.to hCon hq
  replace kg := kg.to hq
  clear y0 y1 y2 y3 y4 y5 y6 y7 l0
  replace k0 := k0.to hq; replace k3 := k3.to hq; replace B := Bl.then B hq; clear hq
  obtain ⟨zs, hzs⟩ : ∃ zs, goneP g.tb now g.ho n = zs := ⟨_, rfl⟩
  rw [hzs] at hlq hRI
  have HZS := Lib.hid hzs
  have HLQ := Lib.hid hlq
  have hAp : ∀ a, T2 = some a → conCs g.cs ≠ [] → a.block ≠ b6 := fun a ha hx => by have := hNc a ha hx; omega
  have hq8 : q ≤ 8 := by have := goneP_len g.tb now g.ho n; rw [hzs, hlq] at this; omega
  clear hzs hlq hNc
  have y0 := k0.cell 0; have y1 := k0.cell 1; have y2 := k0.cell 2; have y3 := k0.cell 3; have y4 := k0.cell 4; have y5 := k0.cell 5; have y6 := k0.cell 6; have y7 := k0.cell 7; have l0 := k0.lt; simp only [List.getElem?_toArray, List.getElem?_cons_zero, List.getElem?_cons_succ] at y0 y1 y2 y3 y4 y5 y6 y7
  go_wp2
  clear y0 y1 y2 y3 y4 y5 y6 y7 l0
  go_loopw [7] (fun i wr => ∃ (k m' d' : Nat) (C' : Option Addr), k ≤ q ∧ i = .int .i64 k ∧ Hid (Blk wr w.heap.size 44 #[.int .i64 g.ba, .int .i64 g.bi, .int .i64 g.ou, .slice A n c, .slice C m d, .int .i64 g.fi, .int .i64 g.ho, .int .i64 g.no] ∧ Blk wr (w.heap.size + 1) 44 #[.int .i64 0, .int .i64 0, .int .i64 0, .slice none 0 0, .slice none 0 0, .int .i64 0, .int .i64 0, .int .i64 0] ∧ Blk wr b6 44 #[.int .i64 g.ba, .int .i64 g.bi, .int .i64 g.ou, .slice T n c1, .slice C' m' d', .int .i64 g.fi, .int .i64 g.ho, .int .i64 g.no] ∧ RI wr A' zs ∧ TK wr C' (dropC g.cs (zs.take k)) ∧
    (dropC g.cs (zs.take k)).length = m' ∧ m' ≤ d' ∧ Fr C' (w.heap.size + 2) ∧ (∀ a, C' = some a → conCs (dropC g.cs (zs.take k)) ≠ [] → a.block ≠ b6) ∧ Below w.heap.size w wr)) (fun i _ => q - (intOf i).toNat)
  case atStart =>
    have e0 : dropC g.cs (zs.take 0) = g.cs := by unfold dropC; simp
    exact ⟨0, m, c2, T2, Nat.zero_le _, rfl, k0, k3, kg, hRI, by rw [e0]; exact hCon, by rw [e0]; exact HM.out, hc2, hFc, by rw [e0]; exact hAp, B⟩
  case round =>
    clear k0 k3 kg hRI hCon hFc hAp B hc2
    obtain ⟨k, m', d', C', hk, rfl, HH⟩ := hrel
    obtain ⟨k0, k3, kg, hRI, hCon, hlm, hmd, hFc, hAp, B⟩ := HH.out
    clear HH
    have HLM := Lib.hid hlm
    have hdl := dropC_len g.cs (zs.take k)
    rw [HM.out, hlm] at hdl
    have HVC : Hid (vCon (dropC g.cs (zs.take k)) = true) := Lib.hid (vCon_filter (gate_con HV.out))
    clear hlm
    by_cases hlt : k < q
    · have hkz : Hid (k < zs.length) := Lib.hid (by rw [HLQ.out]; exact hlt)
      obtain ⟨b0, off, rfl, hb0, c0⟩ := hRI.get hkz.out
      have hst := dropC_step g.cs zs k hkz.out
      have HST := Lib.hid hst
      have e2 : 0 ≤ (k : Int) ∧ (k : Int) < q := by omega
      clear hst c0 hb0
      go_wp2_with fail
      have hq : Below wr.heap.size wr wr.drew := Bl.of_drewN wr 1
      replace kg := kg.to hq
      replace hRI := Rd.to hRI hq
      replace hCon := Rd.to hCon hq
      replace k0 := k0.to hq; replace k3 := k3.to hq; replace B := Bl.then B hq; clear hq
      have x4 := kg.cell 4
      have l1 := kg.lt
      simp only [List.getElem?_toArray, List.getElem?_cons_zero, List.getElem?_cons_succ] at x4
      refine wp_region_held_drew (S := (fun w' => w'.cell? ⟨b0, off + k, none⟩ = some (.int .i64 (nth zs k)))) (by kernel_rfl) ?_ (fun hHeld => ?_)
      · (try dsimp only); exact ri_cell hRI hkz.out
      generalize World.drew wr = wq at *
      refine wpAnyH_take (i := 0) (v := ?_) (arr_at rfl) (by kernel_rfl) (by kernel_rfl) (by kernel_rfl) (fun _ _ _ h => h) ?_ (by assumption) ?_
      rotate_left
      · first | (refine Or.inr ⟨by rfl, ?_⟩; with_reducible rfl) | (refine Or.inl ⟨by rfl, ?_⟩; intro w hSw; (try dsimp only at hSw); go_simp; first | done | with_reducible rfl)
      try simp only [Act.put, List.setIfInBounds_toArray, List.set_cons_zero, List.set_cons_succ]
      refine wpAnyH_take (i := 2) (v := ?_) (arr_at rfl) (by kernel_rfl) (by kernel_rfl) (by kernel_rfl) (fun _ _ _ h => h) ?_ (by assumption) ?_
      rotate_left
      · first | (refine Or.inr ⟨by rfl, ?_⟩; with_reducible rfl) | (refine Or.inl ⟨by rfl, ?_⟩; intro w hSw; (try dsimp only at hSw); go_simp; first | done | with_reducible rfl)
      try simp only [Act.put, List.setIfInBounds_toArray, List.set_cons_zero, List.set_cons_succ]
      refine wpAnyH_take (i := 3) (v := ?_) (arr_at rfl) (by kernel_rfl) (by kernel_rfl) (by kernel_rfl) (fun _ _ _ h => h) ?_ (by assumption) ?_
      rotate_left
      · first | (refine Or.inr ⟨by rfl, ?_⟩; with_reducible rfl) | (refine Or.inl ⟨by rfl, ?_⟩; intro w hSw; (try dsimp only at hSw); go_simp; first | done | with_reducible rfl)
      try simp only [Act.put, List.setIfInBounds_toArray, List.set_cons_zero, List.set_cons_succ]
      refine wpAnyH_take (i := 4) (v := ?_) (arr_at rfl) (by kernel_rfl) (by kernel_rfl) (by kernel_rfl) (fun _ _ _ h => h) ?_ (by assumption) ?_
      rotate_left
      · first | (refine Or.inr ⟨by rfl, ?_⟩; with_reducible rfl) | (refine Or.inl ⟨by rfl, ?_⟩; intro w hSw; (try dsimp only at hSw); go_simp; first | done | with_reducible rfl)
      try simp only [Act.put, List.setIfInBounds_toArray, List.set_cons_zero, List.set_cons_succ]
      refine wpAnyH_take (i := 5) (v := ?_) (arr_at rfl) (by kernel_rfl) (by kernel_rfl) (by kernel_rfl) (fun _ _ _ h => h) ?_ (by assumption) ?_
      rotate_left
      · first | (refine Or.inr ⟨by rfl, ?_⟩; with_reducible rfl) | (refine Or.inl ⟨by rfl, ?_⟩; intro w hSw; (try dsimp only at hSw); go_simp; first | done | with_reducible rfl)
      try simp only [Act.put, List.setIfInBounds_toArray, List.set_cons_zero, List.set_cons_succ]
      refine wpAnyH_ready (rs := [1]) (by kernel_rfl) (by simp) ?_
      refine AllReadyH.cons (arr_at rfl) (fun K hK => ?_) AllReadyH.nil
      go_simp
      clear x4; skip
      refine hK.out _ _ ?_ (fun hHeld => ?_)
      · (try dsimp only); exact ri_cell hRI hkz.out
      clear hK K
      try simp only [Act.put, List.setIfInBounds_toArray, List.set_cons_zero, List.set_cons_succ]
      refine wpAnyH_ready (rs := [6]) (by kernel_rfl) (by simp) ?_
      refine AllReadyH.cons (arr_at rfl) (fun K hK => ?_) AllReadyH.nil
      go_simp
      go_at_call 150; refine (c_DropContacts C' m' d' (dropC g.cs (zs.take k)) (nth zs k) _ HLM.out hCon (by omega) HVC.out).mono ?_; rintro e w5 ⟨C2, m2, d2, rfl, hd2, hl2', hF2, hT2, hq⟩; have hF2' : Fr C2 (b6 + 1) := hF2.low (by have := kg.lt; omega); replace kg := kg.to hq; replace hRI := Rd.to hRI hq; replace k0 := k0.to hq; replace k3 := k3.to hq; replace B := Bl.then B hq; clear hq; rw [HST.out] at hl2' hT2; have HL2 := Lib.hid hl2'; clear hCon hFc hAp hF2 hl2'; have hCon : TK w5 C2 (dropC g.cs (zs.take (k + 1))) := hT2; clear hT2
      refine hK.out _ _ ?_ (fun hHeld => ?_)
      · (try dsimp only); exact ri_cell hRI hkz.out
      clear hK K
      try simp only [Act.put, List.setIfInBounds_toArray, List.set_cons_zero, List.set_cons_succ]
      refine wpAnyH_take (i := 7) (v := ?_) (arr_at rfl) (by kernel_rfl) (by kernel_rfl) (by kernel_rfl) (fun _ _ _ h => h) ?_ (by assumption) ?_
      rotate_left
      · first | (refine Or.inr ⟨by rfl, ?_⟩; with_reducible rfl) | (refine Or.inl ⟨by rfl, ?_⟩; intro w hSw; (try dsimp only at hSw); go_simp; first | done | with_reducible rfl)
      try simp only [Act.put, List.setIfInBounds_toArray, List.set_cons_zero, List.set_cons_succ]
      refine wpAnyH_ready (rs := [8]) (by kernel_rfl) (by simp) ?_
      refine AllReadyH.cons (arr_at rfl) (fun K hK => ?_) AllReadyH.nil
      have x4 := kg.cell 4; have fx4 := kg.frozen 4; have l1 := kg.lt; simp only [List.getElem?_toArray, List.getElem?_cons_zero, List.getElem?_cons_succ] at x4; go_simp; have kg' : Blk (w5.setCell ⟨b6, 4, none⟩ (.slice C2 m2 d2)) b6 44 #[.int .i64 g.ba, .int .i64 g.bi, .int .i64 g.ou, .slice T n c1, .slice C2 m2 d2, .int .i64 g.fi, .int .i64 g.ho, .int .i64 g.no] := (kg.set_ 4 _); have k0' := (k0.far (p := ⟨b6, 4, none⟩) (by show _ ≠ b6; omega) (.slice C2 m2 d2)); have k3' := (k3.far (p := ⟨b6, 4, none⟩) (by show _ ≠ b6; omega) (.slice C2 m2 d2)); have B' := (B.setCell (p := ⟨b6, 4, none⟩) (by show _ ≤ b6; omega) (.slice C2 m2 d2)); have hRI' := (Rd.far hRI hFp (p := ⟨b6, 4, none⟩) (by show b6 < _; omega) (.slice C2 m2 d2)); have hCon' := (Rd.far hCon hF2' (p := ⟨b6, 4, none⟩) (by show b6 < _; omega) (.slice C2 m2 d2)); generalize hwX : (w5.setCell ⟨b6, 4, none⟩ (.slice C2 m2 d2)) = w6 at kg' k0' k3' B' hRI' hCon' ⊢; clear hwX kg k0 k3 B hRI hCon; have kg := kg'; have k0 := k0'; have k3 := k3'; have B := B'; have hRI := hRI'; have hCon := hCon'; clear kg' k0' k3' B' hRI' hCon'; clear x4 fx4
      refine hK.out _ _ ?_ (fun hHeld => ?_)
      · (try dsimp only); exact ri_cell hRI hkz.out
      clear hK K
      try simp only [Act.put, List.setIfInBounds_toArray, List.set_cons_zero, List.set_cons_succ]
      refine wpAnyH_done (by kernel_rfl) ?_ _
      go_wp2
      go_roundw
      case rel => exact ⟨k + 1, m2, d2, C2, by omega, by go_num, k0, k3, kg, hRI, hCon, HL2.out, hd2, hF2'.low (by omega), fun a ha _ => by have := hF2' a ha; omega, B⟩
      case measure => simp [intOf]; omega
    · obtain rfl : k = q := by omega
      have hzq : zs.take k = zs := by rw [← HLQ.out, List.take_length]
      rw [hzq] at hCon HLM
      rw [hzq] at hAp
      have l1 := kg.lt
      have y0 := k0.cell 0; have y1 := k0.cell 1; have y2 := k0.cell 2; have y3 := k0.cell 3; have y4 := k0.cell 4; have y5 := k0.cell 5; have y6 := k0.cell 6; have y7 := k0.cell 7; have l0 := k0.lt; simp only [List.getElem?_toArray, List.getElem?_cons_zero, List.getElem?_cons_succ] at y0 y1 y2 y3 y4 y5 y6 y7
      go_wp2_with fail
      refine (c_expire A n c g.tb now g.ho _ HN.out (HA.out _ B) (by omega) (fun j hj => by have := (timV_at HTM.out hj).2; omega)).mono ?_
      rintro e w5 ⟨v, rfl, ho, hq⟩
      have hF2 := ho
      obtain ⟨A2, e2, rfl, hc9, -, hfr0⟩ := ho.slice
      obtain ⟨n2, hn2⟩ : ∃ x, (exM g.tb now g.ho n).length = x := ⟨_, rfl⟩
      have hTab : TM w5 A2 (exM g.tb now g.ho n) := ho.tm rfl
      rw [hn2] at hc9 ⊢
      have HL2 := Lib.hid hn2
      have hF2' : Fr A2 (b6 + 1) := fun a ha => by have := (hfr0 a ha).1; omega
      replace kg := kg.to hq
      replace hCon := Rd.to hCon hq
      clear y0 y1 y2 y3 y4 y5 y6 y7 l0
      replace k0 := k0.to hq; replace k3 := k3.to hq; replace B := Bl.then B hq; clear hq
      clear hF2 hn2 hfr0 ho l1 hRI
      have x3 := kg.cell 3
      have fx3 := kg.frozen 3
      have l1 := kg.lt
      simp only [List.getElem?_toArray, List.getElem?_cons_zero, List.getElem?_cons_succ] at x3
      go_upto_region 8 with fail
      have kg' : Blk (w5.setCell ⟨b6, 3, none⟩ (.slice A2 n2 e2)) b6 44 #[.int .i64 g.ba, .int .i64 g.bi, .int .i64 g.ou, .slice A2 n2 e2, .slice C' m' d', .int .i64 g.fi, .int .i64 g.ho, .int .i64 g.no] := (kg.set_ 3 _)
      have k0' := (k0.far (p := ⟨b6, 3, none⟩) (by show _ ≠ b6; omega) (.slice A2 n2 e2))
      have k3' := (k3.far (p := ⟨b6, 3, none⟩) (by show _ ≠ b6; omega) (.slice A2 n2 e2))
      have B' := (B.setCell (p := ⟨b6, 3, none⟩) (by show _ ≤ b6; omega) (.slice A2 n2 e2))
      have hTab' := (Rd.far hTab hF2' (p := ⟨b6, 3, none⟩) (by show b6 < _; omega) (.slice A2 n2 e2))
      have hCon' := (Rd.apart hCon (p := ⟨b6, 3, none⟩) hAp (.slice A2 n2 e2))
      generalize hwX : (w5.setCell ⟨b6, 3, none⟩ (.slice A2 n2 e2)) = w6 at kg' k0' k3' B' hTab' hCon' ⊢
      clear hwX kg k0 k3 B hTab hCon
      have kg := kg'
      have k0 := k0'
      have k3 := k3'
      have B := B'
      have hTab := hTab'
      have hCon := hCon'
      clear kg' k0' k3' B' hTab' hCon'
      clear x3 fx3
      have x7 := kg.cell 7
      have fx7 := kg.frozen 7
      simp only [List.getElem?_toArray, List.getElem?_cons_zero, List.getElem?_cons_succ] at x7
      go_upto_region 9 with fail
      have kg' : Blk (w6.setCell ⟨b6, 7, none⟩ (.int .i64 now)) b6 44 #[.int .i64 g.ba, .int .i64 g.bi, .int .i64 g.ou, .slice A2 n2 e2, .slice C' m' d', .int .i64 g.fi, .int .i64 g.ho, .int .i64 now] := (kg.set_ 7 _)
      have k0' := (k0.far (p := ⟨b6, 7, none⟩) (by show _ ≠ b6; omega) (.int .i64 now))
      have k3' := (k3.far (p := ⟨b6, 7, none⟩) (by show _ ≠ b6; omega) (.int .i64 now))
      have B' := (B.setCell (p := ⟨b6, 7, none⟩) (by show _ ≤ b6; omega) (.int .i64 now))
      have hTab' := (Rd.far hTab hF2' (p := ⟨b6, 7, none⟩) (by show b6 < _; omega) (.int .i64 now))
      have hCon' := (Rd.apart hCon (p := ⟨b6, 7, none⟩) hAp (.int .i64 now))
      generalize hwX : (w6.setCell ⟨b6, 7, none⟩ (.int .i64 now)) = w7 at kg' k0' k3' B' hTab' hCon' ⊢
      clear hwX kg k0 k3 B hTab hCon
      have kg := kg'
      have k0 := k0'
      have k3 := k3'
      have B := B'
      have hTab := hTab'
      have hCon := hCon'
      clear kg' k0' k3' B' hTab' hCon'
      clear x7 fx7 k0
      have x0 := kg.cell 0
      have x1 := kg.cell 1
      have x2 := kg.cell 2
      have x3 := kg.cell 3
      have x4 := kg.cell 4
      have x5 := kg.cell 5
      have x6 := kg.cell 6
      have x7 := kg.cell 7
      simp only [List.getElem?_toArray, List.getElem?_cons_zero, List.getElem?_cons_succ] at x0 x1 x2 x3 x4 x5 x6 x7
      have z0 := k3.cell 0; have z1 := k3.cell 1; have z2 := k3.cell 2; have z3 := k3.cell 3; have z4 := k3.cell 4; have z5 := k3.cell 5; have z6 := k3.cell 6; have z7 := k3.cell 7; have l3 := k3.lt; simp only [List.getElem?_toArray, List.getElem?_cons_zero, List.getElem?_cons_succ] at z0 z1 z2 z3 z4 z5 z6 z7
      have fz0 := k3.frozen 0; have fz1 := k3.frozen 1; have fz2 := k3.frozen 2; have fz3 := k3.frozen 3; have fz4 := k3.frozen 4; have fz5 := k3.frozen 5; have fz6 := k3.frozen 6; have fz7 := k3.frozen 7
      go_wp2
      clear z0 z1 z2 z3 z4 z5 z6 z7 l3 fz0 fz1 fz2 fz3 fz4 fz5 fz6 fz7
      obtain ⟨W6, e6, z6, hf6, hb6, hr6⟩ := put8 k3 (.int .i64 g.ba) (.int .i64 g.bi) (.int .i64 g.ou) (.slice A2 n2 e2) (.slice C' m' d') (.int .i64 g.fi) (.int .i64 g.ho) (.int .i64 now)
      rw [e6]
      replace B := hb6 B (by omega)
      replace hTab := hr6.1 hTab hF2' (by omega)
      replace hCon := hr6.1 hCon hFc (by omega)
      replace k3 := z6
      clear e6 hf6 hb6 hr6 z6
      have z0 := k3.cell 0; have z1 := k3.cell 1; have z2 := k3.cell 2; have z3 := k3.cell 3; have z4 := k3.cell 4; have z5 := k3.cell 5; have z6 := k3.cell 6; have z7 := k3.cell 7; have l3 := k3.lt; simp only [List.getElem?_toArray, List.getElem?_cons_zero, List.getElem?_cons_succ] at z0 z1 z2 z3 z4 z5 z6 z7
      refine bodyPost_ret (v := .agg #[.int .i64 g.ba, .int .i64 g.bi, .int .i64 g.ou, .slice A2 n2 e2, .slice C' m' d', .int .i64 g.fi, .int .i64 g.ho, .int .i64 now]) (by simp [results, Tryz.results88, go_sem, z0, z1, z2, z3, z4, z5, z6, z7]) rfl ?_
      exact ⟨A2, n2, e2, C', m', d', rfl, hc9, hmd, HL2.out, hF2'.low (by omega), hTab, by rw [HZS.out]; exact HLM.out, hFc.low (by omega), by rw [HZS.out]; exact hCon, B⟩
set_option maxHeartbeats 3200000 in
theorem c_sTick (g : Gt) (now : Int) (A : Option Addr) (n c : Nat) (C : Option Addr) (m d : Nat) (w : World) (hv : vGate g = true) (hn : g.tb.length = n) (h : TM w A g.tb) (hm : g.cs.length = m) (h' : TK w C g.cs) :
    Calls Tryz.prog 53 #[.agg #[.int .i64 g.ba, .int .i64 g.bi, .int .i64 g.ou, .slice A n c, .slice C m d, .int .i64 g.fi, .int .i64 g.ho, .int .i64 g.no], .int .i64 now] w (TickR (tickG g now) w) := by

  have HT : Hid (tickG g now = if inB now g.no 10000 then some { g with tb := exM g.tb now g.ho n, cs := dropC g.cs (goneP g.tb now g.ho n), no := now } else none) := Lib.hid (by unfold tickG; rw [hv, hn]; rfl)
  have HN := Lib.hid hn
  have HM := Lib.hid hm
  have HA : Hid (∀ W, Below w.heap.size w W → TM W A g.tb) := fun W b => h.to b
  have HC : Hid (∀ W, Below w.heap.size w W → TK W C g.cs) := fun W b => h'.to b
  have HV := Lib.hid hv
  have HG := Lib.hid (gate_nums hv)
  have hn8 : n ≤ 8 := hn ▸ tab_len (gate_tab hv)
  have hm10 : m ≤ 10 := hm ▸ con_len (gate_con hv)
  clear hn hm h h' hv
  have k0 := (Blk.new w 44 #[.int .i64 g.ba, .int .i64 g.bi, .int .i64 g.ou, .slice A n c, .slice C m d, .int .i64 g.fi, .int .i64 g.ho, .int .i64 g.no]).alloc (.cells #[.int .i64 0, .int .i64 0, .int .i64 0, .slice none 0 0, .slice none 0 0, .int .i64 0, .int .i64 0, .int .i64 0] 44)
  have k3 := Blk.new (w.alloc (.cells #[.int .i64 g.ba, .int .i64 g.bi, .int .i64 g.ou, .slice A n c, .slice C m d, .int .i64 g.fi, .int .i64 g.ho, .int .i64 g.no] 44)) 44 #[.int .i64 0, .int .i64 0, .int .i64 0, .slice none 0 0, .slice none 0 0, .int .i64 0, .int .i64 0, .int .i64 0]
  have B : Below w.heap.size w ((w.alloc (.cells #[.int .i64 g.ba, .int .i64 g.bi, .int .i64 g.ou, .slice A n c, .slice C m d, .int .i64 g.fi, .int .i64 g.ho, .int .i64 g.no] 44)).alloc (.cells #[.int .i64 0, .int .i64 0, .int .i64 0, .slice none 0 0, .slice none 0 0, .int .i64 0, .int .i64 0, .int .i64 0] 44)) := ((Below.refl _ _).alloc (Nat.le_refl _) _).alloc (by simp) _
  simp only [World.size_alloc] at k3
  have y0 := k0.cell 0; have y1 := k0.cell 1; have y2 := k0.cell 2; have y3 := k0.cell 3; have y4 := k0.cell 4; have y5 := k0.cell 5; have y6 := k0.cell 6; have y7 := k0.cell 7; have l0 := k0.lt; simp only [List.getElem?_toArray, List.getElem?_cons_zero, List.getElem?_cons_succ] at y0 y1 y2 y3 y4 y5 y6 y7
  go_enter Tryz.func53, Tryz.ntmps53
  go_wp2_with fail
  refine (c_validGate g A n c C m d _ HV.out HN.out (HA.out _ B) HM.out (HC.out _ B)).mono ?_
  rintro e w1 ⟨rfl, hq⟩
  clear y0 y1 y2 y3 y4 y5 y6 y7 l0
  replace k0 := k0.to hq; replace k3 := k3.to hq; replace B := Bl.then B hq; clear hq
  have y0 := k0.cell 0; have y1 := k0.cell 1; have y2 := k0.cell 2; have y3 := k0.cell 3; have y4 := k0.cell 4; have y5 := k0.cell 5; have y6 := k0.cell 6; have y7 := k0.cell 7; have l0 := k0.lt; simp only [List.getElem?_toArray, List.getElem?_cons_zero, List.getElem?_cons_succ] at y0 y1 y2 y3 y4 y5 y6 y7
  go_wp2_with fail
  refine (c_inRange _ _ _ _).mono ?_
  rintro e w' ⟨rfl, rfl⟩
  cases hin : inB now g.no 10000
  · have HZ : Hid (tickG g now = none) := Lib.hid (by rw [HT.out, hin]; rfl)
    clear hin
    clear y0 y1 y2 y3 y4 y5 y6 y7 l0
    have z0 := k3.cell 0; have z1 := k3.cell 1; have z2 := k3.cell 2; have z3 := k3.cell 3; have z4 := k3.cell 4; have z5 := k3.cell 5; have z6 := k3.cell 6; have z7 := k3.cell 7; have l3 := k3.lt; simp only [List.getElem?_toArray, List.getElem?_cons_zero, List.getElem?_cons_succ] at z0 z1 z2 z3 z4 z5 z6 z7
    have fz0 := k3.frozen 0; have fz1 := k3.frozen 1; have fz2 := k3.frozen 2; have fz3 := k3.frozen 3; have fz4 := k3.frozen 4; have fz5 := k3.frozen 5; have fz6 := k3.frozen 6; have fz7 := k3.frozen 7
    go_wp2
    clear z0 z1 z2 z3 z4 z5 z6 z7 l3 fz0 fz1 fz2 fz3 fz4 fz5 fz6 fz7
    obtain ⟨W6, e6, z6, hf6, hb6, hr6⟩ := put8 k3 (.int .i64 0) (.int .i64 0) (.int .i64 0) (.slice none 0 0) (.slice none 0 0) (.int .i64 0) (.int .i64 0) (.int .i64 0)
    rw [e6]
    replace B := hb6 B (by omega)
    replace k3 := z6
    clear e6 hf6 hb6 hr6 z6
    have z0 := k3.cell 0; have z1 := k3.cell 1; have z2 := k3.cell 2; have z3 := k3.cell 3; have z4 := k3.cell 4; have z5 := k3.cell 5; have z6 := k3.cell 6; have z7 := k3.cell 7; have l3 := k3.lt; simp only [List.getElem?_toArray, List.getElem?_cons_zero, List.getElem?_cons_succ] at z0 z1 z2 z3 z4 z5 z6 z7
    refine bodyPost_ret (v := .tuple #[.agg #[.int .i64 0, .int .i64 0, .int .i64 0, .slice none 0 0, .slice none 0 0, .int .i64 0, .int .i64 0, .int .i64 0], .bool false]) (by simp [results, Tryz.results53, go_sem, z0, z1, z2, z3, z4, z5, z6, z7]) rfl ?_
    exact ⟨B, gt0, none, 0, 0, none, 0, 0, false, rfl, HZ.out, rfl, Nat.le_refl _, Fr.none _, TM.nil _ _, rfl, Nat.le_refl _, Fr.none _, TK.nil _ _⟩
  · have HZ : Hid (tickG g now = some { g with tb := exM g.tb now g.ho n, cs := dropC g.cs (goneP g.tb now g.ho n), no := now }) := Lib.hid (by rw [HT.out, hin]; rfl)
    have HI := Lib.hid hin
    clear hin
    go_wp2_with fail
    refine (c_tick g now A n c C m d _ HV.out HI.out HN.out (HA.out _ B) HM.out (HC.out _ B)).mono ?_
    have hl3 := k3.lt
    rintro e w2 ⟨A2, n2, e2, C', m', d', rfl, hc9, hmd, hl2, hF2', hTab, hlm, hFc, hCon, hq⟩
    have HL := Lib.hid (And.intro hl2 hlm)
    replace hF2' := hF2'.low (c := w.heap.size + 2) (by omega)
    replace hFc := hFc.low (c := w.heap.size + 2) (by omega)
    clear hl2 hlm
    clear y0 y1 y2 y3 y4 y5 y6 y7 l0
    replace k0 := k0.to hq; replace k3 := k3.to hq; replace B := Bl.then B hq; clear hq
    have z0 := k3.cell 0; have z1 := k3.cell 1; have z2 := k3.cell 2; have z3 := k3.cell 3; have z4 := k3.cell 4; have z5 := k3.cell 5; have z6 := k3.cell 6; have z7 := k3.cell 7; have l3 := k3.lt; simp only [List.getElem?_toArray, List.getElem?_cons_zero, List.getElem?_cons_succ] at z0 z1 z2 z3 z4 z5 z6 z7
    have fz0 := k3.frozen 0; have fz1 := k3.frozen 1; have fz2 := k3.frozen 2; have fz3 := k3.frozen 3; have fz4 := k3.frozen 4; have fz5 := k3.frozen 5; have fz6 := k3.frozen 6; have fz7 := k3.frozen 7
    go_wp2
    clear z0 z1 z2 z3 z4 z5 z6 z7 l3 fz0 fz1 fz2 fz3 fz4 fz5 fz6 fz7
    obtain ⟨W6, e6, z6, hf6, hb6, hr6⟩ := put8 k3 (.int .i64 g.ba) (.int .i64 g.bi) (.int .i64 g.ou) (.slice A2 n2 e2) (.slice C' m' d') (.int .i64 g.fi) (.int .i64 g.ho) (.int .i64 now)
    rw [e6]
    replace B := hb6 B (by omega)
    replace hTab := hr6.1 hTab hF2' (by omega)
    replace hCon := hr6.1 hCon hFc (by omega)
    replace k3 := z6
    clear e6 hf6 hb6 hr6 z6
    have z0 := k3.cell 0; have z1 := k3.cell 1; have z2 := k3.cell 2; have z3 := k3.cell 3; have z4 := k3.cell 4; have z5 := k3.cell 5; have z6 := k3.cell 6; have z7 := k3.cell 7; have l3 := k3.lt; simp only [List.getElem?_toArray, List.getElem?_cons_zero, List.getElem?_cons_succ] at z0 z1 z2 z3 z4 z5 z6 z7
    refine bodyPost_ret (v := .tuple #[.agg #[.int .i64 g.ba, .int .i64 g.bi, .int .i64 g.ou, .slice A2 n2 e2, .slice C' m' d', .int .i64 g.fi, .int .i64 g.ho, .int .i64 now], .bool true]) (by simp [results, Tryz.results53, go_sem, z0, z1, z2, z3, z4, z5, z6, z7]) rfl ?_
    exact ⟨B, { g with tb := exM g.tb now g.ho n, cs := dropC g.cs (goneP g.tb now g.ho n), no := now }, A2, n2, e2, C', m', d', true, rfl, HZ.out, HL.out.1, hc9, hF2'.low (by omega), hTab, HL.out.2, hmd, hFc.low (by omega), hCon⟩
end Go.Proofs.YtjflfhjnbccpmaaGreatDoor
namespace Go.Proofs.YtjflfhjnbccpmaaGreatDoor
section
variable {H : Type} {enc : TypeId × Value → H}
theorem wrap {a : Assume} {C : Checked} {os : Os} {f : FuncId} {fn : Func} {s : ChangeSpec} {conds : List PathCond} {apart fresh handsOn again : Bool} {X : World → Array Value → Prop}
    (hX : ∀ (w w' : World) (args : Array Value), w.heap = w'.heap → X w args → X w' args)
    (own : ownKnob C.prog.godebug = none) (started : os.Started) (noInit : C.prog.inits.idxOf? f = none) (hfn : C.prog.funcs[f]? = some fn)
    (witness : ∃ (w : World) (tape : Tape) (i : Input), w.os = os ∧ (w.forCall tape i).Shaped C.prog ∧ i.vars = [] ∧ Input.okWide C.prog (w.forCall tape i) .any w.heap.size f i ∧
      ((s.pre enc C.prog fn conds apart (w.forCall tape i).memory i.args ∧ X (w.forCall tape i).memory i.args) ∧ sizedMet enc C.prog fn (OpenSpec.ofChange s) apart (w.forCall tape i).memory i.args) ∧ a.holds C.prog (lone (Frame.enter C.prog f i.args .normal) [] (w.forCall tape i)))
    (contract : ∀ (W : World) (base : Nat) (args : Array Value) (ds gs : List (DataW H)) (before : List MemPlace),
      (∀ (j : Nat) t v, fn.params[j]? = some t → args[j]? = some v → Value.okWide C.prog W .any base t v) →
      DataW.Whole enc C.prog fn.params.toList s.vars apart W args.toList ds gs before →
      X W args → W.ShapedOpen C.prog →
      Calls C.prog f args W fun e W' => ∃ v, e = .returned v ∧ s.post enc C.prog fn apart fresh handsOn again W args v W') :
    ReturnsInHanded a C os f .any (fun w args => (s.pre enc C.prog fn conds apart w args ∧ X w args) ∧ sizedMet enc C.prog fn (OpenSpec.ofChange s) apart w args) (s.post enc C.prog fn apart fresh handsOn again) := by
  refine returnsInHanded_of_calls own started noInit witness ?_
  intro w tape i _ hsh _ hok hpre _
  obtain ⟨_, _, _, fn', hfn', _, _, _, _, hval⟩ := hok
  have e : fn' = fn := Option.some.inj (hfn'.symm.trans hfn)
  subst e
  obtain ⟨⟨⟨ds, gs, before, hw, _⟩, hx⟩, _⟩ := hpre
  have hw' := DataW.Whole.of_heap (w' := w.forCall tape i) (by rfl) hw
  refine (contract (w.forCall tape i) w.heap.size i.args ds gs before hval hw' (hX _ _ _ (by rfl) hx) hsh).mono fun e W' ⟨v, he, hp⟩ => ?_
  subst he
  exact ChangeSpec.post_blind hp
end
section
open Go.ChangeShapes Go.WideShapes Go.ChangeAt Go.RowKit
variable {H : Type} {enc : TypeId × Value → H} {w : World} {base : Nat} {spare : Nat → Bool} {held : Bool}
end
/-- The table, as the row's condition has it. -/
theorem tab_of {W : World} {rest : List (String × DataW Unit)} (h : laidMet Tryz.prog (("internal/strconv.uint64pow10", Lib.tabData .u64 Lib.pow10Tab) :: rest) W) : TabE W :=
  Lib.tabIs_of_head (g := 3) (by kernel_rfl : Tryz.prog.globalNamed "internal/strconv.uint64pow10" = some 3) (by kernel_rfl) Tryz.underlying164 Tryz.underlying138 (by kernel_rfl) (by kernel_rfl) h
end Go.Proofs.YtjflfhjnbccpmaaGreatDoor
namespace Go.Proofs
open Go.Shelf
def Tryz.lays145_ren : Go.Shelf.Ren := ⟨fun | 145 => 61 | 220 => 98 | 219 => 92 | 217 => 153 | 225 => 154 | 224 => 155 | 267 => 156 | 266 => 180 | 314 => 181 | n => n, fun | 9 => 9 | 4 => 4 | 59 => 90 | 3 => 3 | 5 => 5 | 46 => 151 | 146 => 174 | 51 => 165 | n => n, fun | 1 => 0 | n => n⟩
theorem Tryz.lays145 : Go.Proofs.Lays.n145 Tryz.prog Tryz.lays145_ren := {
  mixed := by kernel_rfl
  f145 := Tryz.func61.trans (congrArg some (by kernel_rfl))
  f217 := Tryz.func153.trans (congrArg some (by kernel_rfl))
  f219 := Tryz.func92.trans (congrArg some (by kernel_rfl))
  f220 := Tryz.func98.trans (congrArg some (by kernel_rfl))
  f224 := Tryz.func155.trans (congrArg some (by kernel_rfl))
  f225 := Tryz.func154.trans (congrArg some (by kernel_rfl))
  f266 := Tryz.func180.trans (congrArg some (by kernel_rfl))
  f267 := Tryz.func156.trans (congrArg some (by kernel_rfl))
  f314 := Tryz.func181.trans (congrArg some (by kernel_rfl))
  t3 := Tryz.underlying3
  a3 := Tryz.isAgg3
  z3 := Tryz.sizeOf3
  v3 := Tryz.zeroValue3
  t4 := Tryz.underlying4
  a4 := Tryz.isAgg4
  z4 := Tryz.sizeOf4
  v4 := Tryz.zeroValue4
  t5 := Tryz.underlying5
  a5 := Tryz.isAgg5
  z5 := Tryz.sizeOf5
  v5 := Tryz.zeroValue5
  t9 := Tryz.underlying9
  a9 := Tryz.isAgg9
  z9 := Tryz.sizeOf9
  v9 := Tryz.zeroValue9
  t46 := Tryz.underlying151
  a46 := Tryz.isAgg151
  z46 := Tryz.sizeOf151
  v46 := Tryz.zeroValue151
  t51 := Tryz.underlying165
  a51 := Tryz.isAgg165
  z51 := Tryz.sizeOf165
  v51 := Tryz.zeroValue165
  t59 := Tryz.underlying90
  a59 := Tryz.isAgg90
  z59 := Tryz.sizeOf90
  v59 := Tryz.zeroValue90
  t146 := Tryz.underlying174
  a146 := Tryz.isAgg174
  z146 := Tryz.sizeOf174
  v146 := Tryz.zeroValue174
  g1 := by kernel_rfl }
open Go.RowKit Go.Lib in
/-- strings.Cut: "Cut slices s around the first instance of sep, returning the text before and after sep. The found result reports whether sep appears in s. If sep does not appear in s, cut returns s, "", false.": IT RETURNS 'Lib.cut s sep'; the world is as it was but for the count of draws. (LAID: no walk: one application.) -/
theorem Tryz.strings_Cut (s sep : ByteArray) (m : Int) (w : World) (hs : s.size < 4294967281) (hm : w.cell? ⟨0, 0, none⟩ = some (.int .i64 m)) :
    Calls Tryz.prog 61 #[.string s, .string sep] w fun e w' => e = .returned (.tuple #[.string ⟨(Lib.cut s.data.toList sep.data.toList).1.toArray⟩, .string ⟨(Lib.cut s.data.toList sep.data.toList).2.1.toArray⟩, .bool (Lib.cut s.data.toList sep.data.toList).2.2]) ∧ ∃ n, w' = w.drewN n := Any.strings_Cut Tryz.lays145 s sep m w hs hm
end Go.Proofs
namespace Go.Proofs.YtjflfhjnbccpmaaGreatDoor
open Go.RowKit
structure EnvP (w : World) : Prop where
  tab : TabE w
  mx : ∃ m, w.cell? ⟨0, 0, none⟩ = some (.int .i64 m)
  es : ∃ tp p, w.var? Tryz.prog "strconv.ErrSyntax" = some #[.iface tp p]
  er : ∃ tp p, w.var? Tryz.prog "strconv.ErrRange" = some #[.iface tp p]
theorem EnvP.to {w w' : World} (h : EnvP w) (hb : Below w.heap.size w w') : EnvP w' := by
  obtain ⟨h1, ⟨m, h2⟩, ⟨a, b, h3⟩, ⟨c, d, h4⟩⟩ := h
  exact ⟨h1.to hb, ⟨m, cell_keep h2 hb⟩, ⟨a, b, var_to h3 hb⟩, ⟨c, d, var_to h4 hb⟩⟩
theorem star : "*" ++ "errors.errorString" = "*errors.errorString" := by decide
theorem row_err (u : TypeId) (h : Tryz.prog.typeName? 3 u = some "*errors.errorString") : u = 178 :=
  typeName_ptr_named (nm := "errors.errorString") (by rw [star]; kernel_rfl) (by kernel_rfl) (by decide) u (by rw [star]; exact h)
theorem c_Cut (s : ByteArray) (c : UInt8) (w : World) (hs : s.size ≤ 4000000000) (hE : EnvP w) :
    Calls Tryz.prog 61 #[.string s, .string ⟨#[c]⟩] w fun e w' => Below w.heap.size w w' ∧ match cutc s.data.toList c with
      | some (x, y) => e = .returned (.tuple #[.string ⟨x.toArray⟩, .string ⟨y.toArray⟩, .bool true])
      | none => e = .returned (.tuple #[.string s, .string ⟨#[]⟩, .bool false]) := by
  obtain ⟨m, hm⟩ := hE.mx
  refine (Tryz.strings_Cut s ⟨#[c]⟩ m w (by omega) hm).mono ?_
  rintro e w' ⟨rfl, n, rfl⟩
  refine ⟨Bl.of_drewN w n, ?_⟩
  rw [show (⟨#[c]⟩ : ByteArray).data.toList = [c] from rfl]
  cases hc : cutc s.data.toList c with
  | none => rw [cut_none hc]
  | some p => obtain ⟨x, y⟩ := p; rw [cut_some hc]
end Go.Proofs.YtjflfhjnbccpmaaGreatDoor
namespace Go.Proofs.YtjflfhjnbccpmaaGreatDoor
open Go.RowKit
theorem run_byt (s : ByteArray) (k : Nat) (hk : k < s.size) (w : World) : (Instr.index 9 (.string s) (.int .i64 (k : Int))).run Tryz.prog w = .ok (.int .u8 (byt s k)) w := by
  rw [run_index_string w _ s .i64 k Tryz.underlying9, dif_pos ⟨by omega, by omega⟩]
  congr 2
  unfold byt
  have hk' : k < s.data.toList.length := by rw [← size_list]; exact hk
  rw [List.getElem?_eq_getElem hk', Option.getD_some]
  simp [ByteArray.getElem_eq_getElem_data]
end Go.Proofs.YtjflfhjnbccpmaaGreatDoor
namespace Go.Proofs.YtjflfhjnbccpmaaGreatDoor
open Go.RowKit
theorem bytes_neq {a b : ByteArray} (h : a.data.toList ≠ b.data.toList) : (a.toList == b.toList) = false := by
  rw [ByteArray.toList_eq, ByteArray.toList_eq, beq_eq_false_iff_ne]; exact h
theorem bytes_eq {a b : ByteArray} (h : a.data.toList = b.data.toList) : a = b := by
  apply ByteArray.ext
  exact Array.toList_inj.1 h
theorem numV_len {s : List UInt8} (h : s = [] ∨ 5 < s.length) : numV s = -1 := by
  unfold numV
  rw [if_neg]
  simp only [Bool.and_eq_true, decide_eq_true_eq]
  rcases h with rfl | h
  · simp
  · omega
theorem byt_mem {s : ByteArray} {k : Nat} (h : k < s.size) : ∃ c, s.data.toList[k]? = some c ∧ byt s k = (c.toNat : Int) ∧ c ∈ s.data.toList := by
  rw [size_list] at h
  refine ⟨s.data.toList[k], List.getElem?_eq_getElem h, ?_, List.getElem_mem h⟩
  unfold byt
  rw [List.getElem?_eq_getElem h, Option.getD_some]
set_option maxHeartbeats 1600000 in
theorem c_parseInt (s : ByteArray) (w : World) (hs : s.size ≤ 4000000000) :
    Calls Tryz.prog 52 #[.string s] w fun e w' => e = .returned (.int .i64 (numV s.data.toList)) ∧ Below w.heap.size w w' := by
  by_cases h0 : s.size = 0
  · have hn : Hid (numV s.data.toList = -1) := numV_len (.inl (List.eq_nil_of_length_eq_zero (by rw [← size_list]; exact h0)))
    go_enter Tryz.func52, Tryz.ntmps52
    go_wp2
    go_ret
    exact ⟨by rw [hn.out]; rfl, Below.refl _ _⟩
  by_cases h5 : 5 < s.size
  · have hn : Hid (numV s.data.toList = -1) := numV_len (.inr (by rw [← size_list]; exact h5))
    have t0 : ((s.size : Int) == 0) = false := by rw [beq_eq_false_iff_ne]; omega
    have t1 : decide ((5 : Int) < s.size) = true := by rw [decide_eq_true_eq]; omega
    go_enter Tryz.func52, Tryz.ntmps52
    go_wp2
    go_ret
    exact ⟨by rw [hn.out]; rfl, Below.refl _ _⟩
  have t0 : ((s.size : Int) == 0) = false := by rw [beq_eq_false_iff_ne]; omega
  have t1 : decide ((5 : Int) < s.size) = false := by rw [decide_eq_false_iff_not]; omega
  go_enter Tryz.func52, Tryz.ntmps52
  go_wp2
  go_loop [3, 4] (fun n i => ∃ k : Nat, k ≤ s.size ∧ i = .int .i64 k ∧ n = .int .i64 (valL (s.data.toList.take k)) ∧ Hid ((s.data.toList.take k).all isDig = true)) (fun _ i => s.size - (intOf i).toNat)
  case atStart => exact ⟨0, Nat.zero_le _, rfl, rfl, rfl⟩
  case round =>
    obtain ⟨k, hk, rfl, rfl, hD⟩ := hrel
    by_cases hlt : k < s.size
    · obtain ⟨c, hc1, hc2, hc3⟩ := byt_mem hlt
      have hix := run_byt s k hlt
      have hb := valL_lt hD.out (by rw [List.length_take]; omega)
      have ht : s.data.toList.take (k + 1) = s.data.toList.take k ++ [c] := by rw [List.take_add_one, hc1]; rfl
      have hvl : valL (s.data.toList.take (k + 1)) = stepD (valL (s.data.toList.take k)) c := by rw [ht, valL_snoc]
      have HT := Lib.hid ht
      have HC := Lib.hid hc3
      have i2 : (0 : Int) ≤ k ∧ (k : Int) < s.size := by omega
      have hcl := UInt8.toNat_lt c
      rw [hc2] at hix
      have e1 : IntKind.i64.wrap (c.toNat : Int) = c.toNat := IntWalk.i64_in _ (by omega)
      generalize hv : valL (s.data.toList.take k) = v at hb hvl
      have HVL := Lib.hid hvl
      clear ht hc1 hc2 hc3 hvl hv
      cases hd : inB (c.toNat : Int) 48 57
      · have hn : Hid (numV s.data.toList = -1) := numV_no HC.out (by
          cases hh : isDig c
          · rfl
          · have := isDig_iff.1 hh
            rw [inB_mk (by omega) (by omega)] at hd; cases hd)
        go_wp2_with fail
        refine (c_inRange _ _ _ _).mono ?_
        rw [hd]
        rintro e w' ⟨rfl, rfl⟩
        clear hd
        go_wp2
        go_ret
        exact ⟨by rw [hn.out]; rfl, Below.refl _ _⟩
      · have hdd := inB_true hd
        go_wp2_with fail
        refine (c_inRange _ _ _ _).mono ?_
        rw [hd]
        rintro e w' ⟨rfl, rfl⟩
        have HDD := Lib.hid hdd
        clear hd
        go_wp2
        go_round
        case rel =>
          refine ⟨k + 1, by omega, by go_num, ?_, ?_⟩
          · rw [HVL.out]
            unfold stepD
            have := HDD.out
            congr 1
            omega
          · rw [HT.out, List.all_append, hD.out]
            have := HDD.out
            simp only [List.all_cons, List.all_nil, Bool.and_true, Bool.true_and]
            exact isDig_iff.2 (by omega)
        case measure => simp [intOf]; omega
    · obtain rfl : k = s.size := by omega
      have hD2 := hD.out
      rw [show s.data.toList.take s.size = s.data.toList by rw [size_list]; exact List.take_length] at hD2
      rw [show s.data.toList.take s.size = s.data.toList by rw [size_list]; exact List.take_length]
      have hl : s.data.toList.length ≤ 5 := by rw [← size_list]; omega
      have hne : s.data.toList ≠ [] := fun e => h0 (by rw [size_list, e]; rfl)
      have hb := valL_lt hD2 hl
      have hnv : numV s.data.toList = if Lib.decDigits (valL s.data.toList) = s.data.toList then (valL s.data.toList : Int) else -1 := by
        unfold numV
        by_cases hx : Lib.decDigits (valL s.data.toList) = s.data.toList
        · rw [if_pos hx, if_pos (by simp only [Bool.and_eq_true, decide_eq_true_eq]; exact ⟨hl, hne, hD2, hx⟩)]
        · rw [if_neg hx, if_neg (by simp only [Bool.and_eq_true, decide_eq_true_eq]; exact fun h => hx h.2.2.2)]
      have hdl : (dec (valL s.data.toList : Int)).data.toList = Lib.decDigits (valL s.data.toList) := by rw [dec_list]; unfold dl; rw [Int.toNat_natCast]
      generalize valL s.data.toList = v at hb hnv hdl
      go_wp2_with fail
      refine (c_dec _ _ (by omega) (by omega)).mono ?_
      rintro e w1 ⟨rfl, hq⟩
      generalize dec (v : Int) = D at hdl
      by_cases hx : Lib.decDigits v = s.data.toList
      · rw [if_pos hx] at hnv
        obtain rfl : D = s := bytes_eq (hdl.trans hx)
        have HN := Lib.hid hnv
        clear hnv hdl hx hne hl hD2
        go_wp2
        go_ret
        exact ⟨by rw [HN.out]; rfl, hq⟩
      · rw [if_neg hx] at hnv
        have tn := bytes_neq (a := D) (b := s) (by rw [hdl]; exact hx)
        have HN := Lib.hid hnv
        clear hnv hdl hx hne hl hD2
        go_wp2
        go_ret
        exact ⟨by rw [HN.out]; rfl, hq⟩
set_option maxHeartbeats 1600000 in
theorem c_number (s : ByteArray) (w : World) (hs : s.size ≤ 4000000000) (hE : EnvP w) :
    Calls Tryz.prog 26 #[.string s] w fun e w' => ∃ n : Int, e = .returned (.tuple #[.int .i64 n, .bool (decide (0 ≤ numV s.data.toList))]) ∧ (0 ≤ numV s.data.toList → n = numV s.data.toList) ∧ -9223372036854775808 ≤ n ∧ n ≤ 9223372036854775807 ∧ Below w.heap.size w w' := by
  rcases ha : Lib.atoiAll s.data.toList with v | _ | _
  · have hb := Lib.atoiAll_bounds ha
    have hat := Lib.hid (Tryz.strconv_Atoi_ok s (by omega) v ha w)
    have HT := Lib.hid hE.tab
    have hi : Hid (0 ≤ numV s.data.toList → v = numV s.data.toList) := fun h => by have := atoi_num h; rw [ha] at this; injection this
    clear hE
    by_cases hv0 : v < 0
    · have hn : Hid (¬ 0 ≤ numV s.data.toList) := fun h => by have := hi.out h; omega
      have hd : Hid (decide (0 ≤ numV s.data.toList) = false) := by rw [Hid, decide_eq_false_iff_not]; exact hn.out
      have t0 : decide (0 ≤ v) = false := by rw [decide_eq_false_iff_not]; omega
      clear ha
      go_enter Tryz.func26, Tryz.ntmps26
      go_wp2_with fail
      refine hat.out.mono ?_
      rintro e w1 ⟨rfl, hw⟩
      have hq : Below w.heap.size w w1 := by rcases hw with rfl | ⟨t, rfl⟩; exact Below.refl _ _; exact Lib.bytesWorld_below w _ t
      go_wp2
      go_ret2
      exact ⟨v, by rw [hd.out]; rfl, hi.out, hb.1, hb.2, hq⟩
    have t0 : decide (0 ≤ v) = true := by rw [decide_eq_true_eq]; omega
    by_cases h5 : s.size ≤ 5
    · have t1 : decide ((s.size : Int) ≤ 5) = true := by rw [decide_eq_true_eq]; omega
      have hdl := dec_list v
      have hnv : 0 ≤ numV s.data.toList ↔ dl v = s.data.toList := by
        constructor
        · intro h; rw [hi.out h]; exact (numV_some h).1
        · intro h; rw [num_of_atoi (by omega) (by rw [← size_list]; exact h5) h]; omega
      have HNV := Lib.hid hnv
      clear ha hnv
      go_enter Tryz.func26, Tryz.ntmps26
      go_wp2_with fail
      refine hat.out.mono ?_
      rintro e w1 ⟨rfl, hw⟩
      have hq : Below w.heap.size w w1 := by rcases hw with rfl | ⟨t, rfl⟩; exact Below.refl _ _; exact Lib.bytesWorld_below w _ t
      clear hw
      go_wp2_with fail
      refine (c_Itoa v _ (by omega) (by omega) (HT.out.to hq)).mono ?_
      generalize dec v = D at hdl
      rintro e w2 ⟨rfl, hq2⟩
      by_cases hx : dl v = s.data.toList
      · obtain rfl : D = s := bytes_eq (hdl.trans hx)
        have hd : Hid (decide (0 ≤ numV D.data.toList) = true) := by rw [Hid, decide_eq_true_eq]; exact HNV.out.2 hx
        clear hdl hx
        go_wp2
        go_ret2
        exact ⟨v, by rw [hd.out]; first | rfl | simp, hi.out, hb.1, hb.2, Bl.then hq hq2⟩
      · have tn := bytes_neq (a := D) (b := s) (by rw [hdl]; exact hx)
        have hd : Hid (decide (0 ≤ numV s.data.toList) = false) := by rw [Hid, decide_eq_false_iff_not]; exact fun h => hx (HNV.out.1 h)
        clear hdl hx
        go_wp2
        go_ret2
        exact ⟨v, by rw [hd.out]; rfl, hi.out, hb.1, hb.2, Bl.then hq hq2⟩
    · have t1 : decide ((s.size : Int) ≤ 5) = false := by rw [decide_eq_false_iff_not]; omega
      have hn : Hid (numV s.data.toList = -1) := numV_len (.inr (by rw [← size_list]; omega))
      have hd : Hid (decide (0 ≤ numV s.data.toList) = false) := by rw [Hid, decide_eq_false_iff_not, hn.out]; omega
      clear ha
      go_enter Tryz.func26, Tryz.ntmps26
      go_wp2_with fail
      refine hat.out.mono ?_
      rintro e w1 ⟨rfl, hw⟩
      have hq : Below w.heap.size w w1 := by rcases hw with rfl | ⟨t, rfl⟩; exact Below.refl _ _; exact Lib.bytesWorld_below w _ t
      clear hw
      go_wp2
      go_ret2
      exact ⟨v, by rw [hd.out]; rfl, hi.out, hb.1, hb.2, hq⟩
  · have hn : numV s.data.toList < 0 := Int.lt_of_not_ge fun h => by rw [atoi_num h] at ha; cases ha
    have hd : Hid (decide (0 ≤ numV s.data.toList) = false) := by rw [Hid, decide_eq_false_iff_not]; omega
    have HN := Lib.hid hn
    obtain ⟨tp, p, hv⟩ := hE.es
    have hat := Lib.hid (Tryz.strconv_Atoi_syntax_var s (by omega) (fun v e => by rw [ha] at e; cases e) (fun e => by rw [ha] at e; cases e) tp p w hv)
    clear ha hn hv hE
    go_enter Tryz.func26, Tryz.ntmps26
    go_wp2_with fail
    refine hat.out.mono ?_
    rintro e w1 ⟨N, rfl, -, -, hq⟩
    go_wp2
    go_ret2
    exact ⟨0, by rw [hd.out]; rfl, fun h => absurd h (by have := HN.out; omega), by omega, by omega, hq⟩
  · have hn : numV s.data.toList < 0 := Int.lt_of_not_ge fun h => by rw [atoi_num h] at ha; cases ha
    have hd : Hid (decide (0 ≤ numV s.data.toList) = false) := by rw [Hid, decide_eq_false_iff_not]; omega
    have HN := Lib.hid hn
    obtain ⟨tp, p, hv⟩ := hE.er
    have hat := Lib.hid (Tryz.strconv_Atoi_range_var s (by omega) ha tp p w hv)
    have hsat : -9223372036854775808 ≤ Lib.atoiSat s.data.toList ∧ Lib.atoiSat s.data.toList ≤ 9223372036854775807 := by unfold Lib.atoiSat; split <;> omega
    generalize Lib.atoiSat s.data.toList = q at hat hsat
    clear ha hn hv hE
    go_enter Tryz.func26, Tryz.ntmps26
    go_wp2_with fail
    refine hat.out.mono ?_
    rintro e w1 ⟨N, rfl, -, -, hq⟩
    go_wp2
    go_ret2
    exact ⟨q, by rw [hd.out]; rfl, fun h => absurd h (by have := HN.out; omega), hsat.1, hsat.2, hq⟩
end Go.Proofs.YtjflfhjnbccpmaaGreatDoor
namespace Go.Proofs.YtjflfhjnbccpmaaGreatDoor
open Go.RowKit
/-- A row of the call's own that reads as strings. -/
def SO (w : World) (base : Nat) (v : Value) (xs : List ByteArray) : Prop := w.ownsRow base 9 1 v xs.length (xs.map Value.string)
theorem SO.to {w w' : World} {base : Nat} {v : Value} {xs : List ByteArray} (h : SO w base v xs) (hb : Below w.heap.size w w') : SO w' base v xs := own_to h hb (Nat.le_refl _)
theorem SO.alloc {w : World} {base : Nat} {v : Value} {xs : List ByteArray} (h : SO w base v xs) (o : Obj) : SO (w.alloc o) base v xs := World.ownsRow.alloc h o
theorem lit_str (w : World) (s : ByteArray) (t : TypeId) : Rd (w.alloc (.cells #[.string s] t)) (some ⟨w.heap.size, 0, none⟩) [.string s] := by
  have := (Blk.new w t #[.string s]).rd
  simpa using this
theorem str_info : (Tryz.prog.info? 9).map (fun i => (i.zero, i.size, i.bytes)) = some (some (.string ⟨#[]⟩), 1, 16) := by kernel_rfl
end Go.Proofs.YtjflfhjnbccpmaaGreatDoor
namespace Go.Proofs.YtjflfhjnbccpmaaGreatDoor
open Go.RowKit
theorem two_parts {l x y : List UInt8} {c : UInt8} (h : spl l c = [x, y]) : cutc l c = some (x, y) ∧ c ∉ y := by
  obtain ⟨x', y', h1, h2⟩ := spl_two (l := l) (c := c) (by rw [h]; simp)
  rw [h] at h2
  injection h2 with h3 h4
  subst h3
  by_cases hc : c ∈ y'
  · have : ∃ a b, cutc y' c = some (a, b) := by
      cases hh : cutc y' c with
      | none => exact absurd hc (cutc_none_iff.1 hh)
      | some p => exact ⟨p.1, p.2, rfl⟩
    obtain ⟨a, b, hab⟩ := this
    obtain ⟨e1, e2⟩ := cutc_eq hab
    rw [e1, spl_app e2] at h4
    have := congrArg List.length h4
    have h5 := spl_pos b c
    simp only [List.length_cons, List.length_nil] at this
    omega
  · rw [spl_none hc] at h4
    injection h4 with h5 _
    subst h5
    exact ⟨h1, hc⟩
theorem not_two {l : List UInt8} {c : UInt8} (h : (spl l c).length ≠ 2) : cutc l c = none ∨ ∃ x y, cutc l c = some (x, y) ∧ c ∈ y := by
  cases hh : cutc l c with
  | none => exact .inl rfl
  | some p =>
    obtain ⟨x, y⟩ := p
    refine .inr ⟨x, y, rfl, Classical.byContradiction fun hc => h ?_⟩
    obtain ⟨e1, e2⟩ := cutc_eq hh
    rw [e1, spl_app e2, spl_none hc]; rfl
theorem addrV_not {l : List UInt8} (h : (spl l 46).length ≠ 2) : addrV l = -1 := by
  unfold addrV
  rcases not_two h with h1 | ⟨x, y, h1, h2⟩
  · rw [h1]
  · rw [h1]
    simp only
    rw [numV_no h2 (by decide), if_neg (by simp [inB])]
theorem parE_not {l : List UInt8} (h : (spl l 58).length ≠ 2) : parE l = none := by
  unfold parE
  rcases not_two h with h1 | ⟨x, y, h1, h2⟩
  · rw [h1]
  · rw [h1]
    simp only
    rw [numV_no h2 (by decide), if_neg (by simp [inB])]
theorem ext_list (s : ByteArray) (a b : Nat) : (s.extract a b).data.toList = (s.data.toList.take b).drop a := by
  rw [ByteArray.data_extract, Array.toList_extract, List.extract_eq_take_drop, List.drop_take]
set_option maxHeartbeats 1600000 in
theorem c_splitAt (s : ByteArray) (c : UInt8) (w : World) (hs : s.size ≤ 4000000000) :
    Calls Tryz.prog 32 #[.string s, .int .u8 (c.toNat : Int)] w fun e w' => ∃ (v : Value) (xs : List ByteArray), e = .returned v ∧ SO w' w.heap.size v xs ∧ xs.map (·.data.toList) = spl s.data.toList c ∧ Below w.heap.size w w' := by
  have ho : SO (w.alloc (.cells #[] 9)) w.heap.size (.slice (some ⟨w.heap.size, 0, none⟩) 0 0) [] := World.ownsRow_made w #[] 0 (Nat.le_refl _) (by unfold maxLen; omega) (by simp)
  have B : Below w.heap.size w (w.alloc (.cells #[] 9)) := (Below.refl _ _).alloc (Nat.le_refl _) _
  go_enter Tryz.func32, Tryz.ntmps32
  go_wp2
  go_loopw [5, 6, 7] (fun v f i wr => ∃ (k fr : Nat) (v' : Value) (xs : List ByteArray), k ≤ s.size ∧ fr ≤ k ∧ i = .int .i64 k ∧ f = .int .i64 fr ∧ v' = v ∧ xs.length ≤ k ∧
    Hid (xs.map (·.data.toList) ++ spl (s.data.toList.drop fr) c = spl s.data.toList c) ∧ Hid (c ∉ (s.data.toList.take k).drop fr) ∧ Hid (SO wr w.heap.size v' xs) ∧ Hid (Below w.heap.size w wr)) (fun _ _ i _ => s.size - (intOf i).toNat)
  case atStart => exact ⟨0, 0, _, [], Nat.zero_le _, Nat.le_refl _, rfl, rfl, rfl, Nat.le_refl _, rfl, by simp [Hid], ho, B⟩
  case round =>
    clear ho B
    obtain ⟨k, fr, v', xs, hk, hfr, rfl, rfl, rfl, hxl, HX, HC, HO, HB⟩ := hrel
    by_cases hlt : k < s.size
    · obtain ⟨b, hb1, hb2, -⟩ := byt_mem hlt
      have hix := run_byt s k hlt
      rw [hb2] at hix
      have i2 : (0 : Int) ≤ k ∧ (k : Int) < s.size := by omega
      have htk : (s.data.toList.take (k + 1)).drop fr = (s.data.toList.take k).drop fr ++ [b] := by
        rw [List.take_add_one, hb1, List.drop_append_of_le_length (by rw [List.length_take, ← size_list]; omega)]; rfl
      by_cases hbc : b = c
      · subst hbc
        have hdr : s.data.toList.drop fr = (s.data.toList.take k).drop fr ++ b :: s.data.toList.drop (k + 1) := by
          have h1 : s.data.toList = s.data.toList.take k ++ b :: s.data.toList.drop (k + 1) := by
            rw [List.getElem?_eq_some_iff] at hb1
            obtain ⟨hh, he⟩ := hb1
            rw [← he, ← List.drop_eq_getElem_cons, List.take_append_drop]
          conv => lhs; rw [h1]
          rw [List.drop_append_of_le_length (by rw [List.length_take, ← size_list]; omega)]
        have hx2 := HX.out
        rw [hdr, spl_app HC.out] at hx2
        have hxl2 : (s.extract fr k).data.toList = (s.data.toList.take k).drop fr := ext_list s fr k
        have HX2 : Hid ((xs ++ [s.extract fr k]).map (·.data.toList) ++ spl (s.data.toList.drop (k + 1)) b = spl s.data.toList b) := by
          rw [Hid, List.map_append, List.map_singleton, hxl2, List.append_assoc]; exact hx2
        have HC2 : Hid (b ∉ (s.data.toList.take (k + 1)).drop (k + 1)) := by
          rw [Hid, List.drop_eq_nil_of_le (by rw [List.length_take]; omega)]; simp
        clear hx2 hxl2 hdr htk hb1 hb2
        generalize hX : s.extract fr k = X at HX2
        have hL : Rd (wr.alloc (.cells #[.string X] 9)) (some ⟨wr.heap.size, 0, none⟩) [.string X] := lit_str wr X _
        have hoR : (wr.alloc (.cells #[.string X] 9)).ownsRow w.heap.size 9 1 v' xs.length (xs.map Value.string) := World.ownsRow.alloc HO.out _
        have hsb := HB.out.size
        have i3 : (0 : Int) ≤ fr ∧ (fr : Int) ≤ k ∧ (k : Int) ≤ s.size := by omega
        go_wp2_with (at_builtin; go_must (obtain ⟨i0, hi, hz0, hz1, hz2⟩ := info_parts str_info; refine wpList_append_rd _ rfl _ _ 23 rfl w.heap.size 9 i0 _ 1 16 Tryz.underlying23 hi hz0 hz1 hz2 rfl (by omega) _ xs.length (xs.map Value.string) rfl hoR (some ⟨wr.heap.size, 0, none⟩) 1 1 [.string X] rfl hL rfl (by intro u hu; obtain rfl := List.mem_singleton.1 hu; rfl) (by unfold maxLen; omega) (by omega) (by simp; omega) ?_; intro v1 w5 ho5 hg5 hat5; clear hi hz0 hz1 hz2 hat5))
        have B5 := (HB.out.alloc HB.out.size (.cells #[.string X] 9)).grown hg5 (by have := HB.out.size; simp; omega) (fun j hj => (World.ownsRow.lt hoR j hj).1)
        go_roundw
        case rel =>
          refine ⟨k + 1, k + 1, v1, xs ++ [X], by omega, Nat.le_refl _, by go_num, by go_num, rfl, by simp; omega, HX2.out, HC2.out, ?_, B5⟩
          show SO _ _ _ _
          unfold SO
          rw [List.length_append, List.map_append]
          exact ho5
        case measure => simp [intOf]; omega
      · have t1 : ((b.toNat : Int) == (c.toNat : Int)) = false := by
          rw [beq_eq_false_iff_ne]; exact fun e => hbc (UInt8.toNat_inj.1 (by omega))
        have t2 : (b.toNat == c.toNat) = false := by
          rw [beq_eq_false_iff_ne]; exact fun e => hbc (UInt8.toNat_inj.1 e)
        have HC2 : Hid (c ∉ (s.data.toList.take (k + 1)).drop fr) := by
          rw [Hid, htk, List.mem_append, not_or]
          have hcb : ¬ c = b := fun e => hbc e.symm
          exact ⟨HC.out, by simp [hcb]⟩
        have HXX := HX
        clear htk hb1 hb2 hbc
        go_wp2
        go_roundw
        case rel => exact ⟨k + 1, fr, v', xs, by omega, by omega, by go_num, rfl, rfl, by omega, HXX.out, HC2.out, HO.out, HB.out⟩
        case measure => simp [intOf]; omega
    · obtain rfl : k = s.size := by omega
      have hx2 := HX.out
      have hc2 := HC.out
      rw [show s.data.toList.take s.size = s.data.toList by rw [size_list]; exact List.take_length] at hc2
      rw [spl_none hc2] at hx2
      have hxl2 : (s.extract fr s.size).data.toList = s.data.toList.drop fr := by rw [ext_list, size_list, List.take_length]
      have HX2 : Hid ((xs ++ [s.extract fr s.size]).map (·.data.toList) = spl s.data.toList c) := by rw [Hid, List.map_append, List.map_singleton, hxl2]; exact hx2
      clear hx2 hc2 hxl2
      generalize hX : s.extract fr s.size = X at HX2
      have hL : Rd (wr.alloc (.cells #[.string X] 9)) (some ⟨wr.heap.size, 0, none⟩) [.string X] := lit_str wr X _
      have hoR : (wr.alloc (.cells #[.string X] 9)).ownsRow w.heap.size 9 1 v' xs.length (xs.map Value.string) := World.ownsRow.alloc HO.out _
      have hsb := HB.out.size
      have i3 : (0 : Int) ≤ fr ∧ (fr : Int) ≤ s.size := by omega
      go_wp2_with (at_builtin; go_must (obtain ⟨i0, hi, hz0, hz1, hz2⟩ := info_parts str_info; refine wpList_append_rd _ rfl _ _ 23 rfl w.heap.size 9 i0 _ 1 16 Tryz.underlying23 hi hz0 hz1 hz2 rfl (by omega) _ xs.length (xs.map Value.string) rfl hoR (some ⟨wr.heap.size, 0, none⟩) 1 1 [.string X] rfl hL rfl (by intro u hu; obtain rfl := List.mem_singleton.1 hu; rfl) (by unfold maxLen; omega) (by omega) (by simp; omega) ?_; intro v1 w5 ho5 hg5 hat5; clear hi hz0 hz1 hz2 hat5))
      have B5 := (HB.out.alloc HB.out.size (.cells #[.string X] 9)).grown hg5 (by have := HB.out.size; simp; omega) (fun j hj => (World.ownsRow.lt hoR j hj).1)
      go_ret
      refine ⟨v1, xs ++ [X], rfl, ?_, HX2.out, B5⟩
      unfold SO
      rw [List.length_append, List.map_append]
      exact ho5
end Go.Proofs.YtjflfhjnbccpmaaGreatDoor
namespace Go.Proofs.YtjflfhjnbccpmaaGreatDoor
open Go.RowKit
theorem arr_size (x : List UInt8) : (⟨x.toArray⟩ : ByteArray).size = x.length := by simp [ByteArray.size]
theorem arr_list (x : List UInt8) : (⟨x.toArray⟩ : ByteArray).data.toList = x := by simp
theorem cut_len {l x y : List UInt8} {c : UInt8} (h : cutc l c = some (x, y)) : x.length ≤ l.length ∧ y.length ≤ l.length := by
  rw [(cutc_eq h).1, List.length_append, List.length_cons]; omega
/-- What a reader of an end or a net hands back. -/
def parV : Option (Int × Int) → Value
  | some (a, p) => .tuple #[.agg #[.int .i64 a, .int .i64 p], .bool true]
  | none => .tuple #[.agg #[.int .i64 0, .int .i64 0], .bool false]
set_option maxHeartbeats 3200000 in
theorem c_readAddr (s : ByteArray) (w : World) (hs : s.size ≤ 4000000000) (hE : EnvP w) :
    Calls Tryz.prog 62 #[.string s] w fun e w' => ∃ n : Int, e = .returned (.tuple #[.int .i64 n, .bool (decide (0 ≤ addrV s.data.toList))]) ∧ (0 ≤ addrV s.data.toList → n = addrV s.data.toList) ∧ Below w.heap.size w w' := by
  cases hc : cutc s.data.toList 46 with
  | none =>
    have hv : addrV s.data.toList = -1 := by unfold addrV; rw [hc]
    have HD : Hid (decide (0 ≤ addrV s.data.toList) = false) := by rw [Hid, hv]; rfl
    have HN : Hid (¬ 0 ≤ addrV s.data.toList) := by rw [Hid, hv]; omega
    have J := Lib.hid (c_Cut s 46 w hs hE)
    rw [hc] at J
    clear hv hc
    go_enter Tryz.func62, Tryz.ntmps62
    go_wp2_with fail
    refine J.out.mono ?_
    rintro e w1 ⟨B, rfl⟩
    go_wp2_with fail
    refine (c_number s _ hs (hE.to B)).mono ?_
    generalize decide (0 ≤ numV s.data.toList) = q1
    rintro e w2 ⟨a, rfl, -, a1, a2, hq⟩
    replace B := Bl.then B hq
    clear hq
    go_wp2_with fail
    refine (c_number ⟨#[]⟩ _ (by decide) (hE.to B)).mono ?_
    generalize decide (0 ≤ numV (⟨#[]⟩ : ByteArray).data.toList) = q2
    rintro e w3 ⟨b, rfl, -, b1, b2, hq⟩
    replace B := Bl.then B hq
    clear hq
    go_wp2
    go_ret2
    exact ⟨_, by rw [HD.out]; rfl, fun h => absurd h (by have := HN.out; omega), B⟩
  | some p =>
    obtain ⟨x, y⟩ := p
    obtain ⟨l1, l2⟩ := cut_len hc
    rw [← size_list] at l1 l2
    have hv : addrV s.data.toList = if inB (numV x) 0 255 && inB (numV y) 0 255 then 256 * numV x + numV y else -1 := by unfold addrV; rw [hc]
    have HV := Lib.hid hv
    have J := Lib.hid (c_Cut s 46 w hs hE)
    rw [hc] at J
    clear hc hv
    have hx := numV_bd x
    have hy := numV_bd y
    go_enter Tryz.func62, Tryz.ntmps62
    go_wp2_with fail
    refine J.out.mono ?_
    rintro e w1 ⟨B, rfl⟩
    go_wp2_with fail
    refine (c_number ⟨x.toArray⟩ _ (by rw [arr_size]; omega) (hE.to B)).mono ?_
    rw [arr_list]
    rintro e w2 ⟨a, rfl, ha, a1, a2, hq⟩
    replace B := Bl.then B hq
    clear hq
    go_wp2_with fail
    refine (c_number ⟨y.toArray⟩ _ (by rw [arr_size]; omega) (hE.to B)).mono ?_
    rw [arr_list]
    rintro e w3 ⟨b, rfl, hb, b1, b2, hq⟩
    replace B := Bl.then B hq
    clear hq
    generalize numV x = u at ha hx HV
    generalize numV y = v at hb hy HV
    have HA := Lib.hid ha
    have HB := Lib.hid hb
    clear ha hb
    by_cases hu : 0 ≤ u
    · obtain rfl : a = u := HA.out hu
      have du : decide (0 ≤ a) = true := by rw [decide_eq_true_eq]; exact hu
      by_cases hw : 0 ≤ v
      · obtain rfl : b = v := HB.out hw
        have dv : decide (0 ≤ b) = true := by rw [decide_eq_true_eq]; exact hw
        by_cases h3 : a < 256
        · have d3 : decide (a < 256) = true := by rw [decide_eq_true_eq]; exact h3
          by_cases h4 : b < 256
          · have d4 : decide (b < 256) = true := by rw [decide_eq_true_eq]; exact h4
            have HW : Hid (addrV s.data.toList = 256 * a + b) := by rw [Hid, HV.out, if_pos (by rw [inB_mk hu (by omega), inB_mk hw (by omega)]; rfl)]
            have HD : Hid (decide (0 ≤ addrV s.data.toList) = true) := by rw [Hid, HW.out, decide_eq_true_eq]; omega
            go_wp2
            go_ret2
            exact ⟨_, by rw [HD.out]; rfl, fun _ => by rw [HW.out]; omega, B⟩
          · have d4 : decide (b < 256) = false := by rw [decide_eq_false_iff_not]; exact h4
            have HW : Hid (addrV s.data.toList = -1) := by rw [Hid, HV.out, if_neg (by simp only [Bool.and_eq_true]; exact fun h => by have := inB_true h.2; omega)]
            have HD : Hid (decide (0 ≤ addrV s.data.toList) = false) := by rw [Hid, HW.out]; rfl
            go_wp2
            go_ret2
            exact ⟨_, by rw [HD.out]; rfl, fun h => by rw [HW.out] at h; omega, B⟩
        · have d3 : decide (a < 256) = false := by rw [decide_eq_false_iff_not]; exact h3
          have HW : Hid (addrV s.data.toList = -1) := by rw [Hid, HV.out, if_neg (by simp only [Bool.and_eq_true]; exact fun h => by have := inB_true h.1; omega)]
          have HD : Hid (decide (0 ≤ addrV s.data.toList) = false) := by rw [Hid, HW.out]; rfl
          go_wp2
          go_ret2
          exact ⟨_, by rw [HD.out]; rfl, fun h => by rw [HW.out] at h; omega, B⟩
      · have dv : decide (0 ≤ v) = false := by rw [decide_eq_false_iff_not]; exact hw
        have HW : Hid (addrV s.data.toList = -1) := by rw [Hid, HV.out, if_neg (by simp only [Bool.and_eq_true]; exact fun h => by have := inB_true h.2; omega)]
        have HD : Hid (decide (0 ≤ addrV s.data.toList) = false) := by rw [Hid, HW.out]; rfl
        go_wp2
        go_ret2
        exact ⟨_, by rw [HD.out]; rfl, fun h => by rw [HW.out] at h; omega, B⟩
    · have du : decide (0 ≤ u) = false := by rw [decide_eq_false_iff_not]; exact hu
      have HW : Hid (addrV s.data.toList = -1) := by rw [Hid, HV.out, if_neg (by simp only [Bool.and_eq_true]; exact fun h => by have := inB_true h.1; omega)]
      have HD : Hid (decide (0 ≤ addrV s.data.toList) = false) := by rw [Hid, HW.out]; rfl
      go_wp2
      go_ret2
      exact ⟨_, by rw [HD.out]; rfl, fun h => by rw [HW.out] at h; omega, B⟩
theorem so_two {w : World} {base : Nat} {v : Value} {xs : List ByteArray} (h : SO w base v xs) (h2 : xs.length = 2) : ∃ g c x y, v = .slice (some ⟨g, 0, none⟩) 2 c ∧ xs = [x, y] ∧ base ≤ g ∧ g < w.heap.size ∧ w.cell? ⟨g, 0, none⟩ = some (.string x) ∧ w.cell? ⟨g, 1, none⟩ = some (.string y) := by
  unfold SO at h
  match xs, h2 with
  | [x, y], _ =>
    obtain ⟨g, cap, rfl, hb, hl⟩ := World.ownsRow.form h (by simp)
    refine ⟨g, cap, x, y, rfl, rfl, hb, hl, ?_, ?_⟩
    · rw [World.ownsRow.cellAt h 0 (by simp)]; rfl
    · rw [World.ownsRow.cellAt h 1 (by simp)]; rfl
set_option maxHeartbeats 1600000 in
theorem c_parseAddr (s : ByteArray) (w : World) (hs : s.size ≤ 4000000000) :
    Calls Tryz.prog 80 #[.string s] w fun e w' => e = .returned (.int .i64 (addrV s.data.toList)) ∧ Below w.heap.size w w' := by
  go_enter Tryz.func80, Tryz.ntmps80
  go_wp2_with fail
  refine (c_splitAt s 46 _ hs).mono ?_
  rintro e w1 ⟨v, xs, rfl, ho, hxs, B⟩
  by_cases h2 : xs.length = 2
  · obtain ⟨g, cc, x, y, rfl, rfl, hgb, hgl, hc0, hc1⟩ := so_two ho h2
    obtain ⟨q1, q2⟩ := two_parts hxs.symm
    obtain ⟨l1, l2⟩ := cut_len q1
    rw [← size_list, ← size_list] at l1 l2
    have hv : addrV s.data.toList = if inB (numV x.data.toList) 0 255 && inB (numV y.data.toList) 0 255 then 256 * numV x.data.toList + numV y.data.toList else -1 := by unfold addrV; rw [q1]
    have HV := Lib.hid hv
    clear hv q1 q2 hxs h2 ho
    go_wp2_with fail
    refine (c_parseInt x _ (by omega)).mono ?_
    rintro e w2 ⟨rfl, hq⟩
    replace hc1 := cell_keep hc1 hq
    replace B := Bl.then B hq
    have hgl2 := Nat.lt_of_lt_of_le hgl hq.size
    clear hq hc0
    go_wp2_with fail
    refine (c_parseInt y _ (by omega)).mono ?_
    rintro e w3 ⟨rfl, hq⟩
    replace B := Bl.then B hq
    have hx := numV_bd x.data.toList
    have hy := numV_bd y.data.toList
    generalize numV x.data.toList = a at hx HV
    generalize numV y.data.toList = b at hy HV
    clear hq
    cases i1 : inB a 0 255
    · have HW : Hid (addrV s.data.toList = -1) := by rw [Hid, HV.out, i1]; rfl
      go_wp2_with fail
      refine (c_inRange _ _ _ _).mono ?_
      rw [i1]
      rintro e w' ⟨rfl, rfl⟩
      go_wp2
      go_ret
      exact ⟨by rw [HW.out]; rfl, B⟩
    · go_wp2_with fail
      refine (c_inRange _ _ _ _).mono ?_
      rw [i1]
      rintro e w' ⟨rfl, rfl⟩
      cases i2 : inB b 0 255
      · have HW : Hid (addrV s.data.toList = -1) := by rw [Hid, HV.out, i1, i2]; rfl
        go_wp2_with fail
        refine (c_inRange _ _ _ _).mono ?_
        rw [i2]
        rintro e w' ⟨rfl, rfl⟩
        go_wp2
        go_ret
        exact ⟨by rw [HW.out]; rfl, B⟩
      · have HW : Hid (addrV s.data.toList = 256 * a + b) := by rw [Hid, HV.out, i1, i2]; rfl
        go_wp2_with fail
        refine (c_inRange _ _ _ _).mono ?_
        rw [i2]
        rintro e w' ⟨rfl, rfl⟩
        go_wp2
        go_ret
        exact ⟨by rw [HW.out]; rfl, B⟩
  · obtain ⟨E, cE, rfl, -, -, -⟩ := own_slice ho
    have hl : (spl s.data.toList 46).length ≠ 2 := by rw [← hxs, List.length_map]; exact h2
    have HV := Lib.hid (addrV_not hl)
    have t0 : ((xs.length : Int) == 2) = false := by rw [beq_eq_false_iff_ne]; omega
    clear hl hxs ho
    go_wp2
    go_ret
    exact ⟨by rw [HV.out]; rfl, B⟩
set_option maxHeartbeats 3200000 in
theorem c_iParseEnd (s : ByteArray) (w : World) (hs : s.size ≤ 4000000000) (hE : EnvP w) :
    Calls Tryz.prog 40 #[.string s] w fun e w' => e = .returned (parV (parE s.data.toList)) ∧ Below w.heap.size w w' := by
  have r0 := Blk.new w 70 #[.int .i64 0, .int .i64 0]
  have B : Below w.heap.size w (w.alloc (.cells #[.int .i64 0, .int .i64 0] 70)) := (Below.refl _ _).alloc (Nat.le_refl _) _
  have J := Lib.hid (c_Cut s 58 _ hs (hE.to B))
  cases hc : cutc s.data.toList 58 with
  | none =>
    have HO := Lib.hid (show parE s.data.toList = none by unfold parE; rw [hc])
    rw [hc] at J
    clear hc
    go_enter Tryz.func40, Tryz.ntmps40
    go_wp2_with fail
    refine J.out.mono ?_
    rintro e w1 ⟨hq, rfl⟩
    replace r0 := r0.to hq
    replace B := Bl.then B hq
    clear hq J
    go_wp2_with fail
    refine (c_readAddr s _ hs (hE.to B)).mono ?_
    generalize decide (0 ≤ addrV s.data.toList) = q1
    rintro e w2 ⟨a, rfl, -, hq⟩
    replace r0 := r0.to hq
    replace B := Bl.then B hq
    clear hq
    go_wp2_with fail
    refine (c_number ⟨#[]⟩ _ (by decide) (hE.to B)).mono ?_
    generalize decide (0 ≤ numV (⟨#[]⟩ : ByteArray).data.toList) = q2
    rintro e w3 ⟨b, rfl, -, -, -, hq⟩
    replace r0 := (r0.to hq).alloc (.cells #[.int .i64 a, .int .i64 b] 70)
    replace B := (Bl.then B hq).alloc (Bl.then B hq).size (.cells #[.int .i64 a, .int .i64 b] 70)
    clear hq
    have e0 := r0.cell 0
    have e1 := r0.cell 1
    have f0 := r0.frozen 0
    have f1 := r0.frozen 1
    simp only [List.getElem?_toArray, List.getElem?_cons_zero, List.getElem?_cons_succ] at e0 e1
    have hlt0 := r0.lt
    go_wp2
    generalize hwf : (((w3.alloc (.cells #[.int .i64 a, .int .i64 b] 70)).setCell { block := w.heap.size, off := 0 } (Value.int IntKind.i64 0)).setCell { block := w.heap.size, off := 1 } (Value.int IntKind.i64 0)) = wf
    have z : Blk wf w.heap.size 70 #[.int .i64 0, .int .i64 0] := by rw [← hwf]; exact (r0.set_ 0 _).set_ 1 _
    have Bf : Below w.heap.size w wf := by rw [← hwf]; exact (B.setCell (Nat.le_refl _) _).setCell (Nat.le_refl _) _
    have z0 := z.cell 0
    have z1 := z.cell 1
    simp only [List.getElem?_toArray, List.getElem?_cons_zero, List.getElem?_cons_succ] at z0 z1
    refine bodyPost_ret (v := .tuple #[.agg #[.int .i64 0, .int .i64 0], .bool false]) (by simp [results, Tryz.results40, go_sem, z0, z1]) rfl ?_
    exact ⟨by rw [HO.out]; rfl, Bf⟩
  | some p =>
    obtain ⟨x, y⟩ := p
    obtain ⟨l1, l2⟩ := cut_len hc
    rw [← size_list] at l1 l2
    have hp : parE s.data.toList = if inB (addrV x) 0 65535 && inB (numV y) 0 65535 then some (addrV x, numV y) else none := by unfold parE; rw [hc]
    have hpos : 0 < s.size := by rw [size_list, (cutc_eq hc).1]; simp; omega
    have HT := Lib.hid (fun a p => parE_text (s := s) (a := a) (p := p))
    have HO1 := Lib.hid hp
    rw [hc] at J
    clear hc hp
    have bx := addrV_bd x
    have by' := numV_bd y
    go_enter Tryz.func40, Tryz.ntmps40
    go_wp2_with fail
    refine J.out.mono ?_
    rintro e w1 ⟨hq, rfl⟩
    replace r0 := r0.to hq
    replace B := Bl.then B hq
    clear hq J
    go_wp2_with fail
    refine (c_readAddr ⟨x.toArray⟩ _ (by rw [arr_size]; omega) (hE.to B)).mono ?_
    rw [arr_list]
    rintro e w2 ⟨a, rfl, ha, hq⟩
    replace r0 := r0.to hq
    replace B := Bl.then B hq
    clear hq
    go_wp2_with fail
    refine (c_number ⟨y.toArray⟩ _ (by rw [arr_size]; omega) (hE.to B)).mono ?_
    rw [arr_list]
    rintro e w3 ⟨n, rfl, hn, -, -, hq⟩
    replace r0 := (r0.to hq).alloc (.cells #[.int .i64 a, .int .i64 n] 70)
    replace B := (Bl.then B hq).alloc (Bl.then B hq).size (.cells #[.int .i64 a, .int .i64 n] 70)
    have k1 := Blk.new w3 70 #[.int .i64 a, .int .i64 n]
    have HA := Lib.hid ha
    have HN := Lib.hid hn
    clear hq ha hn
    have e0 := r0.cell 0
    have e1 := r0.cell 1
    have f0 := r0.frozen 0
    have f1 := r0.frozen 1
    simp only [List.getElem?_toArray, List.getElem?_cons_zero, List.getElem?_cons_succ] at e0 e1
    have hlt0 := r0.lt
    generalize addrV x = u at HA bx HO1
    generalize numV y = v at HN by' HO1
    by_cases hu : 0 ≤ u
    · obtain rfl : a = u := HA.out hu
      have du : decide (0 ≤ a) = true := by rw [decide_eq_true_eq]; exact hu
      by_cases hw : 0 ≤ v
      · obtain rfl : n = v := HN.out hw
        have dv : decide (0 ≤ n) = true := by rw [decide_eq_true_eq]; exact hw
        go_wp2_with fail
        refine (c_iFormatEnd a n _ (hE.tab.to B)).mono ?_
        rintro e w4 ⟨rfl, hq⟩
        replace r0 := r0.to hq
        replace k1 := k1.to hq
        replace B := Bl.then B hq
        clear e0 e1 f0 f1 hlt0 hq
        have e0 := r0.cell 0
        have e1 := r0.cell 1
        have f0 := r0.frozen 0
        have f1 := r0.frozen 1
        simp only [List.getElem?_toArray, List.getElem?_cons_zero, List.getElem?_cons_succ] at e0 e1
        have hlt0 := r0.lt
        have m0 := k1.cell 0
        have m1 := k1.cell 1
        have hlt1 := k1.lt
        simp only [List.getElem?_toArray, List.getElem?_cons_zero, List.getElem?_cons_succ] at m0 m1
        cases hv : inB a 0 65535 && inB n 0 65535
        · have HO : Hid (parE s.data.toList = none) := by rw [Hid, HO1.out, hv]; rfl
          have hf : fmtEnd a n = ⟨#[]⟩ := by unfold fmtEnd; rw [hv]; rfl
          have hem : ((fmtEnd a n).toList == s.toList) = false := bytes_neq (fun e => by
            have h1 := congrArg List.length e
            rw [hf, ← size_list, ← size_list] at h1
            have h2 : (⟨#[]⟩ : ByteArray).size = 0 := rfl
            omega)
          clear hf
          generalize fmtEnd a n = D at hem ⊢
          clear hv
          go_wp2
          generalize hwf : ((w4.setCell { block := w.heap.size, off := 0 } (Value.int IntKind.i64 0)).setCell { block := w.heap.size, off := 1 } (Value.int IntKind.i64 0)) = wf
          have z : Blk wf w.heap.size 70 #[.int .i64 0, .int .i64 0] := by rw [← hwf]; exact (r0.set_ 0 _).set_ 1 _
          have Bf : Below w.heap.size w wf := by rw [← hwf]; exact (B.setCell (Nat.le_refl _) _).setCell (Nat.le_refl _) _
          have z0 := z.cell 0
          have z1 := z.cell 1
          simp only [List.getElem?_toArray, List.getElem?_cons_zero, List.getElem?_cons_succ] at z0 z1
          refine bodyPost_ret (v := .tuple #[.agg #[.int .i64 0, .int .i64 0], .bool false]) (by simp [results, Tryz.results40, go_sem, z0, z1]) rfl ?_
          exact ⟨by rw [HO.out]; rfl, Bf⟩
        · have HO : Hid (parE s.data.toList = some (a, n)) := by rw [Hid, HO1.out, hv]; rfl
          have hf : fmtEnd a n = s := (HT.out a n HO.out).2
          rw [hf]
          clear hf hv
          go_wp2
          generalize hwf : ((w4.setCell { block := w.heap.size, off := 0 } (Value.int IntKind.i64 a)).setCell { block := w.heap.size, off := 1 } (Value.int IntKind.i64 n)) = wf
          have z : Blk wf w.heap.size 70 #[.int .i64 a, .int .i64 n] := by rw [← hwf]; exact (r0.set_ 0 _).set_ 1 _
          have Bf : Below w.heap.size w wf := by rw [← hwf]; exact (B.setCell (Nat.le_refl _) _).setCell (Nat.le_refl _) _
          have z0 := z.cell 0
          have z1 := z.cell 1
          simp only [List.getElem?_toArray, List.getElem?_cons_zero, List.getElem?_cons_succ] at z0 z1
          refine bodyPost_ret (v := .tuple #[.agg #[.int .i64 a, .int .i64 n], .bool true]) (by simp [results, Tryz.results40, go_sem, z0, z1]) rfl ?_
          exact ⟨by rw [HO.out]; rfl, Bf⟩
      · have dv : decide (0 ≤ v) = false := by rw [decide_eq_false_iff_not]; exact hw
        have HO : Hid (parE s.data.toList = none) := by rw [Hid, HO1.out, if_neg (fun hv => by have := (inB_true (by simp only [Bool.and_eq_true] at hv; exact hv.2)).1; omega)]
        go_wp2
        generalize hwf : (((w3.alloc (.cells #[.int .i64 a, .int .i64 n] 70)).setCell { block := w.heap.size, off := 0 } (Value.int IntKind.i64 0)).setCell { block := w.heap.size, off := 1 } (Value.int IntKind.i64 0)) = wf
        have z : Blk wf w.heap.size 70 #[.int .i64 0, .int .i64 0] := by rw [← hwf]; exact (r0.set_ 0 _).set_ 1 _
        have Bf : Below w.heap.size w wf := by rw [← hwf]; exact (B.setCell (Nat.le_refl _) _).setCell (Nat.le_refl _) _
        have z0 := z.cell 0
        have z1 := z.cell 1
        simp only [List.getElem?_toArray, List.getElem?_cons_zero, List.getElem?_cons_succ] at z0 z1
        refine bodyPost_ret (v := .tuple #[.agg #[.int .i64 0, .int .i64 0], .bool false]) (by simp [results, Tryz.results40, go_sem, z0, z1]) rfl ?_
        exact ⟨by rw [HO.out]; rfl, Bf⟩
    · have du : decide (0 ≤ u) = false := by rw [decide_eq_false_iff_not]; exact hu
      have HO : Hid (parE s.data.toList = none) := by rw [Hid, HO1.out, if_neg (fun hv => by have := (inB_true (by simp only [Bool.and_eq_true] at hv; exact hv.1)).1; omega)]
      go_wp2
      generalize hwf : (((w3.alloc (.cells #[.int .i64 a, .int .i64 n] 70)).setCell { block := w.heap.size, off := 0 } (Value.int IntKind.i64 0)).setCell { block := w.heap.size, off := 1 } (Value.int IntKind.i64 0)) = wf
      have z : Blk wf w.heap.size 70 #[.int .i64 0, .int .i64 0] := by rw [← hwf]; exact (r0.set_ 0 _).set_ 1 _
      have Bf : Below w.heap.size w wf := by rw [← hwf]; exact (B.setCell (Nat.le_refl _) _).setCell (Nat.le_refl _) _
      have z0 := z.cell 0
      have z1 := z.cell 1
      simp only [List.getElem?_toArray, List.getElem?_cons_zero, List.getElem?_cons_succ] at z0 z1
      refine bodyPost_ret (v := .tuple #[.agg #[.int .i64 0, .int .i64 0], .bool false]) (by simp [results, Tryz.results40, go_sem, z0, z1]) rfl ?_
      exact ⟨by rw [HO.out]; rfl, Bf⟩
end Go.Proofs.YtjflfhjnbccpmaaGreatDoor
namespace Go.Proofs.YtjflfhjnbccpmaaGreatDoor
open Go.RowKit
set_option maxHeartbeats 3200000 in
theorem c_sEnd (s : ByteArray) (w : World) (hs : s.size ≤ 4000000000) :
    Calls Tryz.prog 49 #[.string s] w fun e w' => e = .returned (parV (parE s.data.toList)) ∧ Below w.heap.size w w' := by
  have r0 := Blk.new w 70 #[.int .i64 0, .int .i64 0]
  have B : Below w.heap.size w (w.alloc (.cells #[.int .i64 0, .int .i64 0] 70)) := (Below.refl _ _).alloc (Nat.le_refl _) _
  go_enter Tryz.func49, Tryz.ntmps49
  go_wp2_with fail
  refine (c_splitAt s 58 _ hs).mono ?_
  rintro e w1 ⟨v, xs, rfl, ho, hxs, hq⟩
  replace r0 := r0.to hq
  replace B := Bl.then B hq
  clear hq
  by_cases h2 : xs.length = 2
  · obtain ⟨gg, cc, x, y, rfl, rfl, hgb, hgl, hc0, hc1⟩ := so_two ho h2
    obtain ⟨q1, q2⟩ := two_parts hxs.symm
    obtain ⟨l1, l2⟩ := cut_len q1
    rw [← size_list, ← size_list] at l1 l2
    have hv : parE s.data.toList = if inB (addrV x.data.toList) 0 65535 && inB (numV y.data.toList) 0 65535 then some (addrV x.data.toList, numV y.data.toList) else none := by unfold parE; rw [q1]
    have HV := Lib.hid hv
    clear hv q1 q2 hxs h2 ho hgb
    have hx := addrV_bd x.data.toList
    have hy := numV_bd y.data.toList
    generalize ha : addrV x.data.toList = a at hx HV
    generalize hn : numV y.data.toList = n at hy HV
    have HA := Lib.hid ha
    have HP := Lib.hid hn
    clear ha hn
    go_wp2_with fail
    refine wp_region_held_drew (S := (fun w' => w'.cell? ⟨gg, 0, none⟩ = some (.string x) ∧ w'.cell? ⟨gg, 1, none⟩ = some (.string y))) (by kernel_rfl) ?_ (fun hHeld => ?_)
    · (try dsimp only); exact ⟨hc0, hc1⟩
    replace r0 : Blk w1.drew w.heap.size _ _ := r0; replace B : Below w.heap.size w w1.drew := Bl.drewN B 1; replace hc0 : w1.drew.cell? ⟨gg, 0, none⟩ = some (.string x) := hc0; replace hc1 : w1.drew.cell? ⟨gg, 1, none⟩ = some (.string y) := hc1; replace hgl : gg < w1.drew.heap.size := hgl; generalize World.drew w1 = wq at *
    refine wpAnyH_take (i := 0) (v := ?_) (arr_at rfl) (by kernel_rfl) (by kernel_rfl) (by kernel_rfl) (fun _ _ _ h => h) ?_ (by assumption) ?_
    rotate_left
    · first | (refine Or.inr ⟨by rfl, ?_⟩; with_reducible rfl) | (refine Or.inl ⟨by rfl, ?_⟩; intro w hSw; (try dsimp only at hSw); go_simp; first | done | with_reducible rfl)
    try simp only [Act.put, List.setIfInBounds_toArray, List.set_cons_zero, List.set_cons_succ]
    refine wpAnyH_take (i := 1) (v := ?_) (arr_at rfl) (by kernel_rfl) (by kernel_rfl) (by kernel_rfl) (fun _ _ _ h => h) ?_ (by assumption) ?_
    rotate_left
    · first | (refine Or.inr ⟨by rfl, ?_⟩; with_reducible rfl) | (refine Or.inl ⟨by rfl, ?_⟩; intro w hSw; (try dsimp only at hSw); go_simp; first | done | with_reducible rfl)
    try simp only [Act.put, List.setIfInBounds_toArray, List.set_cons_zero, List.set_cons_succ]
    refine wpAnyH_take (i := 2) (v := ?_) (arr_at rfl) (by kernel_rfl) (by kernel_rfl) (by kernel_rfl) (fun _ _ _ h => h) ?_ (by assumption) ?_
    rotate_left
    · first | (refine Or.inr ⟨by rfl, ?_⟩; with_reducible rfl) | (refine Or.inl ⟨by rfl, ?_⟩; intro w hSw; (try dsimp only at hSw); go_simp; first | done | with_reducible rfl)
    try simp only [Act.put, List.setIfInBounds_toArray, List.set_cons_zero, List.set_cons_succ]
    refine wpAnyH_take (i := 4) (v := ?_) (arr_at rfl) (by kernel_rfl) (by kernel_rfl) (by kernel_rfl) (fun _ _ _ h => h) ?_ (by assumption) ?_
    rotate_left
    · first | (refine Or.inr ⟨by rfl, ?_⟩; with_reducible rfl) | (refine Or.inl ⟨by rfl, ?_⟩; intro w hSw; (try dsimp only at hSw); go_simp; first | done | with_reducible rfl)
    try simp only [Act.put, List.setIfInBounds_toArray, List.set_cons_zero, List.set_cons_succ]
    refine wpAnyH_take (i := 5) (v := ?_) (arr_at rfl) (by kernel_rfl) (by kernel_rfl) (by kernel_rfl) (fun _ _ _ h => h) ?_ (by assumption) ?_
    rotate_left
    · first | (refine Or.inr ⟨by rfl, ?_⟩; with_reducible rfl) | (refine Or.inl ⟨by rfl, ?_⟩; intro w hSw; (try dsimp only at hSw); go_simp; first | done | with_reducible rfl)
    try simp only [Act.put, List.setIfInBounds_toArray, List.set_cons_zero, List.set_cons_succ]
    refine wpAnyH_take (i := 6) (v := ?_) (arr_at rfl) (by kernel_rfl) (by kernel_rfl) (by kernel_rfl) (fun _ _ _ h => h) ?_ (by assumption) ?_
    rotate_left
    · first | (refine Or.inr ⟨by rfl, ?_⟩; with_reducible rfl) | (refine Or.inl ⟨by rfl, ?_⟩; intro w hSw; (try dsimp only at hSw); go_simp; first | done | with_reducible rfl)
    try simp only [Act.put, List.setIfInBounds_toArray, List.set_cons_zero, List.set_cons_succ]
    refine wpAnyH_ready (rs := [3, 9]) (by kernel_rfl) (by simp) ?_
    refine AllReadyH.cons (arr_at rfl) (fun K hK => ?_) (AllReadyH.cons (arr_at rfl) (fun K hK => ?_) AllReadyH.nil)
    · go_simp
      go_at_call 80; refine (c_parseAddr x _ (by omega)).mono ?_; rw [HA.out]; rintro e wd ⟨rfl, hq⟩; (replace r0 := r0.to hq; replace hc0 := cell_keep hc0 hq; replace hc1 := cell_keep hc1 hq; replace B := Bl.then B hq; (first | (replace k1 := k1.to hq) | skip); (first | (replace hgl := Nat.lt_of_lt_of_le hgl hq.size) | skip); clear hq)
      refine hK.out _ _ ?_ (fun hHeld => ?_)
      · (try dsimp only); exact ⟨hc0, hc1⟩
      clear hK K
      try simp only [Act.put, List.setIfInBounds_toArray, List.set_cons_zero, List.set_cons_succ]
      refine wpAnyH_ready (rs := [7, 9]) (by kernel_rfl) (by simp) ?_
      refine AllReadyH.cons (arr_at rfl) (fun K hK => ?_) (AllReadyH.cons (arr_at rfl) (fun K hK => ?_) AllReadyH.nil)
      · go_simp
        go_at_call 52; refine (c_parseInt y _ (by omega)).mono ?_; rw [HP.out]; rintro e we ⟨rfl, hq⟩; (replace r0 := r0.to hq; replace hc0 := cell_keep hc0 hq; replace hc1 := cell_keep hc1 hq; replace B := Bl.then B hq; (first | (replace k1 := k1.to hq) | skip); (first | (replace hgl := Nat.lt_of_lt_of_le hgl hq.size) | skip); clear hq)
        refine hK.out _ _ ?_ (fun hHeld => ?_)
        · (try dsimp only); exact ⟨hc0, hc1⟩
        clear hK K
        try simp only [Act.put, List.setIfInBounds_toArray, List.set_cons_zero, List.set_cons_succ]
        refine wpAnyH_take (i := 8) (v := ?_) (arr_at rfl) (by kernel_rfl) (by kernel_rfl) (by kernel_rfl) (fun _ _ _ h => h) ?_ (by assumption) ?_
        rotate_left
        · first | (refine Or.inr ⟨by rfl, ?_⟩; with_reducible rfl) | (refine Or.inl ⟨by rfl, ?_⟩; intro w hSw; (try dsimp only at hSw); go_simp; first | done | with_reducible rfl)
        try simp only [Act.put, List.setIfInBounds_toArray, List.set_cons_zero, List.set_cons_succ]
        refine wpAnyH_ready (rs := [9]) (by kernel_rfl) (by simp) ?_
        refine AllReadyH.cons (arr_at rfl) (fun K hK => ?_) AllReadyH.nil
        go_simp
        have hb5 : w.heap.size < we.heap.size := r0.lt; have hg5 : gg < we.heap.size := hgl; have k1 := Blk.new we 70 #[.int .i64 0, .int .i64 0]; have hal : Below we.heap.size we (we.alloc (.cells #[.int .i64 0, .int .i64 0] 70)) := (Below.refl _ _).alloc (Nat.le_refl _) _; replace r0 := r0.to hal; replace hc0 := cell_keep hc0 hal; replace hc1 := cell_keep hc1 hal; replace B := Bl.then B hal; clear hal hgl; generalize we.alloc (.cells #[.int .i64 0, .int .i64 0] 70) = wz at *; generalize we.heap.size = b5 at hb5 hg5 k1 ⊢
        refine hK.out _ _ ?_ (fun hHeld => ?_)
        · (try dsimp only); exact ⟨hc0, hc1⟩
        clear hK K
        try simp only [Act.put, List.setIfInBounds_toArray, List.set_cons_zero, List.set_cons_succ]
        refine wpAnyH_ready (rs := [10]) (by kernel_rfl) (by simp) ?_
        refine AllReadyH.cons (arr_at rfl) (fun K hK => ?_) AllReadyH.nil
        have e0 := k1.cell 0; have e1 := k1.cell 1; have f0 := k1.frozen 0; have f1 := k1.frozen 1; have hlt5 := k1.lt; simp only [List.getElem?_toArray, List.getElem?_cons_zero, List.getElem?_cons_succ] at e0 e1; go_simp; generalize hwf : ((wz.setCell { block := b5, off := 0 } (Value.int IntKind.i64 a)).setCell { block := b5, off := 1 } (Value.int IntKind.i64 n)) = wf; replace r0 : Blk wf w.heap.size 70 #[.int .i64 0, .int .i64 0] := (by rw [← hwf]; exact (r0.far (Nat.ne_of_lt hb5) _).far (Nat.ne_of_lt hb5) _); replace hc0 : wf.cell? ⟨gg, 0, none⟩ = some (.string x) := (by rw [← hwf]; exact (cell_far (Nat.ne_of_lt hg5)).trans ((cell_far (Nat.ne_of_lt hg5)).trans hc0)); replace hc1 : wf.cell? ⟨gg, 1, none⟩ = some (.string y) := (by rw [← hwf]; exact (cell_far (Nat.ne_of_lt hg5)).trans ((cell_far (Nat.ne_of_lt hg5)).trans hc1)); replace B : Below w.heap.size w wf := (by rw [← hwf]; exact (B.setCell (Nat.le_of_lt hb5) _).setCell (Nat.le_of_lt hb5) _); replace k1 : Blk wf b5 70 #[.int .i64 a, .int .i64 n] := (by rw [← hwf]; exact (k1.set_ 0 _).set_ 1 _); clear hwf e0 e1 f0 f1 hlt5
        refine hK.out _ _ ?_ (fun hHeld => ?_)
        · (try dsimp only); exact ⟨hc0, hc1⟩
        clear hK K
        try simp only [Act.put, List.setIfInBounds_toArray, List.set_cons_zero, List.set_cons_succ]
        refine wpAnyH_done (by kernel_rfl) ?_ _
        have m0 := k1.cell 0; have m1 := k1.cell 1; simp only [List.getElem?_toArray, List.getElem?_cons_zero, List.getElem?_cons_succ] at m0 m1; go_wp2_with fail; refine (c_validEnd a n _).mono ?_; rintro e wg ⟨rfl, hq⟩; replace r0 := r0.to hq; replace k1 := k1.to hq; replace B := Bl.then B hq; clear hq m0 m1; have m0 := k1.cell 0; have m1 := k1.cell 1; simp only [List.getElem?_toArray, List.getElem?_cons_zero, List.getElem?_cons_succ] at m0 m1; have e0 := r0.cell 0; have e1 := r0.cell 1; have f0 := r0.frozen 0; have f1 := r0.frozen 1; have hlt0 := r0.lt; simp only [List.getElem?_toArray, List.getElem?_cons_zero, List.getElem?_cons_succ] at e0 e1; cases hv : inB a 0 65535 && inB n 0 65535; (focus have HO : Hid (parE s.data.toList = none) := (by rw [Hid, HV.out, hv]; rfl); clear hv; go_wp2; generalize hwh : ((wg.setCell { block := w.heap.size, off := 0 } (Value.int IntKind.i64 0)).setCell { block := w.heap.size, off := 1 } (Value.int IntKind.i64 0)) = wh; have z : Blk wh w.heap.size 70 #[.int .i64 0, .int .i64 0] := (by rw [← hwh]; exact (r0.set_ 0 _).set_ 1 _); have Bf : Below w.heap.size w wh := (by rw [← hwh]; exact (B.setCell (Nat.le_refl _) _).setCell (Nat.le_refl _) _); have z0 := z.cell 0; have z1 := z.cell 1; simp only [List.getElem?_toArray, List.getElem?_cons_zero, List.getElem?_cons_succ] at z0 z1; refine bodyPost_ret (v := .tuple #[.agg #[.int .i64 0, .int .i64 0], .bool false]) (by simp [results, Tryz.results49, go_sem, z0, z1]) rfl ?_; exact ⟨by rw [HO.out]; rfl, Bf⟩); (focus have HO : Hid (parE s.data.toList = some (a, n)) := (by rw [Hid, HV.out, hv]; rfl); clear hv; go_wp2; generalize hwh : ((wg.setCell { block := w.heap.size, off := 0 } (Value.int IntKind.i64 a)).setCell { block := w.heap.size, off := 1 } (Value.int IntKind.i64 n)) = wh; have z : Blk wh w.heap.size 70 #[.int .i64 a, .int .i64 n] := (by rw [← hwh]; exact (r0.set_ 0 _).set_ 1 _); have Bf : Below w.heap.size w wh := (by rw [← hwh]; exact (B.setCell (Nat.le_refl _) _).setCell (Nat.le_refl _) _); have z0 := z.cell 0; have z1 := z.cell 1; simp only [List.getElem?_toArray, List.getElem?_cons_zero, List.getElem?_cons_succ] at z0 z1; refine bodyPost_ret (v := .tuple #[.agg #[.int .i64 a, .int .i64 n], .bool true]) (by simp [results, Tryz.results49, go_sem, z0, z1]) rfl ?_; exact ⟨by rw [HO.out]; rfl, Bf⟩)
      · go_simp
        have hb5 : w.heap.size < wd.heap.size := r0.lt; have hg5 : gg < wd.heap.size := hgl; have k1 := Blk.new wd 70 #[.int .i64 0, .int .i64 0]; have hal : Below wd.heap.size wd (wd.alloc (.cells #[.int .i64 0, .int .i64 0] 70)) := (Below.refl _ _).alloc (Nat.le_refl _) _; replace r0 := r0.to hal; replace hc0 := cell_keep hc0 hal; replace hc1 := cell_keep hc1 hal; replace B := Bl.then B hal; clear hal hgl; generalize wd.alloc (.cells #[.int .i64 0, .int .i64 0] 70) = wx at *; generalize wd.heap.size = b5 at hb5 hg5 k1 ⊢
        refine hK.out _ _ ?_ (fun hHeld => ?_)
        · (try dsimp only); exact ⟨hc0, hc1⟩
        clear hK K
        try simp only [Act.put, List.setIfInBounds_toArray, List.set_cons_zero, List.set_cons_succ]
        refine wpAnyH_ready (rs := [7]) (by kernel_rfl) (by simp) ?_
        refine AllReadyH.cons (arr_at rfl) (fun K hK => ?_) AllReadyH.nil
        go_simp
        go_at_call 52; refine (c_parseInt y _ (by omega)).mono ?_; rw [HP.out]; rintro e wz ⟨rfl, hq⟩; (replace r0 := r0.to hq; replace hc0 := cell_keep hc0 hq; replace hc1 := cell_keep hc1 hq; replace B := Bl.then B hq; (first | (replace k1 := k1.to hq) | skip); (first | (replace hgl := Nat.lt_of_lt_of_le hgl hq.size) | skip); clear hq)
        refine hK.out _ _ ?_ (fun hHeld => ?_)
        · (try dsimp only); exact ⟨hc0, hc1⟩
        clear hK K
        try simp only [Act.put, List.setIfInBounds_toArray, List.set_cons_zero, List.set_cons_succ]
        refine wpAnyH_take (i := 8) (v := ?_) (arr_at rfl) (by kernel_rfl) (by kernel_rfl) (by kernel_rfl) (fun _ _ _ h => h) ?_ (by assumption) ?_
        rotate_left
        · first | (refine Or.inr ⟨by rfl, ?_⟩; with_reducible rfl) | (refine Or.inl ⟨by rfl, ?_⟩; intro w hSw; (try dsimp only at hSw); go_simp; first | done | with_reducible rfl)
        try simp only [Act.put, List.setIfInBounds_toArray, List.set_cons_zero, List.set_cons_succ]
        refine wpAnyH_ready (rs := [10]) (by kernel_rfl) (by simp) ?_
        refine AllReadyH.cons (arr_at rfl) (fun K hK => ?_) AllReadyH.nil
        have e0 := k1.cell 0; have e1 := k1.cell 1; have f0 := k1.frozen 0; have f1 := k1.frozen 1; have hlt5 := k1.lt; simp only [List.getElem?_toArray, List.getElem?_cons_zero, List.getElem?_cons_succ] at e0 e1; go_simp; generalize hwf : ((wz.setCell { block := b5, off := 0 } (Value.int IntKind.i64 a)).setCell { block := b5, off := 1 } (Value.int IntKind.i64 n)) = wf; replace r0 : Blk wf w.heap.size 70 #[.int .i64 0, .int .i64 0] := (by rw [← hwf]; exact (r0.far (Nat.ne_of_lt hb5) _).far (Nat.ne_of_lt hb5) _); replace hc0 : wf.cell? ⟨gg, 0, none⟩ = some (.string x) := (by rw [← hwf]; exact (cell_far (Nat.ne_of_lt hg5)).trans ((cell_far (Nat.ne_of_lt hg5)).trans hc0)); replace hc1 : wf.cell? ⟨gg, 1, none⟩ = some (.string y) := (by rw [← hwf]; exact (cell_far (Nat.ne_of_lt hg5)).trans ((cell_far (Nat.ne_of_lt hg5)).trans hc1)); replace B : Below w.heap.size w wf := (by rw [← hwf]; exact (B.setCell (Nat.le_of_lt hb5) _).setCell (Nat.le_of_lt hb5) _); replace k1 : Blk wf b5 70 #[.int .i64 a, .int .i64 n] := (by rw [← hwf]; exact (k1.set_ 0 _).set_ 1 _); clear hwf e0 e1 f0 f1 hlt5
        refine hK.out _ _ ?_ (fun hHeld => ?_)
        · (try dsimp only); exact ⟨hc0, hc1⟩
        clear hK K
        try simp only [Act.put, List.setIfInBounds_toArray, List.set_cons_zero, List.set_cons_succ]
        refine wpAnyH_done (by kernel_rfl) ?_ _
        have m0 := k1.cell 0; have m1 := k1.cell 1; simp only [List.getElem?_toArray, List.getElem?_cons_zero, List.getElem?_cons_succ] at m0 m1; go_wp2_with fail; refine (c_validEnd a n _).mono ?_; rintro e wg ⟨rfl, hq⟩; replace r0 := r0.to hq; replace k1 := k1.to hq; replace B := Bl.then B hq; clear hq m0 m1; have m0 := k1.cell 0; have m1 := k1.cell 1; simp only [List.getElem?_toArray, List.getElem?_cons_zero, List.getElem?_cons_succ] at m0 m1; have e0 := r0.cell 0; have e1 := r0.cell 1; have f0 := r0.frozen 0; have f1 := r0.frozen 1; have hlt0 := r0.lt; simp only [List.getElem?_toArray, List.getElem?_cons_zero, List.getElem?_cons_succ] at e0 e1; cases hv : inB a 0 65535 && inB n 0 65535; (focus have HO : Hid (parE s.data.toList = none) := (by rw [Hid, HV.out, hv]; rfl); clear hv; go_wp2; generalize hwh : ((wg.setCell { block := w.heap.size, off := 0 } (Value.int IntKind.i64 0)).setCell { block := w.heap.size, off := 1 } (Value.int IntKind.i64 0)) = wh; have z : Blk wh w.heap.size 70 #[.int .i64 0, .int .i64 0] := (by rw [← hwh]; exact (r0.set_ 0 _).set_ 1 _); have Bf : Below w.heap.size w wh := (by rw [← hwh]; exact (B.setCell (Nat.le_refl _) _).setCell (Nat.le_refl _) _); have z0 := z.cell 0; have z1 := z.cell 1; simp only [List.getElem?_toArray, List.getElem?_cons_zero, List.getElem?_cons_succ] at z0 z1; refine bodyPost_ret (v := .tuple #[.agg #[.int .i64 0, .int .i64 0], .bool false]) (by simp [results, Tryz.results49, go_sem, z0, z1]) rfl ?_; exact ⟨by rw [HO.out]; rfl, Bf⟩); (focus have HO : Hid (parE s.data.toList = some (a, n)) := (by rw [Hid, HV.out, hv]; rfl); clear hv; go_wp2; generalize hwh : ((wg.setCell { block := w.heap.size, off := 0 } (Value.int IntKind.i64 a)).setCell { block := w.heap.size, off := 1 } (Value.int IntKind.i64 n)) = wh; have z : Blk wh w.heap.size 70 #[.int .i64 a, .int .i64 n] := (by rw [← hwh]; exact (r0.set_ 0 _).set_ 1 _); have Bf : Below w.heap.size w wh := (by rw [← hwh]; exact (B.setCell (Nat.le_refl _) _).setCell (Nat.le_refl _) _); have z0 := z.cell 0; have z1 := z.cell 1; simp only [List.getElem?_toArray, List.getElem?_cons_zero, List.getElem?_cons_succ] at z0 z1; refine bodyPost_ret (v := .tuple #[.agg #[.int .i64 a, .int .i64 n], .bool true]) (by simp [results, Tryz.results49, go_sem, z0, z1]) rfl ?_; exact ⟨by rw [HO.out]; rfl, Bf⟩)
    · go_simp
      have hb5 : w.heap.size < wq.heap.size := r0.lt; have hg5 : gg < wq.heap.size := hgl; have k1 := Blk.new wq 70 #[.int .i64 0, .int .i64 0]; have hal : Below wq.heap.size wq (wq.alloc (.cells #[.int .i64 0, .int .i64 0] 70)) := (Below.refl _ _).alloc (Nat.le_refl _) _; replace r0 := r0.to hal; replace hc0 := cell_keep hc0 hal; replace hc1 := cell_keep hc1 hal; replace B := Bl.then B hal; clear hal hgl; generalize wq.alloc (.cells #[.int .i64 0, .int .i64 0] 70) = wx at *; generalize wq.heap.size = b5 at hb5 hg5 k1 ⊢
      refine hK.out _ _ ?_ (fun hHeld => ?_)
      · (try dsimp only); exact ⟨hc0, hc1⟩
      clear hK K
      try simp only [Act.put, List.setIfInBounds_toArray, List.set_cons_zero, List.set_cons_succ]
      refine wpAnyH_ready (rs := [3]) (by kernel_rfl) (by simp) ?_
      refine AllReadyH.cons (arr_at rfl) (fun K hK => ?_) AllReadyH.nil
      go_simp
      go_at_call 80; refine (c_parseAddr x _ (by omega)).mono ?_; rw [HA.out]; rintro e wd ⟨rfl, hq⟩; (replace r0 := r0.to hq; replace hc0 := cell_keep hc0 hq; replace hc1 := cell_keep hc1 hq; replace B := Bl.then B hq; (first | (replace k1 := k1.to hq) | skip); (first | (replace hgl := Nat.lt_of_lt_of_le hgl hq.size) | skip); clear hq)
      refine hK.out _ _ ?_ (fun hHeld => ?_)
      · (try dsimp only); exact ⟨hc0, hc1⟩
      clear hK K
      try simp only [Act.put, List.setIfInBounds_toArray, List.set_cons_zero, List.set_cons_succ]
      refine wpAnyH_ready (rs := [7]) (by kernel_rfl) (by simp) ?_
      refine AllReadyH.cons (arr_at rfl) (fun K hK => ?_) AllReadyH.nil
      go_simp
      go_at_call 52; refine (c_parseInt y _ (by omega)).mono ?_; rw [HP.out]; rintro e wz ⟨rfl, hq⟩; (replace r0 := r0.to hq; replace hc0 := cell_keep hc0 hq; replace hc1 := cell_keep hc1 hq; replace B := Bl.then B hq; (first | (replace k1 := k1.to hq) | skip); (first | (replace hgl := Nat.lt_of_lt_of_le hgl hq.size) | skip); clear hq)
      refine hK.out _ _ ?_ (fun hHeld => ?_)
      · (try dsimp only); exact ⟨hc0, hc1⟩
      clear hK K
      try simp only [Act.put, List.setIfInBounds_toArray, List.set_cons_zero, List.set_cons_succ]
      refine wpAnyH_take (i := 8) (v := ?_) (arr_at rfl) (by kernel_rfl) (by kernel_rfl) (by kernel_rfl) (fun _ _ _ h => h) ?_ (by assumption) ?_
      rotate_left
      · first | (refine Or.inr ⟨by rfl, ?_⟩; with_reducible rfl) | (refine Or.inl ⟨by rfl, ?_⟩; intro w hSw; (try dsimp only at hSw); go_simp; first | done | with_reducible rfl)
      try simp only [Act.put, List.setIfInBounds_toArray, List.set_cons_zero, List.set_cons_succ]
      refine wpAnyH_ready (rs := [10]) (by kernel_rfl) (by simp) ?_
      refine AllReadyH.cons (arr_at rfl) (fun K hK => ?_) AllReadyH.nil
      have e0 := k1.cell 0; have e1 := k1.cell 1; have f0 := k1.frozen 0; have f1 := k1.frozen 1; have hlt5 := k1.lt; simp only [List.getElem?_toArray, List.getElem?_cons_zero, List.getElem?_cons_succ] at e0 e1; go_simp; generalize hwf : ((wz.setCell { block := b5, off := 0 } (Value.int IntKind.i64 a)).setCell { block := b5, off := 1 } (Value.int IntKind.i64 n)) = wf; replace r0 : Blk wf w.heap.size 70 #[.int .i64 0, .int .i64 0] := (by rw [← hwf]; exact (r0.far (Nat.ne_of_lt hb5) _).far (Nat.ne_of_lt hb5) _); replace hc0 : wf.cell? ⟨gg, 0, none⟩ = some (.string x) := (by rw [← hwf]; exact (cell_far (Nat.ne_of_lt hg5)).trans ((cell_far (Nat.ne_of_lt hg5)).trans hc0)); replace hc1 : wf.cell? ⟨gg, 1, none⟩ = some (.string y) := (by rw [← hwf]; exact (cell_far (Nat.ne_of_lt hg5)).trans ((cell_far (Nat.ne_of_lt hg5)).trans hc1)); replace B : Below w.heap.size w wf := (by rw [← hwf]; exact (B.setCell (Nat.le_of_lt hb5) _).setCell (Nat.le_of_lt hb5) _); replace k1 : Blk wf b5 70 #[.int .i64 a, .int .i64 n] := (by rw [← hwf]; exact (k1.set_ 0 _).set_ 1 _); clear hwf e0 e1 f0 f1 hlt5
      refine hK.out _ _ ?_ (fun hHeld => ?_)
      · (try dsimp only); exact ⟨hc0, hc1⟩
      clear hK K
      try simp only [Act.put, List.setIfInBounds_toArray, List.set_cons_zero, List.set_cons_succ]
      refine wpAnyH_done (by kernel_rfl) ?_ _
      have m0 := k1.cell 0; have m1 := k1.cell 1; simp only [List.getElem?_toArray, List.getElem?_cons_zero, List.getElem?_cons_succ] at m0 m1; go_wp2_with fail; refine (c_validEnd a n _).mono ?_; rintro e wg ⟨rfl, hq⟩; replace r0 := r0.to hq; replace k1 := k1.to hq; replace B := Bl.then B hq; clear hq m0 m1; have m0 := k1.cell 0; have m1 := k1.cell 1; simp only [List.getElem?_toArray, List.getElem?_cons_zero, List.getElem?_cons_succ] at m0 m1; have e0 := r0.cell 0; have e1 := r0.cell 1; have f0 := r0.frozen 0; have f1 := r0.frozen 1; have hlt0 := r0.lt; simp only [List.getElem?_toArray, List.getElem?_cons_zero, List.getElem?_cons_succ] at e0 e1; cases hv : inB a 0 65535 && inB n 0 65535; (focus have HO : Hid (parE s.data.toList = none) := (by rw [Hid, HV.out, hv]; rfl); clear hv; go_wp2; generalize hwh : ((wg.setCell { block := w.heap.size, off := 0 } (Value.int IntKind.i64 0)).setCell { block := w.heap.size, off := 1 } (Value.int IntKind.i64 0)) = wh; have z : Blk wh w.heap.size 70 #[.int .i64 0, .int .i64 0] := (by rw [← hwh]; exact (r0.set_ 0 _).set_ 1 _); have Bf : Below w.heap.size w wh := (by rw [← hwh]; exact (B.setCell (Nat.le_refl _) _).setCell (Nat.le_refl _) _); have z0 := z.cell 0; have z1 := z.cell 1; simp only [List.getElem?_toArray, List.getElem?_cons_zero, List.getElem?_cons_succ] at z0 z1; refine bodyPost_ret (v := .tuple #[.agg #[.int .i64 0, .int .i64 0], .bool false]) (by simp [results, Tryz.results49, go_sem, z0, z1]) rfl ?_; exact ⟨by rw [HO.out]; rfl, Bf⟩); (focus have HO : Hid (parE s.data.toList = some (a, n)) := (by rw [Hid, HV.out, hv]; rfl); clear hv; go_wp2; generalize hwh : ((wg.setCell { block := w.heap.size, off := 0 } (Value.int IntKind.i64 a)).setCell { block := w.heap.size, off := 1 } (Value.int IntKind.i64 n)) = wh; have z : Blk wh w.heap.size 70 #[.int .i64 a, .int .i64 n] := (by rw [← hwh]; exact (r0.set_ 0 _).set_ 1 _); have Bf : Below w.heap.size w wh := (by rw [← hwh]; exact (B.setCell (Nat.le_refl _) _).setCell (Nat.le_refl _) _); have z0 := z.cell 0; have z1 := z.cell 1; simp only [List.getElem?_toArray, List.getElem?_cons_zero, List.getElem?_cons_succ] at z0 z1; refine bodyPost_ret (v := .tuple #[.agg #[.int .i64 a, .int .i64 n], .bool true]) (by simp [results, Tryz.results49, go_sem, z0, z1]) rfl ?_; exact ⟨by rw [HO.out]; rfl, Bf⟩)
  · obtain ⟨E, cE, rfl, -, -, -⟩ := own_slice ho
    have hl : (spl s.data.toList 58).length ≠ 2 := by rw [← hxs, List.length_map]; exact h2
    have HO := Lib.hid (parE_not hl)
    have t0 : ((xs.length : Int) == 2) = false := by rw [beq_eq_false_iff_ne]; omega
    clear hl hxs ho
    have e0 := r0.cell 0
    have e1 := r0.cell 1
    have f0 := r0.frozen 0
    have f1 := r0.frozen 1
    simp only [List.getElem?_toArray, List.getElem?_cons_zero, List.getElem?_cons_succ] at e0 e1
    have hlt0 := r0.lt
    go_wp2
    generalize hwf : ((w1.setCell { block := w.heap.size, off := 0 } (Value.int IntKind.i64 0)).setCell { block := w.heap.size, off := 1 } (Value.int IntKind.i64 0)) = wf
    have z : Blk wf w.heap.size 70 #[.int .i64 0, .int .i64 0] := by rw [← hwf]; exact (r0.set_ 0 _).set_ 1 _
    have Bf : Below w.heap.size w wf := by rw [← hwf]; exact (B.setCell (Nat.le_refl _) _).setCell (Nat.le_refl _) _
    have z0 := z.cell 0
    have z1 := z.cell 1
    simp only [List.getElem?_toArray, List.getElem?_cons_zero, List.getElem?_cons_succ] at z0 z1
    refine bodyPost_ret (v := .tuple #[.agg #[.int .i64 0, .int .i64 0], .bool false]) (by simp [results, Tryz.results49, go_sem, z0, z1]) rfl ?_
    exact ⟨by rw [HO.out]; rfl, Bf⟩
end Go.Proofs.YtjflfhjnbccpmaaGreatDoor
