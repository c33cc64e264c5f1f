/- Joined: W20, SS3, S9, W21, S5, S6. -/
import Derived.Test.YtjflfhjnbccpmaaGreatDoorJ12
import Derived.Shelf.Strings.Explode
import Derived.Shelf.Strings.BuilderCap
import Derived.Test.YtjflfhjnbccpmaaGreatDoorProg
import Derived.Deep.RegionLaw
import Derived.Deep.RegionHeld3
import Derived.Lib.SplitLaws
set_option linter.unusedVariables false
set_option linter.unusedSimpArgs false
namespace Go.Proofs.YtjflfhjnbccpmaaGreatDoor
open Go.RowKit
theorem c_or (b : Bool) (w : World) : Calls Tryz.prog 45 #[.bool b] w fun e w' => e = .returned (.string ⟨(if b then okL else noL).toArray⟩) ∧ w = w' := by
  cases b
  · go_enter Tryz.func45, Tryz.ntmps45
    go_wp2
    go_ret
    exact ⟨rfl, rfl⟩
  · go_enter Tryz.func45, Tryz.ntmps45
    go_wp2
    go_ret
    exact ⟨rfl, rfl⟩
set_option maxHeartbeats 3200000 in
theorem c_iWait (g : Gt) (gb : Nat) (P : Nat → Prop) (w : World) (z : Int) (hv : vGate g = true) (hG : GA w gb 44 P g) (hz1 : -1 ≤ z) (hz2 : z ≤ 100000) :
    Calls Tryz.prog 28 #[.pointer (some ⟨gb, 0, none⟩), .int .i64 z] w fun e w' => e = .returned (.string ⟨(waitL g z).1.toArray⟩) ∧ GA w' gb 44 (fun k => P k ∨ w.heap.size ≤ k) (waitL g z).2 ∧ w.grownBy w' (some gb) := by
  have HGA := Lib.hid hG
  obtain ⟨A, n, c, C, m, d, k0, hn, hc, h, hm, hd, h', ap1, ap2⟩ := hG
  have HN := Lib.hid hn
  have HM := Lib.hid hm
  have HA : Hid (∀ W, Below w.heap.size w W → TM W A g.tb) := fun W b => h.to b
  have HC : Hid (∀ W, Below w.heap.size w W → TK W C g.cs) := fun W b => h'.to b
  have HV := Lib.hid hv
  have HAP := Lib.hid (And.intro ap1 ap2)
  have hgl := k0.lt
  have hno := inB_true (gate_nums hv).2.2.2.2.2
  have B : Below w.heap.size w w := Below.refl _ _
  clear hn hm h h' hv ap1 ap2
  have ew : IntKind.i64.wrap (g.no + z) = g.no + z := IntWalk.i64_in _ (by omega)
  go_enter Tryz.func28, Tryz.ntmps28
  go_upto_region 1 with fail
  go_cut [5, 6] (fun s12 s13 wx => ∃ (b12 : Nat) (ok : Bool) (gg : Gt) (A' : Option Addr) (n' c' : Nat) (C' : Option Addr) (m' d' : Nat), s12 = .pointer (some ⟨b12, 0, none⟩) ∧ s13 = .bool ok ∧
    Hid (Blk wx gb 44 #[.int .i64 g.ba, .int .i64 g.bi, .int .i64 g.ou, .slice A n c, .slice C m d, .int .i64 g.fi, .int .i64 g.ho, .int .i64 g.no] ∧ Blk wx b12 44 #[.int .i64 gg.ba, .int .i64 gg.bi, .int .i64 gg.ou, .slice A' n' c', .slice C' m' d', .int .i64 gg.fi, .int .i64 gg.ho, .int .i64 gg.no] ∧ tickG g (g.no + z) = (if ok then some gg else none) ∧ gg.tb.length = n' ∧ n' ≤ c' ∧ Fr A' w.heap.size ∧ TM wx A' gg.tb ∧ gg.cs.length = m' ∧ m' ≤ d' ∧ Fr C' w.heap.size ∧ TK wx C' gg.cs ∧ Below w.heap.size w wx ∧ gb < b12))
  case first =>
    have hq : Below w.heap.size w w.drew := Bl.of_drewN w 1
    replace k0 := k0.to hq; replace B := Bl.then B hq; (first | (replace kg := Blk.to kg hq) | skip); (first | (replace hTab := Rd.to hTab hq; replace hCon := Rd.to hCon hq) | skip); clear hq
    go_wp2_with fail
    refine wp_region_held_drew (S := (fun w' => w'.cell? ⟨gb, 0, none⟩ = some (.int .i64 g.ba) ∧ w'.cell? ⟨gb, 1, none⟩ = some (.int .i64 g.bi) ∧ w'.cell? ⟨gb, 2, none⟩ = some (.int .i64 g.ou) ∧ w'.cell? ⟨gb, 3, none⟩ = some (.slice A n c) ∧ w'.cell? ⟨gb, 4, none⟩ = some (.slice C m d) ∧ w'.cell? ⟨gb, 5, none⟩ = some (.int .i64 g.fi) ∧ w'.cell? ⟨gb, 6, none⟩ = some (.int .i64 g.ho) ∧ w'.cell? ⟨gb, 7, none⟩ = some (.int .i64 g.no))) (by kernel_rfl) ?_ (fun hHeld => ?_)
    · (try dsimp only); exact ⟨k0.cell 0, k0.cell 1, k0.cell 2, k0.cell 3, k0.cell 4, k0.cell 5, k0.cell 6, k0.cell 7⟩
    generalize World.drew w = wq at *
    refine wpAnyH_take (i := 0) (v := ?_) (arr_at rfl) (by kernel_rfl) (by kernel_rfl) (by kernel_rfl) (fun _ _ _ h => h) ?_ (by assumption) ?_
    rotate_left
    · first | (refine Or.inr ⟨by rfl, ?_⟩; with_reducible rfl) | (refine Or.inl ⟨by rfl, ?_⟩; intro w hSw; (try dsimp only at hSw); go_simp; first | done | with_reducible rfl)
    try simp only [Act.put, List.setIfInBounds_toArray, List.set_cons_zero, List.set_cons_succ]
    refine wpAnyH_take (i := 1) (v := ?_) (arr_at rfl) (by kernel_rfl) (by kernel_rfl) (by kernel_rfl) (fun _ _ _ h => h) ?_ (by assumption) ?_
    rotate_left
    · first | (refine Or.inr ⟨by rfl, ?_⟩; with_reducible rfl) | (refine Or.inl ⟨by rfl, ?_⟩; intro w hSw; (try dsimp only at hSw); go_simp; first | done | with_reducible rfl)
    try simp only [Act.put, List.setIfInBounds_toArray, List.set_cons_zero, List.set_cons_succ]
    refine wpAnyH_take (i := 2) (v := ?_) (arr_at rfl) (by kernel_rfl) (by kernel_rfl) (by kernel_rfl) (fun _ _ _ h => h) ?_ (by assumption) ?_
    rotate_left
    · first | (refine Or.inr ⟨by rfl, ?_⟩; with_reducible rfl) | (refine Or.inl ⟨by rfl, ?_⟩; intro w hSw; (try dsimp only at hSw); go_simp; first | done | with_reducible rfl)
    try simp only [Act.put, List.setIfInBounds_toArray, List.set_cons_zero, List.set_cons_succ]
    refine wpAnyH_take (i := 3) (v := ?_) (arr_at rfl) (by kernel_rfl) (by kernel_rfl) (by kernel_rfl) (fun _ _ _ h => h) ?_ (by assumption) ?_
    rotate_left
    · first | (refine Or.inr ⟨by rfl, ?_⟩; with_reducible rfl) | (refine Or.inl ⟨by rfl, ?_⟩; intro w hSw; (try dsimp only at hSw); go_simp; first | done | with_reducible rfl)
    try simp only [Act.put, List.setIfInBounds_toArray, List.set_cons_zero, List.set_cons_succ]
    refine wpAnyH_take (i := 4) (v := ?_) (arr_at rfl) (by kernel_rfl) (by kernel_rfl) (by kernel_rfl) (fun _ _ _ h => h) ?_ (by assumption) ?_
    rotate_left
    · first | (refine Or.inr ⟨by rfl, ?_⟩; with_reducible rfl) | (refine Or.inl ⟨by rfl, ?_⟩; intro w hSw; (try dsimp only at hSw); go_simp; first | done | with_reducible rfl)
    try simp only [Act.put, List.setIfInBounds_toArray, List.set_cons_zero, List.set_cons_succ]
    refine wpAnyH_take (i := 5) (v := ?_) (arr_at rfl) (by kernel_rfl) (by kernel_rfl) (by kernel_rfl) (fun _ _ _ h => h) ?_ (by assumption) ?_
    rotate_left
    · first | (refine Or.inr ⟨by rfl, ?_⟩; with_reducible rfl) | (refine Or.inl ⟨by rfl, ?_⟩; intro w hSw; (try dsimp only at hSw); go_simp; first | done | with_reducible rfl)
    try simp only [Act.put, List.setIfInBounds_toArray, List.set_cons_zero, List.set_cons_succ]
    refine wpAnyH_take (i := 6) (v := ?_) (arr_at rfl) (by kernel_rfl) (by kernel_rfl) (by kernel_rfl) (fun _ _ _ h => h) ?_ (by assumption) ?_
    rotate_left
    · first | (refine Or.inr ⟨by rfl, ?_⟩; with_reducible rfl) | (refine Or.inl ⟨by rfl, ?_⟩; intro w hSw; (try dsimp only at hSw); go_simp; first | done | with_reducible rfl)
    try simp only [Act.put, List.setIfInBounds_toArray, List.set_cons_zero, List.set_cons_succ]
    refine wpAnyH_take (i := 7) (v := ?_) (arr_at rfl) (by kernel_rfl) (by kernel_rfl) (by kernel_rfl) (fun _ _ _ h => h) ?_ (by assumption) ?_
    rotate_left
    · first | (refine Or.inr ⟨by rfl, ?_⟩; with_reducible rfl) | (refine Or.inl ⟨by rfl, ?_⟩; intro w hSw; (try dsimp only at hSw); go_simp; first | done | with_reducible rfl)
    try simp only [Act.put, List.setIfInBounds_toArray, List.set_cons_zero, List.set_cons_succ]
    refine wpAnyH_take (i := 8) (v := ?_) (arr_at rfl) (by kernel_rfl) (by kernel_rfl) (by kernel_rfl) (fun _ _ _ h => h) ?_ (by assumption) ?_
    rotate_left
    · first | (refine Or.inr ⟨by rfl, ?_⟩; with_reducible rfl) | (refine Or.inl ⟨by rfl, ?_⟩; intro w hSw; (try dsimp only at hSw); go_simp; first | done | with_reducible rfl)
    try simp only [Act.put, List.setIfInBounds_toArray, List.set_cons_zero, List.set_cons_succ]
    refine wpAnyH_ready (rs := [9, 13]) (by kernel_rfl) (by simp) ?_
    refine AllReadyH.cons (arr_at rfl) (fun K hK => ?_) (AllReadyH.cons (arr_at rfl) (fun K hK => ?_) AllReadyH.nil)
    · go_simp
      go_at_call 43; refine (c_iTick g (g.no + z) A n c C m d _ HV.out HN.out hc (HA.out _ B) HM.out hd (HC.out _ B)).mono ?_; rintro e wF ⟨hq, gg, A', n', c', C', m', d', ok, rfl, HO, hn', hc', hFr, hTab, hm', hd', hFc, hCon⟩; (first | (have hT12 := fr_apart (vs := mapCs gg.tb) hFr kg.lt; have hC12 := fr_apart (vs := conCs gg.cs) hFc kg.lt) | skip); replace hFr := hFr.low (c := w.heap.size) B.size; replace hFc := hFc.low (c := w.heap.size) B.size; replace k0 := k0.to hq; replace B := Bl.then B hq; (first | (replace kg := Blk.to kg hq) | skip); clear hq
      refine hK.out _ _ ?_ (fun hHeld => ?_)
      · (try dsimp only); exact ⟨k0.cell 0, k0.cell 1, k0.cell 2, k0.cell 3, k0.cell 4, k0.cell 5, k0.cell 6, k0.cell 7⟩
      clear hK K
      try simp only [Act.put, List.setIfInBounds_toArray, List.set_cons_zero, List.set_cons_succ]
      refine wpAnyH_take (i := 10) (v := ?_) (arr_at rfl) (by kernel_rfl) (by kernel_rfl) (by kernel_rfl) (fun _ _ _ h => h) ?_ (by assumption) ?_
      rotate_left
      · first | (refine Or.inr ⟨by rfl, ?_⟩; with_reducible rfl) | (refine Or.inl ⟨by rfl, ?_⟩; intro w hSw; (try dsimp only at hSw); go_simp; first | done | with_reducible rfl)
      try simp only [Act.put, List.setIfInBounds_toArray, List.set_cons_zero, List.set_cons_succ]
      refine wpAnyH_take (i := 11) (v := ?_) (arr_at rfl) (by kernel_rfl) (by kernel_rfl) (by kernel_rfl) (fun _ _ _ h => h) ?_ (by assumption) ?_
      rotate_left
      · first | (refine Or.inr ⟨by rfl, ?_⟩; with_reducible rfl) | (refine Or.inl ⟨by rfl, ?_⟩; intro w hSw; (try dsimp only at hSw); go_simp; first | done | with_reducible rfl)
      try simp only [Act.put, List.setIfInBounds_toArray, List.set_cons_zero, List.set_cons_succ]
      refine wpAnyH_take (i := 12) (v := ?_) (arr_at rfl) (by kernel_rfl) (by kernel_rfl) (by kernel_rfl) (fun _ _ _ h => h) ?_ (by assumption) ?_
      rotate_left
      · first | (refine Or.inr ⟨by rfl, ?_⟩; with_reducible rfl) | (refine Or.inl ⟨by rfl, ?_⟩; intro w hSw; (try dsimp only at hSw); go_simp; first | done | with_reducible rfl)
      try simp only [Act.put, List.setIfInBounds_toArray, List.set_cons_zero, List.set_cons_succ]
      refine wpAnyH_ready (rs := [13]) (by kernel_rfl) (by simp) ?_
      refine AllReadyH.cons (arr_at rfl) (fun K hK => ?_) AllReadyH.nil
      go_simp
      obtain ⟨wg, b12, ex, eb, hq, kgn⟩ := allocB B #[.int .i64 0, .int .i64 0, .int .i64 0, .slice none 0 0, .slice none 0 0, .int .i64 0, .int .i64 0, .int .i64 0] 44; rw [ex, eb]; have hg12 := k0.lt; rw [eb] at hg12; have hw12 := B.size; rw [eb] at hw12; (first | (have hT12 := near_apart hTab eb; have hC12 := near_apart hCon eb) | skip); clear ex eb; replace k0 := k0.to hq; replace B := Bl.then B hq; (first | (replace kg := Blk.to kg hq) | skip); (first | (replace hTab := Rd.to hTab hq; replace hCon := Rd.to hCon hq) | skip); clear hq; have kg := kgn; clear kgn
      refine hK.out _ _ ?_ (fun hHeld => ?_)
      · (try dsimp only); exact ⟨k0.cell 0, k0.cell 1, k0.cell 2, k0.cell 3, k0.cell 4, k0.cell 5, k0.cell 6, k0.cell 7⟩
      clear hK K
      try simp only [Act.put, List.setIfInBounds_toArray, List.set_cons_zero, List.set_cons_succ]
      refine wpAnyH_ready (rs := [14]) (by kernel_rfl) (by simp) ?_
      refine AllReadyH.cons (arr_at rfl) (fun K hK => ?_) AllReadyH.nil
      have e0 := kg.cell 0; have e1 := kg.cell 1; have e2 := kg.cell 2; have e3 := kg.cell 3; have e4 := kg.cell 4; have e5 := kg.cell 5; have e6 := kg.cell 6; have e7 := kg.cell 7; have f0 := kg.frozen 0; have f1 := kg.frozen 1; have f2 := kg.frozen 2; have f3 := kg.frozen 3; have f4 := kg.frozen 4; have f5 := kg.frozen 5; have f6 := kg.frozen 6; have f7 := kg.frozen 7; have hlp := kg.lt; simp only [List.getElem?_toArray, List.getElem?_cons_zero, List.getElem?_cons_succ] at e0 e1 e2 e3 e4 e5 e6 e7; go_simp; clear e0 e1 e2 e3 e4 e5 e6 e7 f0 f1 f2 f3 f4 f5 f6 f7 hlp; obtain ⟨W2, e, z, hf, hb, hr⟩ := put8 kg (.int .i64 gg.ba) (.int .i64 gg.bi) (.int .i64 gg.ou) (.slice A' n' c') (.slice C' m' d') (.int .i64 gg.fi) (.int .i64 gg.ho) (.int .i64 gg.no); rw [e]; clear e; replace k0 := hf k0 (by omega); replace B := hb B (by omega); replace hTab := (hr (base := 0)).2 hTab hT12; replace hCon := (hr (base := 0)).2 hCon hC12; replace kg := z; clear z hf hb hr
      refine hK.out _ _ ?_ (fun hHeld => ?_)
      · (try dsimp only); exact ⟨k0.cell 0, k0.cell 1, k0.cell 2, k0.cell 3, k0.cell 4, k0.cell 5, k0.cell 6, k0.cell 7⟩
      clear hK K
      try simp only [Act.put, List.setIfInBounds_toArray, List.set_cons_zero, List.set_cons_succ]
      refine wpAnyH_take (i := 15) (v := ?_) (arr_at rfl) (by kernel_rfl) (by kernel_rfl) (by kernel_rfl) (fun _ _ _ h => h) ?_ (by assumption) ?_
      rotate_left
      · first | (refine Or.inr ⟨by rfl, ?_⟩; with_reducible rfl) | (refine Or.inl ⟨by rfl, ?_⟩; intro w hSw; (try dsimp only at hSw); go_simp; first | done | with_reducible rfl)
      try simp only [Act.put, List.setIfInBounds_toArray, List.set_cons_zero, List.set_cons_succ]
      refine wpAnyH_done (by kernel_rfl) ?_ _
      go_wp2_with fail
      go_meet
      exact ⟨b12, ok, gg, A', n', c', C', m', d', rfl, rfl, k0, kg, HO, hn', hc', hFr, hTab, hm', hd', hFc, hCon, B, hg12⟩
    · go_simp
      obtain ⟨wg, b12, ex, eb, hq, kgn⟩ := allocB B #[.int .i64 0, .int .i64 0, .int .i64 0, .slice none 0 0, .slice none 0 0, .int .i64 0, .int .i64 0, .int .i64 0] 44; rw [ex, eb]; have hg12 := k0.lt; rw [eb] at hg12; have hw12 := B.size; rw [eb] at hw12; (first | (have hT12 := near_apart hTab eb; have hC12 := near_apart hCon eb) | skip); clear ex eb; replace k0 := k0.to hq; replace B := Bl.then B hq; (first | (replace kg := Blk.to kg hq) | skip); (first | (replace hTab := Rd.to hTab hq; replace hCon := Rd.to hCon hq) | skip); clear hq; have kg := kgn; clear kgn
      refine hK.out _ _ ?_ (fun hHeld => ?_)
      · (try dsimp only); exact ⟨k0.cell 0, k0.cell 1, k0.cell 2, k0.cell 3, k0.cell 4, k0.cell 5, k0.cell 6, k0.cell 7⟩
      clear hK K
      try simp only [Act.put, List.setIfInBounds_toArray, List.set_cons_zero, List.set_cons_succ]
      refine wpAnyH_ready (rs := [9]) (by kernel_rfl) (by simp) ?_
      refine AllReadyH.cons (arr_at rfl) (fun K hK => ?_) AllReadyH.nil
      go_simp
      go_at_call 43; refine (c_iTick g (g.no + z) A n c C m d _ HV.out HN.out hc (HA.out _ B) HM.out hd (HC.out _ B)).mono ?_; rintro e wF ⟨hq, gg, A', n', c', C', m', d', ok, rfl, HO, hn', hc', hFr, hTab, hm', hd', hFc, hCon⟩; (first | (have hT12 := fr_apart (vs := mapCs gg.tb) hFr kg.lt; have hC12 := fr_apart (vs := conCs gg.cs) hFc kg.lt) | skip); replace hFr := hFr.low (c := w.heap.size) B.size; replace hFc := hFc.low (c := w.heap.size) B.size; replace k0 := k0.to hq; replace B := Bl.then B hq; (first | (replace kg := Blk.to kg hq) | skip); clear hq
      refine hK.out _ _ ?_ (fun hHeld => ?_)
      · (try dsimp only); exact ⟨k0.cell 0, k0.cell 1, k0.cell 2, k0.cell 3, k0.cell 4, k0.cell 5, k0.cell 6, k0.cell 7⟩
      clear hK K
      try simp only [Act.put, List.setIfInBounds_toArray, List.set_cons_zero, List.set_cons_succ]
      refine wpAnyH_take (i := 10) (v := ?_) (arr_at rfl) (by kernel_rfl) (by kernel_rfl) (by kernel_rfl) (fun _ _ _ h => h) ?_ (by assumption) ?_
      rotate_left
      · first | (refine Or.inr ⟨by rfl, ?_⟩; with_reducible rfl) | (refine Or.inl ⟨by rfl, ?_⟩; intro w hSw; (try dsimp only at hSw); go_simp; first | done | with_reducible rfl)
      try simp only [Act.put, List.setIfInBounds_toArray, List.set_cons_zero, List.set_cons_succ]
      refine wpAnyH_take (i := 11) (v := ?_) (arr_at rfl) (by kernel_rfl) (by kernel_rfl) (by kernel_rfl) (fun _ _ _ h => h) ?_ (by assumption) ?_
      rotate_left
      · first | (refine Or.inr ⟨by rfl, ?_⟩; with_reducible rfl) | (refine Or.inl ⟨by rfl, ?_⟩; intro w hSw; (try dsimp only at hSw); go_simp; first | done | with_reducible rfl)
      try simp only [Act.put, List.setIfInBounds_toArray, List.set_cons_zero, List.set_cons_succ]
      refine wpAnyH_take (i := 12) (v := ?_) (arr_at rfl) (by kernel_rfl) (by kernel_rfl) (by kernel_rfl) (fun _ _ _ h => h) ?_ (by assumption) ?_
      rotate_left
      · first | (refine Or.inr ⟨by rfl, ?_⟩; with_reducible rfl) | (refine Or.inl ⟨by rfl, ?_⟩; intro w hSw; (try dsimp only at hSw); go_simp; first | done | with_reducible rfl)
      try simp only [Act.put, List.setIfInBounds_toArray, List.set_cons_zero, List.set_cons_succ]
      refine wpAnyH_ready (rs := [14]) (by kernel_rfl) (by simp) ?_
      refine AllReadyH.cons (arr_at rfl) (fun K hK => ?_) AllReadyH.nil
      have e0 := kg.cell 0; have e1 := kg.cell 1; have e2 := kg.cell 2; have e3 := kg.cell 3; have e4 := kg.cell 4; have e5 := kg.cell 5; have e6 := kg.cell 6; have e7 := kg.cell 7; have f0 := kg.frozen 0; have f1 := kg.frozen 1; have f2 := kg.frozen 2; have f3 := kg.frozen 3; have f4 := kg.frozen 4; have f5 := kg.frozen 5; have f6 := kg.frozen 6; have f7 := kg.frozen 7; have hlp := kg.lt; simp only [List.getElem?_toArray, List.getElem?_cons_zero, List.getElem?_cons_succ] at e0 e1 e2 e3 e4 e5 e6 e7; go_simp; clear e0 e1 e2 e3 e4 e5 e6 e7 f0 f1 f2 f3 f4 f5 f6 f7 hlp; obtain ⟨W2, e, z, hf, hb, hr⟩ := put8 kg (.int .i64 gg.ba) (.int .i64 gg.bi) (.int .i64 gg.ou) (.slice A' n' c') (.slice C' m' d') (.int .i64 gg.fi) (.int .i64 gg.ho) (.int .i64 gg.no); rw [e]; clear e; replace k0 := hf k0 (by omega); replace B := hb B (by omega); replace hTab := (hr (base := 0)).2 hTab hT12; replace hCon := (hr (base := 0)).2 hCon hC12; replace kg := z; clear z hf hb hr
      refine hK.out _ _ ?_ (fun hHeld => ?_)
      · (try dsimp only); exact ⟨k0.cell 0, k0.cell 1, k0.cell 2, k0.cell 3, k0.cell 4, k0.cell 5, k0.cell 6, k0.cell 7⟩
      clear hK K
      try simp only [Act.put, List.setIfInBounds_toArray, List.set_cons_zero, List.set_cons_succ]
      refine wpAnyH_take (i := 15) (v := ?_) (arr_at rfl) (by kernel_rfl) (by kernel_rfl) (by kernel_rfl) (fun _ _ _ h => h) ?_ (by assumption) ?_
      rotate_left
      · first | (refine Or.inr ⟨by rfl, ?_⟩; with_reducible rfl) | (refine Or.inl ⟨by rfl, ?_⟩; intro w hSw; (try dsimp only at hSw); go_simp; first | done | with_reducible rfl)
      try simp only [Act.put, List.setIfInBounds_toArray, List.set_cons_zero, List.set_cons_succ]
      refine wpAnyH_done (by kernel_rfl) ?_ _
      go_wp2_with fail
      go_meet
      exact ⟨b12, ok, gg, A', n', c', C', m', d', rfl, rfl, k0, kg, HO, hn', hc', hFr, hTab, hm', hd', hFc, hCon, B, hg12⟩
  case rest =>
    clear k0 B
    obtain ⟨b12, ok, gg, A', n', c', C', m', d', rfl, rfl, HH⟩ := hcut
    obtain ⟨k0, kg, HO, hn', hc', hFr, hTab, hm', hd', hFc, hCon, B, hg12⟩ := HH.out
    clear HH
    by_cases hneg : z < 0
    · have t0 : decide (z < 0) = true := by rw [decide_eq_true_eq]; exact hneg
      have HZ : Hid (waitL g z = (noL, g)) := Lib.hid (by unfold waitL; rw [if_pos hneg])
      clear hneg
      go_wp2
      go_ret
      exact ⟨by rw [HZ.out]; rfl, by rw [HZ.out]; exact (HGA.out.to B).inl, grown_of_below B _⟩
    have t0 : decide (z < 0) = false := by rw [decide_eq_false_iff_not]; exact hneg
    cases ok
    · have HZ : Hid (waitL g z = (noL, g)) := Lib.hid (by unfold waitL; rw [if_neg hneg, HO]; rfl)
      clear hneg
      go_wp2
      go_ret
      exact ⟨by rw [HZ.out]; rfl, by rw [HZ.out]; exact (HGA.out.to B).inl, grown_of_below B _⟩
    have HZ : Hid (waitL g z = (okL, gg)) := Lib.hid (by unfold waitL; rw [if_neg hneg, HO]; rfl)
    have HF := Lib.hid (And.intro hn' (And.intro hc' (And.intro hm' hd')))
    clear HO hn' hc' hm' hd' hneg
    have e0 := kg.cell 0
    have e1 := kg.cell 1
    have e2 := kg.cell 2
    have e3 := kg.cell 3
    have e4 := kg.cell 4
    have e5 := kg.cell 5
    have e6 := kg.cell 6
    have e7 := kg.cell 7
    have y0 := k0.cell 0
    have f0 := k0.frozen 0
    have y1 := k0.cell 1
    have f1 := k0.frozen 1
    have y2 := k0.cell 2
    have f2 := k0.frozen 2
    have y3 := k0.cell 3
    have f3 := k0.frozen 3
    have y4 := k0.cell 4
    have f4 := k0.frozen 4
    have y5 := k0.cell 5
    have f5 := k0.frozen 5
    have y6 := k0.cell 6
    have f6 := k0.frozen 6
    have y7 := k0.cell 7
    have f7 := k0.frozen 7
    have l1 := k0.lt
    have l2 := kg.lt
    simp only [List.getElem?_toArray, List.getElem?_cons_zero, List.getElem?_cons_succ] at e0 e1 e2 e3 e4 e5 e6 e7 y0 y1 y2 y3 y4 y5 y6 y7
    go_wp2
    clear e0 e1 e2 e3 e4 e5 e6 e7 y0 y1 y2 y3 y4 y5 y6 y7 f0 f1 f2 f3 f4 f5 f6 f7 l1 l2
    have hgr := put8g wc gb (.int .i64 gg.ba) (.int .i64 gg.bi) (.int .i64 gg.ou) (.slice A' n' c') (.slice C' m' d') (.int .i64 gg.fi) (.int .i64 gg.ho) (.int .i64 gg.no)
    obtain ⟨W9, e, zz, hf, hb, hr⟩ := put8 k0 (.int .i64 gg.ba) (.int .i64 gg.bi) (.int .i64 gg.ou) (.slice A' n' c') (.slice C' m' d') (.int .i64 gg.fi) (.int .i64 gg.ho) (.int .i64 gg.no)
    rw [e] at hgr ⊢
    have HGR := Lib.hid (grown_trans (grown_of_below B (some gb)) hgr)
    replace hTab := hr.1 hTab hFr hgl
    replace hCon := hr.1 hCon hFc hgl
    have HG9 : Hid (GA W9 gb 44 (fun k => P k ∨ w.heap.size ≤ k) gg) := ⟨A', n', c', C', m', d', zz, HF.out.1, HF.out.2.1, hTab, HF.out.2.2.1, HF.out.2.2.2, hCon, fr_both hFr hgl, fr_both hFc hgl⟩
    go_ret
    exact ⟨by rw [HZ.out]; rfl, by rw [HZ.out]; exact HG9.out, HGR.out⟩
set_option maxHeartbeats 3200000 in
theorem c_sWait (g : Gt) (gb : Nat) (P : Nat → Prop) (w : World) (s : ByteArray) (hv : vGate g = true) (hG : GA w gb 56 P g) (hs : s.size ≤ 4000000000) :
    Calls Tryz.prog 34 #[.pointer (some ⟨gb, 0, none⟩), .string s] w fun e w' => e = .returned (.string ⟨(waitL g (numV s.data.toList)).1.toArray⟩) ∧ GA w' gb 56 (fun k => P k ∨ w.heap.size ≤ k) (waitL g (numV s.data.toList)).2 ∧ w.grownBy w' (some gb) := by
  have HGA := Lib.hid hG
  obtain ⟨A, n, c, C, m, d, k0, hn, hc, h, hm, hd, h', ap1, ap2⟩ := hG
  have HN := Lib.hid hn
  have HM := Lib.hid hm
  have HA : Hid (∀ W, Below w.heap.size w W → TM W A g.tb) := fun W b => h.to b
  have HC : Hid (∀ W, Below w.heap.size w W → TK W C g.cs) := fun W b => h'.to b
  have HV := Lib.hid hv
  have HAP := Lib.hid (And.intro ap1 ap2)
  have hgl := k0.lt
  have hno := inB_true (gate_nums hv).2.2.2.2.2
  have B : Below w.heap.size w w := Below.refl _ _
  clear hn hm h h' hv ap1 ap2
  have hzb := numV_bd s.data.toList
  go_enter Tryz.func34, Tryz.ntmps34
  go_wp2_with fail
  refine (c_parseInt s _ hs).mono ?_
  rintro e w1 ⟨rfl, hq⟩
  obtain ⟨z, hz0⟩ : ∃ z, numV s.data.toList = z := ⟨_, rfl⟩
  rw [hz0] at hzb ⊢
  have HNV := Lib.hid hz0
  clear hz0
  have hz1 := hzb.1
  have hz2 : z ≤ 100000 := by omega
  have ew : IntKind.i64.wrap (g.no + max z 0) = g.no + max z 0 := IntWalk.i64_in _ (by omega)
  replace k0 := k0.to hq
  replace B := Bl.then B hq
  clear hq hzb
  go_upto_region 2 with fail
  go_cut [6, 7] (fun s12 s13 wx => ∃ (b12 : Nat) (ok : Bool) (gg : Gt) (A' : Option Addr) (n' c' : Nat) (C' : Option Addr) (m' d' : Nat), s12 = .pointer (some ⟨b12, 0, none⟩) ∧ s13 = .bool ok ∧
    Hid (Blk wx gb 56 #[.int .i64 g.ba, .int .i64 g.bi, .int .i64 g.ou, .slice A n c, .slice C m d, .int .i64 g.fi, .int .i64 g.ho, .int .i64 g.no] ∧ Blk wx b12 44 #[.int .i64 gg.ba, .int .i64 gg.bi, .int .i64 gg.ou, .slice A' n' c', .slice C' m' d', .int .i64 gg.fi, .int .i64 gg.ho, .int .i64 gg.no] ∧ tickG g (g.no + max z 0) = (if ok then some gg else none) ∧ gg.tb.length = n' ∧ n' ≤ c' ∧ Fr A' w.heap.size ∧ TM wx A' gg.tb ∧ gg.cs.length = m' ∧ m' ≤ d' ∧ Fr C' w.heap.size ∧ TK wx C' gg.cs ∧ Below w.heap.size w wx ∧ gb < b12))
  case first =>
    have hq : Below w1.heap.size w1 w1.drew := Bl.of_drewN w1 1
    replace k0 := k0.to hq; replace B := Bl.then B hq; (first | (replace kg := Blk.to kg hq) | skip); (first | (replace hTab := Rd.to hTab hq; replace hCon := Rd.to hCon hq) | skip); clear hq
    go_wp2_with fail
    refine wp_region_held_drew (S := (fun w' => w'.cell? ⟨gb, 0, none⟩ = some (.int .i64 g.ba) ∧ w'.cell? ⟨gb, 1, none⟩ = some (.int .i64 g.bi) ∧ w'.cell? ⟨gb, 2, none⟩ = some (.int .i64 g.ou) ∧ w'.cell? ⟨gb, 3, none⟩ = some (.slice A n c) ∧ w'.cell? ⟨gb, 4, none⟩ = some (.slice C m d) ∧ w'.cell? ⟨gb, 5, none⟩ = some (.int .i64 g.fi) ∧ w'.cell? ⟨gb, 6, none⟩ = some (.int .i64 g.ho) ∧ w'.cell? ⟨gb, 7, none⟩ = some (.int .i64 g.no))) (by kernel_rfl) ?_ (fun hHeld => ?_)
    · (try dsimp only); exact ⟨k0.cell 0, k0.cell 1, k0.cell 2, k0.cell 3, k0.cell 4, k0.cell 5, k0.cell 6, k0.cell 7⟩
    generalize World.drew w1 = wq at *
    refine wpAnyH_take (i := 0) (v := ?_) (arr_at rfl) (by kernel_rfl) (by kernel_rfl) (by kernel_rfl) (fun _ _ _ h => h) ?_ (by assumption) ?_
    rotate_left
    · first | (refine Or.inr ⟨by rfl, ?_⟩; with_reducible rfl) | (refine Or.inl ⟨by rfl, ?_⟩; intro w hSw; (try dsimp only at hSw); go_simp; first | done | with_reducible rfl)
    try simp only [Act.put, List.setIfInBounds_toArray, List.set_cons_zero, List.set_cons_succ]
    refine wpAnyH_take (i := 1) (v := ?_) (arr_at rfl) (by kernel_rfl) (by kernel_rfl) (by kernel_rfl) (fun _ _ _ h => h) ?_ (by assumption) ?_
    rotate_left
    · first | (refine Or.inr ⟨by rfl, ?_⟩; with_reducible rfl) | (refine Or.inl ⟨by rfl, ?_⟩; intro w hSw; (try dsimp only at hSw); go_simp; first | done | with_reducible rfl)
    try simp only [Act.put, List.setIfInBounds_toArray, List.set_cons_zero, List.set_cons_succ]
    refine wpAnyH_take (i := 2) (v := ?_) (arr_at rfl) (by kernel_rfl) (by kernel_rfl) (by kernel_rfl) (fun _ _ _ h => h) ?_ (by assumption) ?_
    rotate_left
    · first | (refine Or.inr ⟨by rfl, ?_⟩; with_reducible rfl) | (refine Or.inl ⟨by rfl, ?_⟩; intro w hSw; (try dsimp only at hSw); go_simp; first | done | with_reducible rfl)
    try simp only [Act.put, List.setIfInBounds_toArray, List.set_cons_zero, List.set_cons_succ]
    refine wpAnyH_take (i := 3) (v := ?_) (arr_at rfl) (by kernel_rfl) (by kernel_rfl) (by kernel_rfl) (fun _ _ _ h => h) ?_ (by assumption) ?_
    rotate_left
    · first | (refine Or.inr ⟨by rfl, ?_⟩; with_reducible rfl) | (refine Or.inl ⟨by rfl, ?_⟩; intro w hSw; (try dsimp only at hSw); go_simp; first | done | with_reducible rfl)
    try simp only [Act.put, List.setIfInBounds_toArray, List.set_cons_zero, List.set_cons_succ]
    refine wpAnyH_take (i := 4) (v := ?_) (arr_at rfl) (by kernel_rfl) (by kernel_rfl) (by kernel_rfl) (fun _ _ _ h => h) ?_ (by assumption) ?_
    rotate_left
    · first | (refine Or.inr ⟨by rfl, ?_⟩; with_reducible rfl) | (refine Or.inl ⟨by rfl, ?_⟩; intro w hSw; (try dsimp only at hSw); go_simp; first | done | with_reducible rfl)
    try simp only [Act.put, List.setIfInBounds_toArray, List.set_cons_zero, List.set_cons_succ]
    refine wpAnyH_take (i := 5) (v := ?_) (arr_at rfl) (by kernel_rfl) (by kernel_rfl) (by kernel_rfl) (fun _ _ _ h => h) ?_ (by assumption) ?_
    rotate_left
    · first | (refine Or.inr ⟨by rfl, ?_⟩; with_reducible rfl) | (refine Or.inl ⟨by rfl, ?_⟩; intro w hSw; (try dsimp only at hSw); go_simp; first | done | with_reducible rfl)
    try simp only [Act.put, List.setIfInBounds_toArray, List.set_cons_zero, List.set_cons_succ]
    refine wpAnyH_take (i := 6) (v := ?_) (arr_at rfl) (by kernel_rfl) (by kernel_rfl) (by kernel_rfl) (fun _ _ _ h => h) ?_ (by assumption) ?_
    rotate_left
    · first | (refine Or.inr ⟨by rfl, ?_⟩; with_reducible rfl) | (refine Or.inl ⟨by rfl, ?_⟩; intro w hSw; (try dsimp only at hSw); go_simp; first | done | with_reducible rfl)
    try simp only [Act.put, List.setIfInBounds_toArray, List.set_cons_zero, List.set_cons_succ]
    refine wpAnyH_take (i := 7) (v := ?_) (arr_at rfl) (by kernel_rfl) (by kernel_rfl) (by kernel_rfl) (fun _ _ _ h => h) ?_ (by assumption) ?_
    rotate_left
    · first | (refine Or.inr ⟨by rfl, ?_⟩; with_reducible rfl) | (refine Or.inl ⟨by rfl, ?_⟩; intro w hSw; (try dsimp only at hSw); go_simp; first | done | with_reducible rfl)
    try simp only [Act.put, List.setIfInBounds_toArray, List.set_cons_zero, List.set_cons_succ]
    refine wpAnyH_take (i := 8) (v := ?_) (arr_at rfl) (by kernel_rfl) (by kernel_rfl) (by kernel_rfl) (fun _ _ _ h => h) ?_ (by assumption) ?_
    rotate_left
    · first | (refine Or.inr ⟨by rfl, ?_⟩; with_reducible rfl) | (refine Or.inl ⟨by rfl, ?_⟩; intro w hSw; (try dsimp only at hSw); go_simp; first | done | with_reducible rfl)
    try simp only [Act.put, List.setIfInBounds_toArray, List.set_cons_zero, List.set_cons_succ]
    refine wpAnyH_take (i := 9) (v := ?_) (arr_at rfl) (by kernel_rfl) (by kernel_rfl) (by kernel_rfl) (fun _ _ _ h => h) ?_ (by assumption) ?_
    rotate_left
    · first | (refine Or.inr ⟨by rfl, ?_⟩; with_reducible rfl) | (refine Or.inl ⟨by rfl, ?_⟩; intro w hSw; (try dsimp only at hSw); go_simp; first | done | with_reducible rfl)
    try simp only [Act.put, List.setIfInBounds_toArray, List.set_cons_zero, List.set_cons_succ]
    refine wpAnyH_take (i := 10) (v := ?_) (arr_at rfl) (by kernel_rfl) (by kernel_rfl) (by kernel_rfl) (fun _ _ _ h => h) ?_ (by assumption) ?_
    rotate_left
    · first | (refine Or.inr ⟨by rfl, ?_⟩; with_reducible rfl) | (refine Or.inl ⟨by rfl, ?_⟩; intro w hSw; (try dsimp only at hSw); go_simp; first | done | with_reducible rfl)
    try simp only [Act.put, List.setIfInBounds_toArray, List.set_cons_zero, List.set_cons_succ]
    refine wpAnyH_take (i := 11) (v := ?_) (arr_at rfl) (by kernel_rfl) (by kernel_rfl) (by kernel_rfl) (fun _ _ _ h => h) ?_ (by assumption) ?_
    rotate_left
    · first | (refine Or.inr ⟨by rfl, ?_⟩; with_reducible rfl) | (refine Or.inl ⟨by rfl, ?_⟩; intro w hSw; (try dsimp only at hSw); go_simp; first | done | with_reducible rfl)
    try simp only [Act.put, List.setIfInBounds_toArray, List.set_cons_zero, List.set_cons_succ]
    refine wpAnyH_ready (rs := [12, 16]) (by kernel_rfl) (by simp) ?_
    refine AllReadyH.cons (arr_at rfl) (fun K hK => ?_) (AllReadyH.cons (arr_at rfl) (fun K hK => ?_) AllReadyH.nil)
    · go_simp
      go_at_call 53; refine (c_sTick g (g.no + max z 0) A n c C m d _ HV.out HN.out (HA.out _ B) HM.out (HC.out _ B)).mono ?_; rintro e wF ⟨hq, gg, A', n', c', C', m', d', ok, rfl, HO, hn', hc', hFr, hTab, hm', hd', hFc, hCon⟩; (first | (have hT12 := fr_apart (vs := mapCs gg.tb) hFr kg.lt; have hC12 := fr_apart (vs := conCs gg.cs) hFc kg.lt) | skip); replace hFr := hFr.low (c := w.heap.size) B.size; replace hFc := hFc.low (c := w.heap.size) B.size; replace k0 := k0.to hq; replace B := Bl.then B hq; (first | (replace kg := Blk.to kg hq) | skip); clear hq
      refine hK.out _ _ ?_ (fun hHeld => ?_)
      · (try dsimp only); exact ⟨k0.cell 0, k0.cell 1, k0.cell 2, k0.cell 3, k0.cell 4, k0.cell 5, k0.cell 6, k0.cell 7⟩
      clear hK K
      try simp only [Act.put, List.setIfInBounds_toArray, List.set_cons_zero, List.set_cons_succ]
      refine wpAnyH_take (i := 13) (v := ?_) (arr_at rfl) (by kernel_rfl) (by kernel_rfl) (by kernel_rfl) (fun _ _ _ h => h) ?_ (by assumption) ?_
      rotate_left
      · first | (refine Or.inr ⟨by rfl, ?_⟩; with_reducible rfl) | (refine Or.inl ⟨by rfl, ?_⟩; intro w hSw; (try dsimp only at hSw); go_simp; first | done | with_reducible rfl)
      try simp only [Act.put, List.setIfInBounds_toArray, List.set_cons_zero, List.set_cons_succ]
      refine wpAnyH_take (i := 14) (v := ?_) (arr_at rfl) (by kernel_rfl) (by kernel_rfl) (by kernel_rfl) (fun _ _ _ h => h) ?_ (by assumption) ?_
      rotate_left
      · first | (refine Or.inr ⟨by rfl, ?_⟩; with_reducible rfl) | (refine Or.inl ⟨by rfl, ?_⟩; intro w hSw; (try dsimp only at hSw); go_simp; first | done | with_reducible rfl)
      try simp only [Act.put, List.setIfInBounds_toArray, List.set_cons_zero, List.set_cons_succ]
      refine wpAnyH_take (i := 15) (v := ?_) (arr_at rfl) (by kernel_rfl) (by kernel_rfl) (by kernel_rfl) (fun _ _ _ h => h) ?_ (by assumption) ?_
      rotate_left
      · first | (refine Or.inr ⟨by rfl, ?_⟩; with_reducible rfl) | (refine Or.inl ⟨by rfl, ?_⟩; intro w hSw; (try dsimp only at hSw); go_simp; first | done | with_reducible rfl)
      try simp only [Act.put, List.setIfInBounds_toArray, List.set_cons_zero, List.set_cons_succ]
      refine wpAnyH_ready (rs := [16]) (by kernel_rfl) (by simp) ?_
      refine AllReadyH.cons (arr_at rfl) (fun K hK => ?_) AllReadyH.nil
      go_simp
      obtain ⟨wg, b12, ex, eb, hq, kgn⟩ := allocB B #[.int .i64 0, .int .i64 0, .int .i64 0, .slice none 0 0, .slice none 0 0, .int .i64 0, .int .i64 0, .int .i64 0] 44; rw [ex, eb]; have hg12 := k0.lt; rw [eb] at hg12; have hw12 := B.size; rw [eb] at hw12; (first | (have hT12 := near_apart hTab eb; have hC12 := near_apart hCon eb) | skip); clear ex eb; replace k0 := k0.to hq; replace B := Bl.then B hq; (first | (replace kg := Blk.to kg hq) | skip); (first | (replace hTab := Rd.to hTab hq; replace hCon := Rd.to hCon hq) | skip); clear hq; have kg := kgn; clear kgn
      refine hK.out _ _ ?_ (fun hHeld => ?_)
      · (try dsimp only); exact ⟨k0.cell 0, k0.cell 1, k0.cell 2, k0.cell 3, k0.cell 4, k0.cell 5, k0.cell 6, k0.cell 7⟩
      clear hK K
      try simp only [Act.put, List.setIfInBounds_toArray, List.set_cons_zero, List.set_cons_succ]
      refine wpAnyH_ready (rs := [17]) (by kernel_rfl) (by simp) ?_
      refine AllReadyH.cons (arr_at rfl) (fun K hK => ?_) AllReadyH.nil
      have e0 := kg.cell 0; have e1 := kg.cell 1; have e2 := kg.cell 2; have e3 := kg.cell 3; have e4 := kg.cell 4; have e5 := kg.cell 5; have e6 := kg.cell 6; have e7 := kg.cell 7; have f0 := kg.frozen 0; have f1 := kg.frozen 1; have f2 := kg.frozen 2; have f3 := kg.frozen 3; have f4 := kg.frozen 4; have f5 := kg.frozen 5; have f6 := kg.frozen 6; have f7 := kg.frozen 7; have hlp := kg.lt; simp only [List.getElem?_toArray, List.getElem?_cons_zero, List.getElem?_cons_succ] at e0 e1 e2 e3 e4 e5 e6 e7; go_simp; clear e0 e1 e2 e3 e4 e5 e6 e7 f0 f1 f2 f3 f4 f5 f6 f7 hlp; obtain ⟨W2, e, z, hf, hb, hr⟩ := put8 kg (.int .i64 gg.ba) (.int .i64 gg.bi) (.int .i64 gg.ou) (.slice A' n' c') (.slice C' m' d') (.int .i64 gg.fi) (.int .i64 gg.ho) (.int .i64 gg.no); rw [e]; clear e; replace k0 := hf k0 (by omega); replace B := hb B (by omega); replace hTab := (hr (base := 0)).2 hTab hT12; replace hCon := (hr (base := 0)).2 hCon hC12; replace kg := z; clear z hf hb hr
      refine hK.out _ _ ?_ (fun hHeld => ?_)
      · (try dsimp only); exact ⟨k0.cell 0, k0.cell 1, k0.cell 2, k0.cell 3, k0.cell 4, k0.cell 5, k0.cell 6, k0.cell 7⟩
      clear hK K
      try simp only [Act.put, List.setIfInBounds_toArray, List.set_cons_zero, List.set_cons_succ]
      refine wpAnyH_take (i := 18) (v := ?_) (arr_at rfl) (by kernel_rfl) (by kernel_rfl) (by kernel_rfl) (fun _ _ _ h => h) ?_ (by assumption) ?_
      rotate_left
      · first | (refine Or.inr ⟨by rfl, ?_⟩; with_reducible rfl) | (refine Or.inl ⟨by rfl, ?_⟩; intro w hSw; (try dsimp only at hSw); go_simp; first | done | with_reducible rfl)
      try simp only [Act.put, List.setIfInBounds_toArray, List.set_cons_zero, List.set_cons_succ]
      refine wpAnyH_done (by kernel_rfl) ?_ _
      go_wp2_with fail
      go_meet
      exact ⟨b12, ok, gg, A', n', c', C', m', d', rfl, rfl, k0, kg, HO, hn', hc', hFr, hTab, hm', hd', hFc, hCon, B, hg12⟩
    · go_simp
      obtain ⟨wg, b12, ex, eb, hq, kgn⟩ := allocB B #[.int .i64 0, .int .i64 0, .int .i64 0, .slice none 0 0, .slice none 0 0, .int .i64 0, .int .i64 0, .int .i64 0] 44; rw [ex, eb]; have hg12 := k0.lt; rw [eb] at hg12; have hw12 := B.size; rw [eb] at hw12; (first | (have hT12 := near_apart hTab eb; have hC12 := near_apart hCon eb) | skip); clear ex eb; replace k0 := k0.to hq; replace B := Bl.then B hq; (first | (replace kg := Blk.to kg hq) | skip); (first | (replace hTab := Rd.to hTab hq; replace hCon := Rd.to hCon hq) | skip); clear hq; have kg := kgn; clear kgn
      refine hK.out _ _ ?_ (fun hHeld => ?_)
      · (try dsimp only); exact ⟨k0.cell 0, k0.cell 1, k0.cell 2, k0.cell 3, k0.cell 4, k0.cell 5, k0.cell 6, k0.cell 7⟩
      clear hK K
      try simp only [Act.put, List.setIfInBounds_toArray, List.set_cons_zero, List.set_cons_succ]
      refine wpAnyH_ready (rs := [12]) (by kernel_rfl) (by simp) ?_
      refine AllReadyH.cons (arr_at rfl) (fun K hK => ?_) AllReadyH.nil
      go_simp
      go_at_call 53; refine (c_sTick g (g.no + max z 0) A n c C m d _ HV.out HN.out (HA.out _ B) HM.out (HC.out _ B)).mono ?_; rintro e wF ⟨hq, gg, A', n', c', C', m', d', ok, rfl, HO, hn', hc', hFr, hTab, hm', hd', hFc, hCon⟩; (first | (have hT12 := fr_apart (vs := mapCs gg.tb) hFr kg.lt; have hC12 := fr_apart (vs := conCs gg.cs) hFc kg.lt) | skip); replace hFr := hFr.low (c := w.heap.size) B.size; replace hFc := hFc.low (c := w.heap.size) B.size; replace k0 := k0.to hq; replace B := Bl.then B hq; (first | (replace kg := Blk.to kg hq) | skip); clear hq
      refine hK.out _ _ ?_ (fun hHeld => ?_)
      · (try dsimp only); exact ⟨k0.cell 0, k0.cell 1, k0.cell 2, k0.cell 3, k0.cell 4, k0.cell 5, k0.cell 6, k0.cell 7⟩
      clear hK K
      try simp only [Act.put, List.setIfInBounds_toArray, List.set_cons_zero, List.set_cons_succ]
      refine wpAnyH_take (i := 13) (v := ?_) (arr_at rfl) (by kernel_rfl) (by kernel_rfl) (by kernel_rfl) (fun _ _ _ h => h) ?_ (by assumption) ?_
      rotate_left
      · first | (refine Or.inr ⟨by rfl, ?_⟩; with_reducible rfl) | (refine Or.inl ⟨by rfl, ?_⟩; intro w hSw; (try dsimp only at hSw); go_simp; first | done | with_reducible rfl)
      try simp only [Act.put, List.setIfInBounds_toArray, List.set_cons_zero, List.set_cons_succ]
      refine wpAnyH_take (i := 14) (v := ?_) (arr_at rfl) (by kernel_rfl) (by kernel_rfl) (by kernel_rfl) (fun _ _ _ h => h) ?_ (by assumption) ?_
      rotate_left
      · first | (refine Or.inr ⟨by rfl, ?_⟩; with_reducible rfl) | (refine Or.inl ⟨by rfl, ?_⟩; intro w hSw; (try dsimp only at hSw); go_simp; first | done | with_reducible rfl)
      try simp only [Act.put, List.setIfInBounds_toArray, List.set_cons_zero, List.set_cons_succ]
      refine wpAnyH_take (i := 15) (v := ?_) (arr_at rfl) (by kernel_rfl) (by kernel_rfl) (by kernel_rfl) (fun _ _ _ h => h) ?_ (by assumption) ?_
      rotate_left
      · first | (refine Or.inr ⟨by rfl, ?_⟩; with_reducible rfl) | (refine Or.inl ⟨by rfl, ?_⟩; intro w hSw; (try dsimp only at hSw); go_simp; first | done | with_reducible rfl)
      try simp only [Act.put, List.setIfInBounds_toArray, List.set_cons_zero, List.set_cons_succ]
      refine wpAnyH_ready (rs := [17]) (by kernel_rfl) (by simp) ?_
      refine AllReadyH.cons (arr_at rfl) (fun K hK => ?_) AllReadyH.nil
      have e0 := kg.cell 0; have e1 := kg.cell 1; have e2 := kg.cell 2; have e3 := kg.cell 3; have e4 := kg.cell 4; have e5 := kg.cell 5; have e6 := kg.cell 6; have e7 := kg.cell 7; have f0 := kg.frozen 0; have f1 := kg.frozen 1; have f2 := kg.frozen 2; have f3 := kg.frozen 3; have f4 := kg.frozen 4; have f5 := kg.frozen 5; have f6 := kg.frozen 6; have f7 := kg.frozen 7; have hlp := kg.lt; simp only [List.getElem?_toArray, List.getElem?_cons_zero, List.getElem?_cons_succ] at e0 e1 e2 e3 e4 e5 e6 e7; go_simp; clear e0 e1 e2 e3 e4 e5 e6 e7 f0 f1 f2 f3 f4 f5 f6 f7 hlp; obtain ⟨W2, e, z, hf, hb, hr⟩ := put8 kg (.int .i64 gg.ba) (.int .i64 gg.bi) (.int .i64 gg.ou) (.slice A' n' c') (.slice C' m' d') (.int .i64 gg.fi) (.int .i64 gg.ho) (.int .i64 gg.no); rw [e]; clear e; replace k0 := hf k0 (by omega); replace B := hb B (by omega); replace hTab := (hr (base := 0)).2 hTab hT12; replace hCon := (hr (base := 0)).2 hCon hC12; replace kg := z; clear z hf hb hr
      refine hK.out _ _ ?_ (fun hHeld => ?_)
      · (try dsimp only); exact ⟨k0.cell 0, k0.cell 1, k0.cell 2, k0.cell 3, k0.cell 4, k0.cell 5, k0.cell 6, k0.cell 7⟩
      clear hK K
      try simp only [Act.put, List.setIfInBounds_toArray, List.set_cons_zero, List.set_cons_succ]
      refine wpAnyH_take (i := 18) (v := ?_) (arr_at rfl) (by kernel_rfl) (by kernel_rfl) (by kernel_rfl) (fun _ _ _ h => h) ?_ (by assumption) ?_
      rotate_left
      · first | (refine Or.inr ⟨by rfl, ?_⟩; with_reducible rfl) | (refine Or.inl ⟨by rfl, ?_⟩; intro w hSw; (try dsimp only at hSw); go_simp; first | done | with_reducible rfl)
      try simp only [Act.put, List.setIfInBounds_toArray, List.set_cons_zero, List.set_cons_succ]
      refine wpAnyH_done (by kernel_rfl) ?_ _
      go_wp2_with fail
      go_meet
      exact ⟨b12, ok, gg, A', n', c', C', m', d', rfl, rfl, k0, kg, HO, hn', hc', hFr, hTab, hm', hd', hFc, hCon, B, hg12⟩
  case rest =>
    clear k0 B
    obtain ⟨b12, ok, gg, A', n', c', C', m', d', rfl, rfl, HH⟩ := hcut
    obtain ⟨k0, kg, HO, hn', hc', hFr, hTab, hm', hd', hFc, hCon, B, hg12⟩ := HH.out
    clear HH
    by_cases hneg : z < 0
    · have t0 : decide (z < 0) = true := by rw [decide_eq_true_eq]; exact hneg
      have HZ : Hid (waitL g z = (noL, g)) := Lib.hid (by unfold waitL; rw [if_pos hneg])
      clear hneg
      go_wp2
      go_ret
      exact ⟨by rw [HNV.out, HZ.out]; rfl, by rw [HNV.out, HZ.out]; exact (HGA.out.to B).inl, grown_of_below B _⟩
    have t0 : decide (z < 0) = false := by rw [decide_eq_false_iff_not]; exact hneg
    cases ok
    · have HZ : Hid (waitL g z = (noL, g)) := Lib.hid (by unfold waitL; rw [if_neg hneg, show z = max z 0 by omega, HO]; rfl)
      clear hneg
      go_wp2
      go_ret
      exact ⟨by rw [HNV.out, HZ.out]; rfl, by rw [HNV.out, HZ.out]; exact (HGA.out.to B).inl, grown_of_below B _⟩
    have HZ : Hid (waitL g z = (okL, gg)) := Lib.hid (by unfold waitL; rw [if_neg hneg, show z = max z 0 by omega, HO]; rfl)
    have HF := Lib.hid (And.intro hn' (And.intro hc' (And.intro hm' hd')))
    clear HO hn' hc' hm' hd' hneg
    have e0 := kg.cell 0
    have e1 := kg.cell 1
    have e2 := kg.cell 2
    have e3 := kg.cell 3
    have e4 := kg.cell 4
    have e5 := kg.cell 5
    have e6 := kg.cell 6
    have e7 := kg.cell 7
    have y0 := k0.cell 0
    have f0 := k0.frozen 0
    have y1 := k0.cell 1
    have f1 := k0.frozen 1
    have y2 := k0.cell 2
    have f2 := k0.frozen 2
    have y3 := k0.cell 3
    have f3 := k0.frozen 3
    have y4 := k0.cell 4
    have f4 := k0.frozen 4
    have y5 := k0.cell 5
    have f5 := k0.frozen 5
    have y6 := k0.cell 6
    have f6 := k0.frozen 6
    have y7 := k0.cell 7
    have f7 := k0.frozen 7
    have l1 := k0.lt
    have l2 := kg.lt
    simp only [List.getElem?_toArray, List.getElem?_cons_zero, List.getElem?_cons_succ] at e0 e1 e2 e3 e4 e5 e6 e7 y0 y1 y2 y3 y4 y5 y6 y7
    go_wp2
    clear e0 e1 e2 e3 e4 e5 e6 e7 y0 y1 y2 y3 y4 y5 y6 y7 f0 f1 f2 f3 f4 f5 f6 f7 l1 l2
    have hgr := put8g wc gb (.int .i64 gg.ba) (.int .i64 gg.bi) (.int .i64 gg.ou) (.slice A' n' c') (.slice C' m' d') (.int .i64 gg.fi) (.int .i64 gg.ho) (.int .i64 gg.no)
    obtain ⟨W9, e, zz, hf, hb, hr⟩ := put8 k0 (.int .i64 gg.ba) (.int .i64 gg.bi) (.int .i64 gg.ou) (.slice A' n' c') (.slice C' m' d') (.int .i64 gg.fi) (.int .i64 gg.ho) (.int .i64 gg.no)
    rw [e] at hgr ⊢
    have HGR := Lib.hid (grown_trans (grown_of_below B (some gb)) hgr)
    replace hTab := hr.1 hTab hFr hgl
    replace hCon := hr.1 hCon hFc hgl
    have HG9 : Hid (GA W9 gb 56 (fun k => P k ∨ w.heap.size ≤ k) gg) := ⟨A', n', c', C', m', d', zz, HF.out.1, HF.out.2.1, hTab, HF.out.2.2.1, HF.out.2.2.2, hCon, fr_both hFr hgl, fr_both hFc hgl⟩
    go_ret
    exact ⟨by rw [HNV.out, HZ.out]; rfl, by rw [HNV.out, HZ.out]; exact HG9.out, HGR.out⟩
theorem c_iFilter (g : Gt) (gb : Nat) (P : Nat → Prop) (w : World) (z : Int) (hv : vGate g = true) (hG : GA w gb 44 P g) :
    Calls Tryz.prog 29 #[.pointer (some ⟨gb, 0, none⟩), .int .i64 z] w fun e w' => e = .returned (.string ⟨(filterL g z).1.toArray⟩) ∧ GA w' gb 44 (fun k => P k ∨ w.heap.size ≤ k) (filterL g z).2 ∧ w.grownBy w' (some gb) := by
  have HGA := Lib.hid hG
  obtain ⟨A, n, c, C, m, d, k0, hn, hc, h, hm, hd, h', ap1, ap2⟩ := hG
  have HN := Lib.hid hn
  have HM := Lib.hid hm
  have HA : Hid (∀ W, Below w.heap.size w W → TM W A g.tb) := fun W b => h.to b
  have HC : Hid (∀ W, Below w.heap.size w W → TK W C g.cs) := fun W b => h'.to b
  have HV := Lib.hid hv
  have HAP := Lib.hid (And.intro ap1 ap2)
  have hgl := k0.lt
  have hno := inB_true (gate_nums hv).2.2.2.2.2
  have B : Below w.heap.size w w := Below.refl _ _
  clear hn hm h h' hv ap1 ap2
  clear hno
  go_enter Tryz.func29, Tryz.ntmps29
  go_wp2_with fail
  refine (c_in _ _ _ _).mono ?_
  rintro e w' ⟨rfl, rfl⟩
  cases hin : inB z 0 2
  · have HZ : Hid (filterL g z = (noL, g)) := Lib.hid (by unfold filterL; rw [hin]; rfl)
    clear hin
    go_wp2_with fail
    refine (c_or false _).mono ?_
    rintro e w' ⟨rfl, rfl⟩
    go_wp2
    go_ret
    exact ⟨by rw [HZ.out]; rfl, by rw [HZ.out]; exact (HGA.out.to B).inl, grown_of_below B _⟩
  · have HZ : Hid (filterL g z = (okL, { g with fi := z })) := Lib.hid (by unfold filterL; rw [hin]; rfl)
    clear hin
    have y5 := k0.cell 5
    have f5 := k0.frozen 5
    have l1 := k0.lt
    simp only [List.getElem?_toArray, List.getElem?_cons_zero, List.getElem?_cons_succ] at y5
    have hgr := grown_put (w := w) gb 5 (.int .i64 z)
    have HGR := Lib.hid (grown_trans (grown_of_below B (some gb)) hgr)
    have kz : Blk (w.setCell ⟨gb, 5, none⟩ (.int .i64 z)) gb 44 #[.int .i64 g.ba, .int .i64 g.bi, .int .i64 g.ou, .slice A n c, .slice C m d, .int .i64 z, .int .i64 g.ho, .int .i64 g.no] := k0.set_ 5 _
    have hTab := Rd.apart (HA.out _ B) (p := ⟨gb, 5, none⟩) (fun a ha hx => (HAP.out.1 a ha hx).1) (.int .i64 z)
    have hCon := Rd.apart (HC.out _ B) (p := ⟨gb, 5, none⟩) (fun a ha hx => (HAP.out.2 a ha hx).1) (.int .i64 z)
    have HG9 : Hid (GA (w.setCell ⟨gb, 5, none⟩ (.int .i64 z)) gb 44 (fun k => P k ∨ w.heap.size ≤ k) { g with fi := z }) := ⟨A, n, c, C, m, d, kz, HN.out, hc, hTab, HM.out, hd, hCon, fun a ha hx => ⟨(HAP.out.1 a ha hx).1, .inl (HAP.out.1 a ha hx).2⟩, fun a ha hx => ⟨(HAP.out.2 a ha hx).1, .inl (HAP.out.2 a ha hx).2⟩⟩
    clear kz hTab hCon hgr
    go_wp2_with fail
    refine (c_or true _).mono ?_
    rintro e w' ⟨rfl, rfl⟩
    go_wp2
    go_ret
    exact ⟨by rw [HZ.out]; rfl, by rw [HZ.out]; exact HG9.out, HGR.out⟩
theorem c_sFilter (g : Gt) (gb : Nat) (P : Nat → Prop) (w : World) (s : ByteArray) (hv : vGate g = true) (hG : GA w gb 56 P g) (hs : s.size ≤ 4000000000) :
    Calls Tryz.prog 35 #[.pointer (some ⟨gb, 0, none⟩), .string s] w fun e w' => e = .returned (.string ⟨(filterL g (numV s.data.toList)).1.toArray⟩) ∧ GA w' gb 56 (fun k => P k ∨ w.heap.size ≤ k) (filterL g (numV s.data.toList)).2 ∧ w.grownBy w' (some gb) := by
  have HGA := Lib.hid hG
  obtain ⟨A, n, c, C, m, d, k0, hn, hc, h, hm, hd, h', ap1, ap2⟩ := hG
  have HN := Lib.hid hn
  have HM := Lib.hid hm
  have HA : Hid (∀ W, Below w.heap.size w W → TM W A g.tb) := fun W b => h.to b
  have HC : Hid (∀ W, Below w.heap.size w W → TK W C g.cs) := fun W b => h'.to b
  have HV := Lib.hid hv
  have HAP := Lib.hid (And.intro ap1 ap2)
  have hgl := k0.lt
  have hno := inB_true (gate_nums hv).2.2.2.2.2
  have B : Below w.heap.size w w := Below.refl _ _
  clear hn hm h h' hv ap1 ap2
  clear hno
  go_enter Tryz.func35, Tryz.ntmps35
  go_wp2_with fail
  refine (c_parseInt s _ hs).mono ?_
  rintro e w1 ⟨rfl, hq⟩
  obtain ⟨z, hz0⟩ : ∃ z, numV s.data.toList = z := ⟨_, rfl⟩
  rw [hz0]
  have HNV := Lib.hid hz0
  clear hz0
  replace k0 := k0.to hq
  replace B := Bl.then B hq
  clear hq
  go_wp2_with fail
  refine (c_inRange _ _ _ _).mono ?_
  rintro e w' ⟨rfl, rfl⟩
  cases hin : inB z 0 2
  · have HZ : Hid (filterL g z = (noL, g)) := Lib.hid (by unfold filterL; rw [hin]; rfl)
    clear hin
    go_wp2
    go_ret
    exact ⟨by rw [HNV.out, HZ.out]; rfl, by rw [HNV.out, HZ.out]; exact (HGA.out.to B).inl, grown_of_below B _⟩
  · have HZ : Hid (filterL g z = (okL, { g with fi := z })) := Lib.hid (by unfold filterL; rw [hin]; rfl)
    clear hin
    have y5 := k0.cell 5
    have f5 := k0.frozen 5
    have l1 := k0.lt
    simp only [List.getElem?_toArray, List.getElem?_cons_zero, List.getElem?_cons_succ] at y5
    have hgr := grown_put (w := w1) gb 5 (.int .i64 z)
    have HGR := Lib.hid (grown_trans (grown_of_below B (some gb)) hgr)
    have kz : Blk (w1.setCell ⟨gb, 5, none⟩ (.int .i64 z)) gb 56 #[.int .i64 g.ba, .int .i64 g.bi, .int .i64 g.ou, .slice A n c, .slice C m d, .int .i64 z, .int .i64 g.ho, .int .i64 g.no] := k0.set_ 5 _
    have hTab := Rd.apart (HA.out _ B) (p := ⟨gb, 5, none⟩) (fun a ha hx => (HAP.out.1 a ha hx).1) (.int .i64 z)
    have hCon := Rd.apart (HC.out _ B) (p := ⟨gb, 5, none⟩) (fun a ha hx => (HAP.out.2 a ha hx).1) (.int .i64 z)
    have HG9 : Hid (GA (w1.setCell ⟨gb, 5, none⟩ (.int .i64 z)) gb 56 (fun k => P k ∨ w.heap.size ≤ k) { g with fi := z }) := ⟨A, n, c, C, m, d, kz, HN.out, hc, hTab, HM.out, hd, hCon, fun a ha hx => ⟨(HAP.out.1 a ha hx).1, .inl (HAP.out.1 a ha hx).2⟩, fun a ha hx => ⟨(HAP.out.2 a ha hx).1, .inl (HAP.out.2 a ha hx).2⟩⟩
    clear kz hTab hCon hgr
    go_wp2
    go_ret
    exact ⟨by rw [HNV.out, HZ.out]; rfl, by rw [HNV.out, HZ.out]; exact HG9.out, HGR.out⟩
end Go.Proofs.YtjflfhjnbccpmaaGreatDoor
namespace Go.Proofs
open Go.Shelf
def Tryz.lays169_ren : Go.Shelf.Ren := ⟨fun | 169 => 22 | n => n, fun | 70 => 45 | 9 => 9 | 0 => 0 | 72 => 47 | 37 => 22 | 127 => 64 | 3 => 3 | 5 => 5 | n => n, fun | n => n⟩
theorem Tryz.lays169 : Go.Proofs.Lays.n169 Tryz.prog Tryz.lays169_ren := {
  mixed := by kernel_rfl
  f169 := Tryz.func22.trans (congrArg some (by kernel_rfl))
  t0 := Tryz.underlying0
  a0 := Tryz.isAgg0
  z0 := Tryz.sizeOf0
  v0 := Tryz.zeroValue0
  t3 := Tryz.underlying3
  a3 := Tryz.isAgg3
  z3 := Tryz.sizeOf3
  v3 := Tryz.zeroValue3
  t9 := Tryz.underlying9
  a9 := Tryz.isAgg9
  z9 := Tryz.sizeOf9
  v9 := Tryz.zeroValue9
  t37 := Tryz.underlying22
  a37 := Tryz.isAgg22
  z37 := Tryz.sizeOf22
  v37 := Tryz.zeroValue22
  t70 := Tryz.underlying45
  a70 := Tryz.isAgg45
  z70 := Tryz.sizeOf45
  v70 := Tryz.zeroValue45
  t72 := Tryz.underlying47
  a72 := Tryz.isAgg47
  z72 := Tryz.sizeOf47
  v72 := Tryz.zeroValue47
  t127 := Tryz.underlying64
  a127 := Tryz.isAgg64
  z127 := Tryz.sizeOf64
  v127 := Tryz.zeroValue64 }
theorem Tryz.Builder_Extra_169 : Builder.Extra Tryz.prog Tryz.lays169_ren := {
  sizeBuilder := by kernel_rfl
  liesBuilder := by kernel_rfl
  t5 := Tryz.underlying5
  a5 := Tryz.isAgg5
  z5 := Tryz.sizeOf5
  v5 := Tryz.zeroValue5
  infoByte := by kernel_rfl
  cellsByte := by kernel_rfl
  sizeByte := by kernel_rfl
  neB5 := by decide }
open Go.RowKit in
/-- (*strings.Builder).String: "String returns the accumulated string.": WHATEVER THE BUILDER HOLDS; THE FORM '_k': OVER 'Lib.IsBuilderF' (a builder that 'String()' may have read), AND WITH THE FRAME THAT REACHES ABOVE THE BUILDER: 'Lib.OthersKept': every block that is not b and is no row of uint8's stands as it stood: the iterator of a range among them. (LAID: no walk: one application.) -/
theorem Tryz.Builder_String_any_k (B b : Nat) (l : List UInt8) (w : World) (h : Lib.IsBuilderF 47 5 B b (Lib.byteCells l) w) (hBw : B ≤ w.heap.size) :
    Calls Tryz.prog 22 #[.pointer (some ⟨b, 0, none⟩)] w fun e w' => e = .returned (.string ⟨l.toArray⟩) ∧ (Lib.IsBuilderF 47 5 B b (Lib.byteCells l) w' ∧ Below B w w' ∧ Lib.OthersKept 5 (some b) w w') := Any.Builder_String_any_k Tryz.lays169 Tryz.Builder_Extra_169 B b l w h hBw
def Tryz.lays146_ren : Go.Shelf.Ren := ⟨fun | 146 => 25 | 221 => 38 | 268 => 56 | 138 => 57 | 143 => 58 | 195 => 89 | 197 => 90 | 218 => 91 | 219 => 92 | 260 => 152 | 217 => 153 | 225 => 154 | 224 => 155 | 267 => 156 | 266 => 180 | 314 => 181 | n => n, fun | 9 => 9 | 31 => 23 | 3 => 3 | 4 => 4 | 0 => 0 | 105 => 106 | 21 => 21 | 5 => 5 | 46 => 151 | 119 => 170 | 139 => 173 | 138 => 172 | 146 => 174 | 51 => 165 | n => n, fun | 1 => 0 | 3 => 4 | 4 => 5 | n => n⟩
theorem Tryz.lays146 : Go.Proofs.Lays.n146 Tryz.prog Tryz.lays146_ren := {
  mixed := by kernel_rfl
  f138 := Tryz.func57.trans (congrArg some (by kernel_rfl))
  f143 := Tryz.func58.trans (congrArg some (by kernel_rfl))
  f146 := Tryz.func25.trans (congrArg some (by kernel_rfl))
  f195 := Tryz.func89.trans (congrArg some (by kernel_rfl))
  f197 := Tryz.func90.trans (congrArg some (by kernel_rfl))
  f217 := Tryz.func153.trans (congrArg some (by kernel_rfl))
  f218 := Tryz.func91.trans (congrArg some (by kernel_rfl))
  f219 := Tryz.func92.trans (congrArg some (by kernel_rfl))
  f221 := Tryz.func38.trans (congrArg some (by kernel_rfl))
  f224 := Tryz.func155.trans (congrArg some (by kernel_rfl))
  f225 := Tryz.func154.trans (congrArg some (by kernel_rfl))
  f260 := Tryz.func152.trans (congrArg some (by kernel_rfl))
  f266 := Tryz.func180.trans (congrArg some (by kernel_rfl))
  f267 := Tryz.func156.trans (congrArg some (by kernel_rfl))
  f268 := Tryz.func56.trans (congrArg some (by kernel_rfl))
  f314 := Tryz.func181.trans (congrArg some (by kernel_rfl))
  t0 := Tryz.underlying0
  a0 := Tryz.isAgg0
  z0 := Tryz.sizeOf0
  v0 := Tryz.zeroValue0
  t3 := Tryz.underlying3
  a3 := Tryz.isAgg3
  z3 := Tryz.sizeOf3
  v3 := Tryz.zeroValue3
  t4 := Tryz.underlying4
  a4 := Tryz.isAgg4
  z4 := Tryz.sizeOf4
  v4 := Tryz.zeroValue4
  t5 := Tryz.underlying5
  a5 := Tryz.isAgg5
  z5 := Tryz.sizeOf5
  v5 := Tryz.zeroValue5
  t9 := Tryz.underlying9
  a9 := Tryz.isAgg9
  z9 := Tryz.sizeOf9
  v9 := Tryz.zeroValue9
  t21 := Tryz.underlying21
  a21 := Tryz.isAgg21
  z21 := Tryz.sizeOf21
  v21 := Tryz.zeroValue21
  t31 := Tryz.underlying23
  a31 := Tryz.isAgg23
  z31 := Tryz.sizeOf23
  v31 := Tryz.zeroValue23
  t46 := Tryz.underlying151
  a46 := Tryz.isAgg151
  z46 := Tryz.sizeOf151
  v46 := Tryz.zeroValue151
  t51 := Tryz.underlying165
  a51 := Tryz.isAgg165
  z51 := Tryz.sizeOf165
  v51 := Tryz.zeroValue165
  t105 := Tryz.underlying106
  a105 := Tryz.isAgg106
  z105 := Tryz.sizeOf106
  v105 := Tryz.zeroValue106
  t119 := Tryz.underlying170
  a119 := Tryz.isAgg170
  z119 := Tryz.sizeOf170
  t138 := Tryz.underlying172
  a138 := Tryz.isAgg172
  z138 := Tryz.sizeOf172
  v138 := Tryz.zeroValue172
  t139 := Tryz.underlying173
  a139 := Tryz.isAgg173
  z139 := Tryz.sizeOf173
  v139 := Tryz.zeroValue173
  t146 := Tryz.underlying174
  a146 := Tryz.isAgg174
  z146 := Tryz.sizeOf174
  v146 := Tryz.zeroValue174
  g1 := by kernel_rfl
  g3 := by kernel_rfl
  g4 := by kernel_rfl }
open Go.RowKit Go.Lib in
/-- strings.Split. (LAID: no walk: one application.) -/
theorem Tryz.strings_Split (s sep : ByteArray) (m : Int) (w : World) (hs : s.size < 4294967281) (hm : w.cell? ⟨0, 0, none⟩ = some (.int .i64 m)) (h1 : 1 ≤ sep.size) :
    Calls Tryz.prog 25 #[.string s, .string sep] w fun e w' =>
      e = .returned (.slice (some ⟨w.heap.size, 0, none⟩) (Lib.countB s sep + 1) (Lib.countB s sep + 1)) ∧ w' = w.alloc (.cells ((Lib.splitB sep 0 (Lib.countB s sep) s).map Value.string).toArray 9) := Any.strings_Split Tryz.lays146 (by kernel_rfl) s sep m w hs hm h1
end Go.Proofs
namespace Go.Proofs.YtjflfhjnbccpmaaGreatDoor
open Go.RowKit
theorem Rd.grown {w w' : World} {A : Option Addr} {vs : List Value} {g : Nat} (h : Rd w A vs) (hg : w.grownBy w' (some g)) (hne : Far A g) : Rd w' A vs := fun k v hk => by
  obtain ⟨b, off, rfl, hlt, hc⟩ := h k v hk
  exact ⟨b, off, rfl, Nat.lt_of_lt_of_le hlt hg.size, (World.cell?_of_block (w := w) (a := ⟨b, off + k, none⟩) (hg.block b hlt (fun e => hne _ rfl (by injection e)))).trans hc⟩
theorem grown_drew {a w : World} {row : Option Nat} (h : a.grownBy w row) : a.grownBy w.drew row := ⟨h.os, h.tape, h.output, h.size, h.block⟩
theorem rd_lit (w : World) (xs : List ByteArray) (t : TypeId) : Rd (w.alloc (.cells (xs.map Value.string).toArray t)) (some ⟨w.heap.size, 0, none⟩) (xs.map Value.string) := by
  have := (Blk.new w t (xs.map Value.string).toArray).rd
  simpa using this
theorem c_of (g p c : Nat) (A : Option Addr) (xs : List ByteArray) (w : World) (hr : Rdr w g p) (hp : p ≤ 1099511627776) (hA : Rd w A (xs.map Value.string)) (h0 : 0 < xs.length) (hl : xs.length ≤ 1099511627776) (hne : Far A g) :
    Calls Tryz.prog 18 #[.pointer (some ⟨g, 0, none⟩), .slice A xs.length c] w fun e w' => ∃ x, e = .returned (.string x) ∧ x ∈ xs ∧ Rdr w' g (p + 1) ∧ w.grownBy w' (some g) := by
  go_enter Tryz.func18, Tryz.ntmps18
  go_wp2_with fail
  refine (c_pick _ _ _ _ hr hp).mono ?_
  rintro e w1 ⟨x, rfl, hx0, hx1, -, hr1, hg1⟩
  replace hx1 := hx1 (by omega)
  have hA1 := hA.grown hg1 hne
  obtain ⟨k, rfl⟩ := Int.eq_ofNat_of_zero_le hx0
  have hk : k < xs.length := by omega
  obtain ⟨b, off, rfl, _, hc⟩ := hA1 k (.string xs[k]) (by rw [List.getElem?_map, List.getElem?_eq_getElem hk]; rfl)
  go_wp2
  go_ret
  exact ⟨xs[k], rfl, List.getElem_mem hk, hr1, hg1⟩
def m8 : List ByteArray := [⟨#[48]⟩, ⟨#[49]⟩, ⟨#[32]⟩, ⟨#[45]⟩, ⟨#[58]⟩, ⟨#[97]⟩, ⟨#[46]⟩, ⟨#[47]⟩]
def m6 : List ByteArray := [⟨#[48]⟩, ⟨#[32]⟩, ⟨#[49, 48, 46, 49, 58, 53]⟩, ⟨#[32, 49]⟩, ⟨#[120]⟩, ⟨#[46]⟩]
theorem m8_size : ∀ x ∈ m8, x.size ≤ 10 := by
  intro x hx
  simp only [m8, List.mem_cons, List.not_mem_nil, or_false] at hx
  rcases hx with rfl | rfl | rfl | rfl | rfl | rfl | rfl | rfl <;> decide
theorem m6_size : ∀ x ∈ m6, x.size ≤ 10 := by
  intro x hx
  simp only [m6, List.mem_cons, List.not_mem_nil, or_false] at hx
  rcases hx with rfl | rfl | rfl | rfl | rfl | rfl <;> decide
theorem ext_size (s : ByteArray) (a b : Nat) : (s.extract a b).size ≤ s.size := by rw [ByteArray.size_extract]; omega
set_option maxHeartbeats 3200000 in
theorem c_mutate (g p : Nat) (s : ByteArray) (w : World) (hr : Rdr w g p) (hp : p ≤ 1099511620000) (hs : s.size ≤ 100000000) :
    Calls Tryz.prog 19 #[.pointer (some ⟨g, 0, none⟩), .string s] w fun e w' => ∃ (t : ByteArray) (p' : Nat), e = .returned (.string t) ∧ t.size ≤ 2 * s.size + 10 ∧ Rdr w' g p' ∧ p' ≤ p + 3 ∧ w.grownBy w' (some g) := by
  go_enter Tryz.func19, Tryz.ntmps19
  go_wp2_with fail
  refine (c_pick _ _ _ _ hr (by omega)).mono ?_
  rintro e w1 ⟨k0, rfl, hk0, hk1, -, hr, hg⟩
  replace hk1 := hk1 (by omega)
  obtain ⟨k, rfl⟩ := Int.eq_ofNat_of_zero_le hk0
  have hk : k ≤ s.size := by omega
  clear hk0 hk1
  go_wp2_with fail
  refine (c_pick _ _ _ _ hr (by omega)).mono ?_
  rintro e w2 ⟨m, rfl, -, -, -, hr, h⟩
  replace hg := grown_trans hg h
  clear h
  have b1 : (0 : Int) ≤ k ∧ (k : Int) ≤ s.size := by omega
  have hXs := ext_size s 0 k
  have hYs := ext_size s (k + 1) s.size
  generalize hX : s.extract 0 k = X at hXs
  generalize hY : s.extract (k + 1) s.size = Y at hYs
  by_cases m0 : m = 0
  · subst m0
    by_cases hlt : k < s.size
    · have t1 : decide ((k : Int) < s.size) = true := by rw [decide_eq_true_eq]; omega
      have b2 : (0 : Int) ≤ (k : Int) + 1 ∧ (k : Int) + 1 ≤ s.size := by omega
      have e1 : IntKind.i64.wrap ((k : Int) + 1) = (k : Int) + 1 := IntWalk.i64_in _ (by omega)
      have e2 : ((k : Int) + 1).toNat = k + 1 := by omega
      go_wp2
      refine wp_region_held_drew (S := (fun w' => 0 ≤ w'.heap.size)) (by kernel_rfl) ?_ (fun hHeld => ?_)
      · (try dsimp only); exact Nat.zero_le _
      replace hr : Rdr w2.drew g (p + 1 + 1) := hr; replace hg : w.grownBy w2.drew (some g) := grown_drew hg; generalize World.drew w2 = wc at *
      refine wpAnyH_take (i := 0) (v := ?_) (arr_at rfl) (by kernel_rfl) (by kernel_rfl) (by kernel_rfl) (fun _ _ _ h => h) ?_ (by assumption) ?_
      rotate_left
      · first | (refine Or.inr ⟨by rfl, ?_⟩; with_reducible rfl) | (refine Or.inl ⟨by rfl, ?_⟩; intro w hSw; (try dsimp only at hSw); go_simp; first | done | with_reducible rfl)
      try simp only [Act.put, List.setIfInBounds_toArray, List.set_cons_zero, List.set_cons_succ]
      refine wpAnyH_take (i := 1) (v := ?_) (arr_at rfl) (by kernel_rfl) (by kernel_rfl) (by kernel_rfl) (fun _ _ _ h => h) ?_ (by assumption) ?_
      rotate_left
      · first | (refine Or.inr ⟨by rfl, ?_⟩; with_reducible rfl) | (refine Or.inl ⟨by rfl, ?_⟩; intro w hSw; (try dsimp only at hSw); go_simp; first | done | with_reducible rfl)
      try simp only [Act.put, List.setIfInBounds_toArray, List.set_cons_zero, List.set_cons_succ]
      refine wpAnyH_take (i := 2) (v := ?_) (arr_at rfl) (by kernel_rfl) (by kernel_rfl) (by kernel_rfl) (fun _ _ _ h => h) ?_ (by assumption) ?_
      rotate_left
      · first | (refine Or.inr ⟨by rfl, ?_⟩; with_reducible rfl) | (refine Or.inl ⟨by rfl, ?_⟩; intro w hSw; (try dsimp only at hSw); go_simp; first | done | with_reducible rfl)
      try simp only [Act.put, List.setIfInBounds_toArray, List.set_cons_zero, List.set_cons_succ]
      refine wpAnyH_take (i := 3) (v := ?_) (arr_at rfl) (by kernel_rfl) (by kernel_rfl) (by kernel_rfl) (fun _ _ _ h => h) ?_ (by assumption) ?_
      rotate_left
      · first | (refine Or.inr ⟨by rfl, ?_⟩; with_reducible rfl) | (refine Or.inl ⟨by rfl, ?_⟩; intro w hSw; (try dsimp only at hSw); go_simp; first | done | with_reducible rfl)
      try simp only [Act.put, List.setIfInBounds_toArray, List.set_cons_zero, List.set_cons_succ]
      refine wpAnyH_take (i := 7) (v := ?_) (arr_at rfl) (by kernel_rfl) (by kernel_rfl) (by kernel_rfl) (fun _ _ _ h => h) ?_ (by assumption) ?_
      rotate_left
      · first | (refine Or.inr ⟨by rfl, ?_⟩; with_reducible rfl) | (refine Or.inl ⟨by rfl, ?_⟩; intro w hSw; (try dsimp only at hSw); go_simp; first | done | with_reducible rfl)
      try simp only [Act.put, List.setIfInBounds_toArray, List.set_cons_zero, List.set_cons_succ]
      refine wpAnyH_take (i := 8) (v := ?_) (arr_at rfl) (by kernel_rfl) (by kernel_rfl) (by kernel_rfl) (fun _ _ _ h => h) ?_ (by assumption) ?_
      rotate_left
      · first | (refine Or.inr ⟨by rfl, ?_⟩; with_reducible rfl) | (refine Or.inl ⟨by rfl, ?_⟩; intro w hSw; (try dsimp only at hSw); go_simp; first | done | with_reducible rfl)
      try simp only [Act.put, List.setIfInBounds_toArray, List.set_cons_zero, List.set_cons_succ]
      refine wpAnyH_take (i := 9) (v := ?_) (arr_at rfl) (by kernel_rfl) (by kernel_rfl) (by kernel_rfl) (fun _ _ _ h => h) ?_ (by assumption) ?_
      rotate_left
      · first | (refine Or.inr ⟨by rfl, ?_⟩; with_reducible rfl) | (refine Or.inl ⟨by rfl, ?_⟩; intro w hSw; (try dsimp only at hSw); go_simp; first | done | with_reducible rfl)
      try simp only [Act.put, List.setIfInBounds_toArray, List.set_cons_zero, List.set_cons_succ]
      refine wpAnyH_take (i := 10) (v := ?_) (arr_at rfl) (by kernel_rfl) (by kernel_rfl) (by kernel_rfl) (fun _ _ _ h => h) ?_ (by assumption) ?_
      rotate_left
      · first | (refine Or.inr ⟨by rfl, ?_⟩; with_reducible rfl) | (refine Or.inl ⟨by rfl, ?_⟩; intro w hSw; (try dsimp only at hSw); go_simp; first | done | with_reducible rfl)
      try simp only [Act.put, List.setIfInBounds_toArray, List.set_cons_zero, List.set_cons_succ]
      refine wpAnyH_ready (rs := [4]) (by kernel_rfl) (by simp) ?_
      refine AllReadyH.cons (arr_at rfl) (fun K hK => ?_) AllReadyH.nil
      go_simp
      have hL : Rd (wc.alloc (.cells #[.string ⟨#[48]⟩, .string ⟨#[49]⟩, .string ⟨#[32]⟩, .string ⟨#[45]⟩, .string ⟨#[58]⟩, .string ⟨#[97]⟩, .string ⟨#[46]⟩, .string ⟨#[47]⟩] 9)) (some ⟨wc.heap.size, 0, none⟩) (m8.map Value.string) := rd_lit wc m8 _; have hf := lit_far (n := wc.heap.size) hr rfl; replace hr := hr.alloc (.cells #[.string ⟨#[48]⟩, .string ⟨#[49]⟩, .string ⟨#[32]⟩, .string ⟨#[45]⟩, .string ⟨#[58]⟩, .string ⟨#[97]⟩, .string ⟨#[46]⟩, .string ⟨#[47]⟩] 9); replace hg := grown_alloc hg (.cells #[.string ⟨#[48]⟩, .string ⟨#[49]⟩, .string ⟨#[32]⟩, .string ⟨#[45]⟩, .string ⟨#[58]⟩, .string ⟨#[97]⟩, .string ⟨#[46]⟩, .string ⟨#[47]⟩] 9)
      refine hK.out _ _ ?_ (fun hHeld => ?_)
      · (try dsimp only); exact Nat.zero_le _
      clear hK K
      try simp only [Act.put, List.setIfInBounds_toArray, List.set_cons_zero, List.set_cons_succ]
      refine wpAnyH_ready (rs := [5]) (by kernel_rfl) (by simp) ?_
      refine AllReadyH.cons (arr_at rfl) (fun K hK => ?_) AllReadyH.nil
      go_simp
      go_at_call 18; refine (c_of _ _ _ _ m8 _ hr (by omega) hL (by decide) (by decide) hf).mono ?_; rintro e wd ⟨x, rfl, hx, hr, h⟩; replace hg := grown_trans hg h; have hxs := m8_size x hx; have q1 : ¬ (9223372036854775807 < X.size + x.size) := (by omega); have q2 : ¬ (9223372036854775807 < X.size + x.size + Y.size) := (by omega); clear h hx
      refine hK.out _ _ ?_ (fun hHeld => ?_)
      · (try dsimp only); exact Nat.zero_le _
      clear hK K
      try simp only [Act.put, List.setIfInBounds_toArray, List.set_cons_zero, List.set_cons_succ]
      refine wpAnyH_take (i := 6) (v := ?_) (arr_at rfl) (by kernel_rfl) (by kernel_rfl) (by kernel_rfl) (fun _ _ _ h => h) ?_ (by assumption) ?_
      rotate_left
      · first | (refine Or.inr ⟨by rfl, ?_⟩; with_reducible rfl) | (refine Or.inl ⟨by rfl, ?_⟩; intro w hSw; (try dsimp only at hSw); go_simp; first | done | with_reducible rfl)
      try simp only [Act.put, List.setIfInBounds_toArray, List.set_cons_zero, List.set_cons_succ]
      refine wpAnyH_take (i := 11) (v := ?_) (arr_at rfl) (by kernel_rfl) (by kernel_rfl) (by kernel_rfl) (fun _ _ _ h => h) ?_ (by assumption) ?_
      rotate_left
      · first | (refine Or.inr ⟨by rfl, ?_⟩; with_reducible rfl) | (refine Or.inl ⟨by rfl, ?_⟩; intro w hSw; (try dsimp only at hSw); go_simp; first | done | with_reducible rfl)
      try simp only [Act.put, List.setIfInBounds_toArray, List.set_cons_zero, List.set_cons_succ]
      refine wpAnyH_take (i := 12) (v := ?_) (arr_at rfl) (by kernel_rfl) (by kernel_rfl) (by kernel_rfl) (fun _ _ _ h => h) ?_ (by assumption) ?_
      rotate_left
      · first | (refine Or.inr ⟨by rfl, ?_⟩; with_reducible rfl) | (refine Or.inl ⟨by rfl, ?_⟩; intro w hSw; (try dsimp only at hSw); go_simp; first | done | with_reducible rfl)
      try simp only [Act.put, List.setIfInBounds_toArray, List.set_cons_zero, List.set_cons_succ]
      refine wpAnyH_done (by kernel_rfl) ?_ _
      go_wp2
      go_ret
      exact ⟨_, _, rfl, by rw [ByteArray.size_append, ByteArray.size_append]; omega, hr, by omega, hg⟩
    · have t1 : decide ((k : Int) < s.size) = false := by rw [decide_eq_false_iff_not]; omega
      go_wp2
      go_ret
      exact ⟨s, _, rfl, by omega, hr, by omega, hg⟩
  have t0 : (m == 0) = false := by rw [beq_eq_false_iff_ne]; exact m0
  by_cases m1 : m = 1
  · subst m1
    go_wp2
    go_ret
    exact ⟨X, _, rfl, by omega, hr, by omega, hg⟩
  have t1 : (m == 1) = false := by rw [beq_eq_false_iff_ne]; exact m1
  by_cases m2 : m = 2
  · subst m2
    have hL := rd_lit w2 m6 9
    go_wp2_with fail
    refine (c_of _ _ _ _ m6 _ (hr.alloc _) (by omega) hL (by decide) (by decide) (lit_far hr rfl)).mono ?_
    rintro e w3 ⟨x, rfl, hx, hr, h⟩
    replace hg := grown_trans (grown_alloc hg _) h
    have hxs := m6_size x hx
    have q1 : ¬ (9223372036854775807 < s.size + x.size) := by omega
    clear h hx
    go_wp2
    go_ret
    exact ⟨_, _, rfl, by rw [ByteArray.size_append]; omega, hr, by omega, hg⟩
  have t2 : (m == 2) = false := by rw [beq_eq_false_iff_ne]; exact m2
  go_wp2
  go_ret
  exact ⟨s, _, rfl, by omega, hr, by omega, hg⟩
end Go.Proofs.YtjflfhjnbccpmaaGreatDoor
namespace Go.Proofs.YtjflfhjnbccpmaaGreatDoor
open Go.RowKit
theorem splitK_spl (c : UInt8) : ∀ (k : Nat) (l : List UInt8), Lib.count l [c] = k → Lib.splitK [c] 0 k l = spl l c
  | 0, l, h => by
    rcases cutc_spec c l with ⟨_, _, h1⟩ | ⟨x, y, _, hi, e, _⟩
    · rw [spl_none h1]; rfl
    · rw [Lib.count_hit (by simp) hi] at h; omega
  | k + 1, l, h => by
    rcases cutc_spec c l with ⟨_, hi, h1⟩ | ⟨x, y, _, hi, e, hx⟩
    · rw [Lib.count_miss hi] at h; omega
    · rw [Lib.count_hit (by simp) hi] at h
      have hd : l.drop (x.length + [c].length) = y := by rw [e]; simp
      rw [hd] at h
      have ih := splitK_spl c k y (by omega)
      unfold Lib.splitK
      rw [hi, if_neg (by simp), Int.toNat_natCast, hd, ih, e, spl_app hx]
      simp
theorem spl_len (c : UInt8) : ∀ (l : List UInt8), ∀ x ∈ spl l c, x.length ≤ l.length
  | [], x, hx => by simp [spl] at hx; subst hx; simp
  | b :: l, x, hx => by
    have ih := spl_len c l
    unfold spl at hx
    split at hx
    · rcases List.mem_cons.1 hx with rfl | hx
      · simp
      · have := ih x hx; simp; omega
    · split at hx
      · rename_i h t e
        rcases List.mem_cons.1 hx with rfl | hx
        · have := ih h (by rw [e]; simp); simp; omega
        · have := ih x (by rw [e]; simp [hx]); simp; omega
      · simp at hx; subst hx; simp
/-- What a text is cut into. -/
structure Cutt (w w' : World) (A : Option Addr) (q : Nat) (xs : List ByteArray) (s : ByteArray) : Prop where
  len : xs.length = q
  pos : 1 ≤ q
  lst : xs.map (·.data.toList) = spl s.data.toList 32
  rd : Rd w' A (xs.map Value.string)
  fr : Fr A w.heap.size
  below : Below w.heap.size w w'
  small : ∀ x ∈ xs, x.size ≤ s.size
theorem cutt_small {xs : List ByteArray} {s : ByteArray} (h : xs.map (·.data.toList) = spl s.data.toList 32) : ∀ x ∈ xs, x.size ≤ s.size := fun x hx => by
  have := spl_len 32 s.data.toList x.data.toList (by rw [← h]; exact List.mem_map.2 ⟨x, hx, rfl⟩)
  simpa using this
theorem cutt_pos {xs : List ByteArray} {s : ByteArray} (h : xs.map (·.data.toList) = spl s.data.toList 32) : 1 ≤ xs.length := by
  have := spl_pos s.data.toList 32
  rw [← h, List.length_map] at this
  exact this
theorem c_Split (s : ByteArray) (w : World) (hs : s.size ≤ 4000000000) (hE : EnvP w) :
    Calls Tryz.prog 25 #[.string s, .string ⟨#[32]⟩] w fun e w' => ∃ A q xs, e = .returned (.slice A q q) ∧ Cutt w w' A q xs s := by
  obtain ⟨m, hm⟩ := hE.mx
  refine (Tryz.strings_Split s ⟨#[32]⟩ m w (by omega) hm (by decide)).mono ?_
  rintro e w' ⟨rfl, rfl⟩
  have hlst : (Lib.splitB (⟨#[32]⟩ : ByteArray) 0 (Lib.countB s ⟨#[32]⟩) s).map (·.data.toList) = spl s.data.toList 32 := by
    rw [Lib.splitB_data]
    exact splitK_spl 32 _ _ rfl
  have hlen := Lib.splitB_all (⟨#[32]⟩ : ByteArray) (by decide) 0 _ s rfl
  refine ⟨_, _, _, rfl, hlen, by omega, hlst, rd_lit w _ _, fun a ha => by cases ha; exact Nat.le_refl _, (Below.refl _ _).alloc (Nat.le_refl _) _, cutt_small hlst⟩
theorem c_split2 (s : ByteArray) (w : World) (hs : s.size ≤ 4000000000) :
    Calls Tryz.prog 32 #[.string s, .int .u8 32] w fun e w' => ∃ A q c xs, e = .returned (.slice A q c) ∧ Cutt w w' A q xs s := by
  refine (c_splitAt s 32 w hs).mono ?_
  rintro e w' ⟨v, xs, rfl, ho, hl, hq⟩
  obtain ⟨A, c, rfl, _, _, hf⟩ := own_slice ho
  exact ⟨A, _, c, xs, rfl, rfl, cutt_pos hl, hl, Rd.of_own ho, fun a ha => (hf a ha).1, hq, cutt_small hl⟩
theorem Cutt.word {w w' : World} {A : Option Addr} {q : Nat} {xs : List ByteArray} {s : ByteArray} (h : Cutt w w' A q xs s) {k : Nat} (hk : k < q) : ∃ x, xs[k]? = some x ∧ wn (spl s.data.toList 32) k = x.data.toList ∧ x.size ≤ s.size := by
  have hk' : k < xs.length := by rw [h.len]; exact hk
  refine ⟨xs[k], List.getElem?_eq_getElem hk', ?_, h.small _ (List.getElem_mem hk')⟩
  unfold wn
  rw [← h.lst]
  simp [hk']
theorem Cutt.num {w w' : World} {A : Option Addr} {q : Nat} {xs : List ByteArray} {s : ByteArray} (h : Cutt w w' A q xs s) : (spl s.data.toList 32).length = q := by rw [← h.lst, List.length_map, h.len]
theorem wcell {W : World} {b off k : Nat} {xs : List ByteArray} {x : ByteArray} (h : Rd W (some ⟨b, off, none⟩) (xs.map Value.string)) (hx : xs[k]? = some x) : W.cell? ⟨b, off + k, none⟩ = some (.string x) := by
  obtain ⟨b', off', e, _, hc⟩ := h k (.string x) (by rw [List.getElem?_map, hx]; rfl)
  cases e
  exact hc
end Go.Proofs.YtjflfhjnbccpmaaGreatDoor
namespace Go.Proofs.YtjflfhjnbccpmaaGreatDoor
open Go.RowKit
set_option maxHeartbeats 3200000 in
theorem c_sFormatTable (A : Option Addr) (n c : Nat) (l : List Mpg) (w : World) (hn : l.length = n) (h : TM w A l) (hl : n ≤ 1099511627776) :
    Calls Tryz.prog 36 #[.slice A n c] w fun e w' => e = .returned (.string (tabT l)) ∧ Below w.heap.size w w' := by
  have HN := Lib.hid hn
  have HA : Hid (∀ W, Below w.heap.size w W → TM W A l) := fun W b => h.to b
  clear hn
  go_enter Tryz.func36, Tryz.ntmps36
  go_wp2_with fail
  refine (c_sValidTable _ _ _ l _ HN.out h hl).mono ?_
  rintro e w1 ⟨rfl, B⟩
  clear h
  cases hv : vTab l
  · have HV : Hid (tabT l = ⟨#[]⟩) := by unfold tabT; rw [hv]; rfl
    clear hv
    go_wp2
    go_ret
    exact ⟨by rw [HV.out]; rfl, B⟩
  have HV := Lib.hid hv
  have n8 : n ≤ 8 := by rw [← HN.out]; exact (vTab_iff.1 hv).2
  clear hv
  go_wp2
  go_loopw [3, 4] (fun o i wr => ∃ k : Nat, k ≤ n ∧ i = .int .i64 k ∧ o = .string (accT l k) ∧ Hid (Below w.heap.size w wr)) (fun _ i _ => n - (intOf i).toNat)
  case atStart => exact ⟨0, Nat.zero_le _, rfl, rfl, B⟩
  case round =>
    clear B
    obtain ⟨k, hk, rfl, rfl, HB⟩ := hrel
    have B := HB.out
    by_cases hlt : k < n
    · have hkl : Hid (k < l.length) := Lib.hid (by rw [HN.out]; exact hlt)
      have hA := HA.out _ B
      obtain ⟨b, off, rfl, hb, -⟩ := hA.get hkl.out
      obtain ⟨p1, p2, p3⟩ := piece_size HV.out hkl.out
      have hz := accT_size HV.out k (by rw [HN.out]; exact hk)
      have hok := okM_iff.1 (tab_at HV.out hkl.out).1
      have hb1 : 0 ≤ (mn l k).po ∧ (mn l k).po ≤ 1099511627776 := by omega
      have hb2 : 0 ≤ (mn l k).la ∧ (mn l k).la ≤ 1099511627776 := by omega
      have i1 : (0 : Int) ≤ k ∧ (k : Int) < n := by omega
      have hS : accT l (k + 1) = (if k = 0 then accT l k else accT l k ++ ⟨#[59, 32]⟩) ++ fmtEnd (mn l k).ad (mn l k).ep ++ ⟨#[32]⟩ ++ dec (mn l k).po ++ ⟨#[32]⟩ ++ dec (mn l k).la := rfl
      generalize hF : fmtEnd (mn l k).ad (mn l k).ep = F at p1 hS
      generalize hD : dec (mn l k).po = D at p2 hS
      generalize hL : dec (mn l k).la = L at p3 hS
      have HF := Lib.hid hF
      have HD := Lib.hid hD
      have HL := Lib.hid hL
      clear hF hD hL hok HB
      generalize accT l k = o at hz hS
      by_cases hk0 : k = 0
      · rw [if_pos hk0] at hS
        have HS := Lib.hid hS
        clear hS
        have t0 : decide ((0 : Int) < k) = false := by rw [decide_eq_false_iff_not]; omega
        have t0' : decide (0 < k) = false := by rw [decide_eq_false_iff_not]; omega
        have hz2 : o.size ≤ 8000000 := by omega
        clear hk0 hz
        go_wp2
        have hs1 : ¬ (9223372036854775807 < o.size + F.size) := by omega
        have hs2 : ¬ (9223372036854775807 < o.size + F.size + 1) := by omega
        have hs3 : ¬ (9223372036854775807 < o.size + F.size + 1 + D.size) := by omega
        have hs4 : ¬ (9223372036854775807 < o.size + F.size + 1 + D.size + 1) := by omega
        have hs5 : ¬ (9223372036854775807 < o.size + F.size + 1 + D.size + 1 + L.size) := by omega
        refine wp_region_held_drew (S := (fun w' => w'.cell? ⟨b, off + k * 4, none⟩ = some (.int .i64 (mn l k).ad) ∧ w'.cell? ⟨b, off + k * 4 + 1, none⟩ = some (.int .i64 (mn l k).ep) ∧ w'.cell? ⟨b, off + k * 4 + 2, none⟩ = some (.int .i64 (mn l k).po) ∧ w'.cell? ⟨b, off + k * 4 + 3, none⟩ = some (.int .i64 (mn l k).la))) (by kernel_rfl) ?_ (fun hHeld => ?_)
        · (try dsimp only); (have a := TM.c4 hA hkl.out; exact ⟨a.1, a.2.1, a.2.2.1, a.2.2.2⟩)
        replace hA : TM wr.drew (some ⟨b, off, none⟩) l := hA; replace B : Below w.heap.size w wr.drew := Bl.drewN B 1; generalize World.drew wr = wc at *
        refine wpAnyH_take (i := 0) (v := ?_) (arr_at rfl) (by kernel_rfl) (by kernel_rfl) (by kernel_rfl) (fun _ _ _ h => h) ?_ (by assumption) ?_
        rotate_left
        · first | (refine Or.inr ⟨by rfl, ?_⟩; with_reducible rfl) | (refine Or.inl ⟨by rfl, ?_⟩; intro w hSw; (try dsimp only at hSw); go_simp; first | done | with_reducible rfl)
        try simp only [Act.put, List.setIfInBounds_toArray, List.set_cons_zero, List.set_cons_succ]
        refine wpAnyH_take (i := 1) (v := ?_) (arr_at rfl) (by kernel_rfl) (by kernel_rfl) (by kernel_rfl) (fun _ _ _ h => h) ?_ (by assumption) ?_
        rotate_left
        · first | (refine Or.inr ⟨by rfl, ?_⟩; with_reducible rfl) | (refine Or.inl ⟨by rfl, ?_⟩; intro w hSw; (try dsimp only at hSw); go_simp; first | done | with_reducible rfl)
        try simp only [Act.put, List.setIfInBounds_toArray, List.set_cons_zero, List.set_cons_succ]
        refine wpAnyH_take (i := 2) (v := ?_) (arr_at rfl) (by kernel_rfl) (by kernel_rfl) (by kernel_rfl) (fun _ _ _ h => h) ?_ (by assumption) ?_
        rotate_left
        · first | (refine Or.inr ⟨by rfl, ?_⟩; with_reducible rfl) | (refine Or.inl ⟨by rfl, ?_⟩; intro w hSw; (try dsimp only at hSw); go_simp; first | done | with_reducible rfl)
        try simp only [Act.put, List.setIfInBounds_toArray, List.set_cons_zero, List.set_cons_succ]
        refine wpAnyH_take (i := 3) (v := ?_) (arr_at rfl) (by kernel_rfl) (by kernel_rfl) (by kernel_rfl) (fun _ _ _ h => h) ?_ (by assumption) ?_
        rotate_left
        · first | (refine Or.inr ⟨by rfl, ?_⟩; with_reducible rfl) | (refine Or.inl ⟨by rfl, ?_⟩; intro w hSw; (try dsimp only at hSw); go_simp; first | done | with_reducible rfl)
        try simp only [Act.put, List.setIfInBounds_toArray, List.set_cons_zero, List.set_cons_succ]
        refine wpAnyH_take (i := 4) (v := ?_) (arr_at rfl) (by kernel_rfl) (by kernel_rfl) (by kernel_rfl) (fun _ _ _ h => h) ?_ (by assumption) ?_
        rotate_left
        · first | (refine Or.inr ⟨by rfl, ?_⟩; with_reducible rfl) | (refine Or.inl ⟨by rfl, ?_⟩; intro w hSw; (try dsimp only at hSw); go_simp; first | done | with_reducible rfl)
        try simp only [Act.put, List.setIfInBounds_toArray, List.set_cons_zero, List.set_cons_succ]
        refine wpAnyH_take (i := 5) (v := ?_) (arr_at rfl) (by kernel_rfl) (by kernel_rfl) (by kernel_rfl) (fun _ _ _ h => h) ?_ (by assumption) ?_
        rotate_left
        · first | (refine Or.inr ⟨by rfl, ?_⟩; with_reducible rfl) | (refine Or.inl ⟨by rfl, ?_⟩; intro w hSw; (try dsimp only at hSw); go_simp; first | done | with_reducible rfl)
        try simp only [Act.put, List.setIfInBounds_toArray, List.set_cons_zero, List.set_cons_succ]
        refine wpAnyH_take (i := 9) (v := ?_) (arr_at rfl) (by kernel_rfl) (by kernel_rfl) (by kernel_rfl) (fun _ _ _ h => h) ?_ (by assumption) ?_
        rotate_left
        · first | (refine Or.inr ⟨by rfl, ?_⟩; with_reducible rfl) | (refine Or.inl ⟨by rfl, ?_⟩; intro w hSw; (try dsimp only at hSw); go_simp; first | done | with_reducible rfl)
        try simp only [Act.put, List.setIfInBounds_toArray, List.set_cons_zero, List.set_cons_succ]
        refine wpAnyH_take (i := 10) (v := ?_) (arr_at rfl) (by kernel_rfl) (by kernel_rfl) (by kernel_rfl) (fun _ _ _ h => h) ?_ (by assumption) ?_
        rotate_left
        · first | (refine Or.inr ⟨by rfl, ?_⟩; with_reducible rfl) | (refine Or.inl ⟨by rfl, ?_⟩; intro w hSw; (try dsimp only at hSw); go_simp; first | done | with_reducible rfl)
        try simp only [Act.put, List.setIfInBounds_toArray, List.set_cons_zero, List.set_cons_succ]
        refine wpAnyH_take (i := 11) (v := ?_) (arr_at rfl) (by kernel_rfl) (by kernel_rfl) (by kernel_rfl) (fun _ _ _ h => h) ?_ (by assumption) ?_
        rotate_left
        · first | (refine Or.inr ⟨by rfl, ?_⟩; with_reducible rfl) | (refine Or.inl ⟨by rfl, ?_⟩; intro w hSw; (try dsimp only at hSw); go_simp; first | done | with_reducible rfl)
        try simp only [Act.put, List.setIfInBounds_toArray, List.set_cons_zero, List.set_cons_succ]
        refine wpAnyH_take (i := 12) (v := ?_) (arr_at rfl) (by kernel_rfl) (by kernel_rfl) (by kernel_rfl) (fun _ _ _ h => h) ?_ (by assumption) ?_
        rotate_left
        · first | (refine Or.inr ⟨by rfl, ?_⟩; with_reducible rfl) | (refine Or.inl ⟨by rfl, ?_⟩; intro w hSw; (try dsimp only at hSw); go_simp; first | done | with_reducible rfl)
        try simp only [Act.put, List.setIfInBounds_toArray, List.set_cons_zero, List.set_cons_succ]
        refine wpAnyH_take (i := 13) (v := ?_) (arr_at rfl) (by kernel_rfl) (by kernel_rfl) (by kernel_rfl) (fun _ _ _ h => h) ?_ (by assumption) ?_
        rotate_left
        · first | (refine Or.inr ⟨by rfl, ?_⟩; with_reducible rfl) | (refine Or.inl ⟨by rfl, ?_⟩; intro w hSw; (try dsimp only at hSw); go_simp; first | done | with_reducible rfl)
        try simp only [Act.put, List.setIfInBounds_toArray, List.set_cons_zero, List.set_cons_succ]
        refine wpAnyH_take (i := 17) (v := ?_) (arr_at rfl) (by kernel_rfl) (by kernel_rfl) (by kernel_rfl) (fun _ _ _ h => h) ?_ (by assumption) ?_
        rotate_left
        · first | (refine Or.inr ⟨by rfl, ?_⟩; with_reducible rfl) | (refine Or.inl ⟨by rfl, ?_⟩; intro w hSw; (try dsimp only at hSw); go_simp; first | done | with_reducible rfl)
        try simp only [Act.put, List.setIfInBounds_toArray, List.set_cons_zero, List.set_cons_succ]
        refine wpAnyH_take (i := 18) (v := ?_) (arr_at rfl) (by kernel_rfl) (by kernel_rfl) (by kernel_rfl) (fun _ _ _ h => h) ?_ (by assumption) ?_
        rotate_left
        · first | (refine Or.inr ⟨by rfl, ?_⟩; with_reducible rfl) | (refine Or.inl ⟨by rfl, ?_⟩; intro w hSw; (try dsimp only at hSw); go_simp; first | done | with_reducible rfl)
        try simp only [Act.put, List.setIfInBounds_toArray, List.set_cons_zero, List.set_cons_succ]
        refine wpAnyH_take (i := 19) (v := ?_) (arr_at rfl) (by kernel_rfl) (by kernel_rfl) (by kernel_rfl) (fun _ _ _ h => h) ?_ (by assumption) ?_
        rotate_left
        · first | (refine Or.inr ⟨by rfl, ?_⟩; with_reducible rfl) | (refine Or.inl ⟨by rfl, ?_⟩; intro w hSw; (try dsimp only at hSw); go_simp; first | done | with_reducible rfl)
        try simp only [Act.put, List.setIfInBounds_toArray, List.set_cons_zero, List.set_cons_succ]
        refine wpAnyH_take (i := 20) (v := ?_) (arr_at rfl) (by kernel_rfl) (by kernel_rfl) (by kernel_rfl) (fun _ _ _ h => h) ?_ (by assumption) ?_
        rotate_left
        · first | (refine Or.inr ⟨by rfl, ?_⟩; with_reducible rfl) | (refine Or.inl ⟨by rfl, ?_⟩; intro w hSw; (try dsimp only at hSw); go_simp; first | done | with_reducible rfl)
        try simp only [Act.put, List.setIfInBounds_toArray, List.set_cons_zero, List.set_cons_succ]
        refine wpAnyH_take (i := 21) (v := ?_) (arr_at rfl) (by kernel_rfl) (by kernel_rfl) (by kernel_rfl) (fun _ _ _ h => h) ?_ (by assumption) ?_
        rotate_left
        · first | (refine Or.inr ⟨by rfl, ?_⟩; with_reducible rfl) | (refine Or.inl ⟨by rfl, ?_⟩; intro w hSw; (try dsimp only at hSw); go_simp; first | done | with_reducible rfl)
        try simp only [Act.put, List.setIfInBounds_toArray, List.set_cons_zero, List.set_cons_succ]
        refine wpAnyH_ready (rs := [6]) (by kernel_rfl) (by simp) ?_
        refine AllReadyH.cons (arr_at rfl) (fun K hK => ?_) AllReadyH.nil
        go_simp
        go_at_call 51; refine (c_sFormatEnd _ _ _).mono ?_; rw [HF.out]; rintro e wd ⟨rfl, hq⟩; replace hA := hA.to hq; replace B := Bl.then B hq; clear hq
        refine hK.out _ _ ?_ (fun hHeld => ?_)
        · (try dsimp only); (have a := TM.c4 hA hkl.out; exact ⟨a.1, a.2.1, a.2.2.1, a.2.2.2⟩)
        clear hK K
        try simp only [Act.put, List.setIfInBounds_toArray, List.set_cons_zero, List.set_cons_succ]
        refine wpAnyH_take (i := 7) (v := ?_) (arr_at rfl) (by kernel_rfl) (by kernel_rfl) (by kernel_rfl) (fun _ _ _ h => h) ?_ (by assumption) ?_
        rotate_left
        · first | (refine Or.inr ⟨by rfl, ?_⟩; with_reducible rfl) | (refine Or.inl ⟨by rfl, ?_⟩; intro w hSw; (try dsimp only at hSw); go_simp; first | done | with_reducible rfl)
        try simp only [Act.put, List.setIfInBounds_toArray, List.set_cons_zero, List.set_cons_succ]
        refine wpAnyH_take (i := 8) (v := ?_) (arr_at rfl) (by kernel_rfl) (by kernel_rfl) (by kernel_rfl) (fun _ _ _ h => h) ?_ (by assumption) ?_
        rotate_left
        · first | (refine Or.inr ⟨by rfl, ?_⟩; with_reducible rfl) | (refine Or.inl ⟨by rfl, ?_⟩; intro w hSw; (try dsimp only at hSw); go_simp; first | done | with_reducible rfl)
        try simp only [Act.put, List.setIfInBounds_toArray, List.set_cons_zero, List.set_cons_succ]
        refine wpAnyH_ready (rs := [14]) (by kernel_rfl) (by simp) ?_
        refine AllReadyH.cons (arr_at rfl) (fun K hK => ?_) AllReadyH.nil
        go_simp
        go_at_call 16; refine (c_dec _ _ hb1.1 hb1.2).mono ?_; rw [HD.out]; rintro e we ⟨rfl, hq⟩; replace hA := hA.to hq; replace B := Bl.then B hq; clear hq
        refine hK.out _ _ ?_ (fun hHeld => ?_)
        · (try dsimp only); (have a := TM.c4 hA hkl.out; exact ⟨a.1, a.2.1, a.2.2.1, a.2.2.2⟩)
        clear hK K
        try simp only [Act.put, List.setIfInBounds_toArray, List.set_cons_zero, List.set_cons_succ]
        refine wpAnyH_take (i := 15) (v := ?_) (arr_at rfl) (by kernel_rfl) (by kernel_rfl) (by kernel_rfl) (fun _ _ _ h => h) ?_ (by assumption) ?_
        rotate_left
        · first | (refine Or.inr ⟨by rfl, ?_⟩; with_reducible rfl) | (refine Or.inl ⟨by rfl, ?_⟩; intro w hSw; (try dsimp only at hSw); go_simp; first | done | with_reducible rfl)
        try simp only [Act.put, List.setIfInBounds_toArray, List.set_cons_zero, List.set_cons_succ]
        refine wpAnyH_take (i := 16) (v := ?_) (arr_at rfl) (by kernel_rfl) (by kernel_rfl) (by kernel_rfl) (fun _ _ _ h => h) ?_ (by assumption) ?_
        rotate_left
        · first | (refine Or.inr ⟨by rfl, ?_⟩; with_reducible rfl) | (refine Or.inl ⟨by rfl, ?_⟩; intro w hSw; (try dsimp only at hSw); go_simp; first | done | with_reducible rfl)
        try simp only [Act.put, List.setIfInBounds_toArray, List.set_cons_zero, List.set_cons_succ]
        refine wpAnyH_ready (rs := [22]) (by kernel_rfl) (by simp) ?_
        refine AllReadyH.cons (arr_at rfl) (fun K hK => ?_) AllReadyH.nil
        go_simp
        go_at_call 16; refine (c_dec _ _ hb2.1 hb2.2).mono ?_; rw [HL.out]; rintro e wf ⟨rfl, hq⟩; replace hA := hA.to hq; replace B := Bl.then B hq; clear hq
        refine hK.out _ _ ?_ (fun hHeld => ?_)
        · (try dsimp only); (have a := TM.c4 hA hkl.out; exact ⟨a.1, a.2.1, a.2.2.1, a.2.2.2⟩)
        clear hK K
        try simp only [Act.put, List.setIfInBounds_toArray, List.set_cons_zero, List.set_cons_succ]
        refine wpAnyH_take (i := 23) (v := ?_) (arr_at rfl) (by kernel_rfl) (by kernel_rfl) (by kernel_rfl) (fun _ _ _ h => h) ?_ (by assumption) ?_
        rotate_left
        · first | (refine Or.inr ⟨by rfl, ?_⟩; with_reducible rfl) | (refine Or.inl ⟨by rfl, ?_⟩; intro w hSw; (try dsimp only at hSw); go_simp; first | done | with_reducible rfl)
        try simp only [Act.put, List.setIfInBounds_toArray, List.set_cons_zero, List.set_cons_succ]
        refine wpAnyH_take (i := 24) (v := ?_) (arr_at rfl) (by kernel_rfl) (by kernel_rfl) (by kernel_rfl) (fun _ _ _ h => h) ?_ (by assumption) ?_
        rotate_left
        · first | (refine Or.inr ⟨by rfl, ?_⟩; with_reducible rfl) | (refine Or.inl ⟨by rfl, ?_⟩; intro w hSw; (try dsimp only at hSw); go_simp; first | done | with_reducible rfl)
        try simp only [Act.put, List.setIfInBounds_toArray, List.set_cons_zero, List.set_cons_succ]
        refine wpAnyH_done (by kernel_rfl) ?_ _
        go_wp2
        go_roundw
        case rel => exact ⟨k + 1, by omega, by go_num, by rw [HS.out], B⟩
        case measure => simp [intOf]; omega
      · rw [if_neg hk0] at hS
        have HS := Lib.hid hS
        clear hS
        have t0 : decide ((0 : Int) < k) = true := by rw [decide_eq_true_eq]; omega
        have t0' : decide (0 < k) = true := by rw [decide_eq_true_eq]; omega
        have hz2 : o.size ≤ 8000000 := by omega
        have hz3 : (o ++ (⟨#[59, 32]⟩ : ByteArray)).size ≤ 8000002 := by rw [ByteArray.size_append]; show _ + 2 ≤ _; omega
        have hs0 : ¬ (9223372036854775807 < o.size + 2) := by omega
        have HZ3 := Lib.hid hz3
        clear hk0 hz hz3
        go_wp2
        generalize hoo : o ++ ({ data := #[59, 32] } : ByteArray) = o at *
        have hz3 := HZ3.out
        clear hoo
        have hs1 : ¬ (9223372036854775807 < o.size + F.size) := by omega
        have hs2 : ¬ (9223372036854775807 < o.size + F.size + 1) := by omega
        have hs3 : ¬ (9223372036854775807 < o.size + F.size + 1 + D.size) := by omega
        have hs4 : ¬ (9223372036854775807 < o.size + F.size + 1 + D.size + 1) := by omega
        have hs5 : ¬ (9223372036854775807 < o.size + F.size + 1 + D.size + 1 + L.size) := by omega
        refine wp_region_held_drew (S := (fun w' => w'.cell? ⟨b, off + k * 4, none⟩ = some (.int .i64 (mn l k).ad) ∧ w'.cell? ⟨b, off + k * 4 + 1, none⟩ = some (.int .i64 (mn l k).ep) ∧ w'.cell? ⟨b, off + k * 4 + 2, none⟩ = some (.int .i64 (mn l k).po) ∧ w'.cell? ⟨b, off + k * 4 + 3, none⟩ = some (.int .i64 (mn l k).la))) (by kernel_rfl) ?_ (fun hHeld => ?_)
        · (try dsimp only); (have a := TM.c4 hA hkl.out; exact ⟨a.1, a.2.1, a.2.2.1, a.2.2.2⟩)
        replace hA : TM wr.drew (some ⟨b, off, none⟩) l := hA; replace B : Below w.heap.size w wr.drew := Bl.drewN B 1; generalize World.drew wr = wc at *
        refine wpAnyH_take (i := 0) (v := ?_) (arr_at rfl) (by kernel_rfl) (by kernel_rfl) (by kernel_rfl) (fun _ _ _ h => h) ?_ (by assumption) ?_
        rotate_left
        · first | (refine Or.inr ⟨by rfl, ?_⟩; with_reducible rfl) | (refine Or.inl ⟨by rfl, ?_⟩; intro w hSw; (try dsimp only at hSw); go_simp; first | done | with_reducible rfl)
        try simp only [Act.put, List.setIfInBounds_toArray, List.set_cons_zero, List.set_cons_succ]
        refine wpAnyH_take (i := 1) (v := ?_) (arr_at rfl) (by kernel_rfl) (by kernel_rfl) (by kernel_rfl) (fun _ _ _ h => h) ?_ (by assumption) ?_
        rotate_left
        · first | (refine Or.inr ⟨by rfl, ?_⟩; with_reducible rfl) | (refine Or.inl ⟨by rfl, ?_⟩; intro w hSw; (try dsimp only at hSw); go_simp; first | done | with_reducible rfl)
        try simp only [Act.put, List.setIfInBounds_toArray, List.set_cons_zero, List.set_cons_succ]
        refine wpAnyH_take (i := 2) (v := ?_) (arr_at rfl) (by kernel_rfl) (by kernel_rfl) (by kernel_rfl) (fun _ _ _ h => h) ?_ (by assumption) ?_
        rotate_left
        · first | (refine Or.inr ⟨by rfl, ?_⟩; with_reducible rfl) | (refine Or.inl ⟨by rfl, ?_⟩; intro w hSw; (try dsimp only at hSw); go_simp; first | done | with_reducible rfl)
        try simp only [Act.put, List.setIfInBounds_toArray, List.set_cons_zero, List.set_cons_succ]
        refine wpAnyH_take (i := 3) (v := ?_) (arr_at rfl) (by kernel_rfl) (by kernel_rfl) (by kernel_rfl) (fun _ _ _ h => h) ?_ (by assumption) ?_
        rotate_left
        · first | (refine Or.inr ⟨by rfl, ?_⟩; with_reducible rfl) | (refine Or.inl ⟨by rfl, ?_⟩; intro w hSw; (try dsimp only at hSw); go_simp; first | done | with_reducible rfl)
        try simp only [Act.put, List.setIfInBounds_toArray, List.set_cons_zero, List.set_cons_succ]
        refine wpAnyH_take (i := 4) (v := ?_) (arr_at rfl) (by kernel_rfl) (by kernel_rfl) (by kernel_rfl) (fun _ _ _ h => h) ?_ (by assumption) ?_
        rotate_left
        · first | (refine Or.inr ⟨by rfl, ?_⟩; with_reducible rfl) | (refine Or.inl ⟨by rfl, ?_⟩; intro w hSw; (try dsimp only at hSw); go_simp; first | done | with_reducible rfl)
        try simp only [Act.put, List.setIfInBounds_toArray, List.set_cons_zero, List.set_cons_succ]
        refine wpAnyH_take (i := 5) (v := ?_) (arr_at rfl) (by kernel_rfl) (by kernel_rfl) (by kernel_rfl) (fun _ _ _ h => h) ?_ (by assumption) ?_
        rotate_left
        · first | (refine Or.inr ⟨by rfl, ?_⟩; with_reducible rfl) | (refine Or.inl ⟨by rfl, ?_⟩; intro w hSw; (try dsimp only at hSw); go_simp; first | done | with_reducible rfl)
        try simp only [Act.put, List.setIfInBounds_toArray, List.set_cons_zero, List.set_cons_succ]
        refine wpAnyH_take (i := 9) (v := ?_) (arr_at rfl) (by kernel_rfl) (by kernel_rfl) (by kernel_rfl) (fun _ _ _ h => h) ?_ (by assumption) ?_
        rotate_left
        · first | (refine Or.inr ⟨by rfl, ?_⟩; with_reducible rfl) | (refine Or.inl ⟨by rfl, ?_⟩; intro w hSw; (try dsimp only at hSw); go_simp; first | done | with_reducible rfl)
        try simp only [Act.put, List.setIfInBounds_toArray, List.set_cons_zero, List.set_cons_succ]
        refine wpAnyH_take (i := 10) (v := ?_) (arr_at rfl) (by kernel_rfl) (by kernel_rfl) (by kernel_rfl) (fun _ _ _ h => h) ?_ (by assumption) ?_
        rotate_left
        · first | (refine Or.inr ⟨by rfl, ?_⟩; with_reducible rfl) | (refine Or.inl ⟨by rfl, ?_⟩; intro w hSw; (try dsimp only at hSw); go_simp; first | done | with_reducible rfl)
        try simp only [Act.put, List.setIfInBounds_toArray, List.set_cons_zero, List.set_cons_succ]
        refine wpAnyH_take (i := 11) (v := ?_) (arr_at rfl) (by kernel_rfl) (by kernel_rfl) (by kernel_rfl) (fun _ _ _ h => h) ?_ (by assumption) ?_
        rotate_left
        · first | (refine Or.inr ⟨by rfl, ?_⟩; with_reducible rfl) | (refine Or.inl ⟨by rfl, ?_⟩; intro w hSw; (try dsimp only at hSw); go_simp; first | done | with_reducible rfl)
        try simp only [Act.put, List.setIfInBounds_toArray, List.set_cons_zero, List.set_cons_succ]
        refine wpAnyH_take (i := 12) (v := ?_) (arr_at rfl) (by kernel_rfl) (by kernel_rfl) (by kernel_rfl) (fun _ _ _ h => h) ?_ (by assumption) ?_
        rotate_left
        · first | (refine Or.inr ⟨by rfl, ?_⟩; with_reducible rfl) | (refine Or.inl ⟨by rfl, ?_⟩; intro w hSw; (try dsimp only at hSw); go_simp; first | done | with_reducible rfl)
        try simp only [Act.put, List.setIfInBounds_toArray, List.set_cons_zero, List.set_cons_succ]
        refine wpAnyH_take (i := 13) (v := ?_) (arr_at rfl) (by kernel_rfl) (by kernel_rfl) (by kernel_rfl) (fun _ _ _ h => h) ?_ (by assumption) ?_
        rotate_left
        · first | (refine Or.inr ⟨by rfl, ?_⟩; with_reducible rfl) | (refine Or.inl ⟨by rfl, ?_⟩; intro w hSw; (try dsimp only at hSw); go_simp; first | done | with_reducible rfl)
        try simp only [Act.put, List.setIfInBounds_toArray, List.set_cons_zero, List.set_cons_succ]
        refine wpAnyH_take (i := 17) (v := ?_) (arr_at rfl) (by kernel_rfl) (by kernel_rfl) (by kernel_rfl) (fun _ _ _ h => h) ?_ (by assumption) ?_
        rotate_left
        · first | (refine Or.inr ⟨by rfl, ?_⟩; with_reducible rfl) | (refine Or.inl ⟨by rfl, ?_⟩; intro w hSw; (try dsimp only at hSw); go_simp; first | done | with_reducible rfl)
        try simp only [Act.put, List.setIfInBounds_toArray, List.set_cons_zero, List.set_cons_succ]
        refine wpAnyH_take (i := 18) (v := ?_) (arr_at rfl) (by kernel_rfl) (by kernel_rfl) (by kernel_rfl) (fun _ _ _ h => h) ?_ (by assumption) ?_
        rotate_left
        · first | (refine Or.inr ⟨by rfl, ?_⟩; with_reducible rfl) | (refine Or.inl ⟨by rfl, ?_⟩; intro w hSw; (try dsimp only at hSw); go_simp; first | done | with_reducible rfl)
        try simp only [Act.put, List.setIfInBounds_toArray, List.set_cons_zero, List.set_cons_succ]
        refine wpAnyH_take (i := 19) (v := ?_) (arr_at rfl) (by kernel_rfl) (by kernel_rfl) (by kernel_rfl) (fun _ _ _ h => h) ?_ (by assumption) ?_
        rotate_left
        · first | (refine Or.inr ⟨by rfl, ?_⟩; with_reducible rfl) | (refine Or.inl ⟨by rfl, ?_⟩; intro w hSw; (try dsimp only at hSw); go_simp; first | done | with_reducible rfl)
        try simp only [Act.put, List.setIfInBounds_toArray, List.set_cons_zero, List.set_cons_succ]
        refine wpAnyH_take (i := 20) (v := ?_) (arr_at rfl) (by kernel_rfl) (by kernel_rfl) (by kernel_rfl) (fun _ _ _ h => h) ?_ (by assumption) ?_
        rotate_left
        · first | (refine Or.inr ⟨by rfl, ?_⟩; with_reducible rfl) | (refine Or.inl ⟨by rfl, ?_⟩; intro w hSw; (try dsimp only at hSw); go_simp; first | done | with_reducible rfl)
        try simp only [Act.put, List.setIfInBounds_toArray, List.set_cons_zero, List.set_cons_succ]
        refine wpAnyH_take (i := 21) (v := ?_) (arr_at rfl) (by kernel_rfl) (by kernel_rfl) (by kernel_rfl) (fun _ _ _ h => h) ?_ (by assumption) ?_
        rotate_left
        · first | (refine Or.inr ⟨by rfl, ?_⟩; with_reducible rfl) | (refine Or.inl ⟨by rfl, ?_⟩; intro w hSw; (try dsimp only at hSw); go_simp; first | done | with_reducible rfl)
        try simp only [Act.put, List.setIfInBounds_toArray, List.set_cons_zero, List.set_cons_succ]
        refine wpAnyH_ready (rs := [6]) (by kernel_rfl) (by simp) ?_
        refine AllReadyH.cons (arr_at rfl) (fun K hK => ?_) AllReadyH.nil
        go_simp
        go_at_call 51; refine (c_sFormatEnd _ _ _).mono ?_; rw [HF.out]; rintro e wd ⟨rfl, hq⟩; replace hA := hA.to hq; replace B := Bl.then B hq; clear hq
        refine hK.out _ _ ?_ (fun hHeld => ?_)
        · (try dsimp only); (have a := TM.c4 hA hkl.out; exact ⟨a.1, a.2.1, a.2.2.1, a.2.2.2⟩)
        clear hK K
        try simp only [Act.put, List.setIfInBounds_toArray, List.set_cons_zero, List.set_cons_succ]
        refine wpAnyH_take (i := 7) (v := ?_) (arr_at rfl) (by kernel_rfl) (by kernel_rfl) (by kernel_rfl) (fun _ _ _ h => h) ?_ (by assumption) ?_
        rotate_left
        · first | (refine Or.inr ⟨by rfl, ?_⟩; with_reducible rfl) | (refine Or.inl ⟨by rfl, ?_⟩; intro w hSw; (try dsimp only at hSw); go_simp; first | done | with_reducible rfl)
        try simp only [Act.put, List.setIfInBounds_toArray, List.set_cons_zero, List.set_cons_succ]
        refine wpAnyH_take (i := 8) (v := ?_) (arr_at rfl) (by kernel_rfl) (by kernel_rfl) (by kernel_rfl) (fun _ _ _ h => h) ?_ (by assumption) ?_
        rotate_left
        · first | (refine Or.inr ⟨by rfl, ?_⟩; with_reducible rfl) | (refine Or.inl ⟨by rfl, ?_⟩; intro w hSw; (try dsimp only at hSw); go_simp; first | done | with_reducible rfl)
        try simp only [Act.put, List.setIfInBounds_toArray, List.set_cons_zero, List.set_cons_succ]
        refine wpAnyH_ready (rs := [14]) (by kernel_rfl) (by simp) ?_
        refine AllReadyH.cons (arr_at rfl) (fun K hK => ?_) AllReadyH.nil
        go_simp
        go_at_call 16; refine (c_dec _ _ hb1.1 hb1.2).mono ?_; rw [HD.out]; rintro e we ⟨rfl, hq⟩; replace hA := hA.to hq; replace B := Bl.then B hq; clear hq
        refine hK.out _ _ ?_ (fun hHeld => ?_)
        · (try dsimp only); (have a := TM.c4 hA hkl.out; exact ⟨a.1, a.2.1, a.2.2.1, a.2.2.2⟩)
        clear hK K
        try simp only [Act.put, List.setIfInBounds_toArray, List.set_cons_zero, List.set_cons_succ]
        refine wpAnyH_take (i := 15) (v := ?_) (arr_at rfl) (by kernel_rfl) (by kernel_rfl) (by kernel_rfl) (fun _ _ _ h => h) ?_ (by assumption) ?_
        rotate_left
        · first | (refine Or.inr ⟨by rfl, ?_⟩; with_reducible rfl) | (refine Or.inl ⟨by rfl, ?_⟩; intro w hSw; (try dsimp only at hSw); go_simp; first | done | with_reducible rfl)
        try simp only [Act.put, List.setIfInBounds_toArray, List.set_cons_zero, List.set_cons_succ]
        refine wpAnyH_take (i := 16) (v := ?_) (arr_at rfl) (by kernel_rfl) (by kernel_rfl) (by kernel_rfl) (fun _ _ _ h => h) ?_ (by assumption) ?_
        rotate_left
        · first | (refine Or.inr ⟨by rfl, ?_⟩; with_reducible rfl) | (refine Or.inl ⟨by rfl, ?_⟩; intro w hSw; (try dsimp only at hSw); go_simp; first | done | with_reducible rfl)
        try simp only [Act.put, List.setIfInBounds_toArray, List.set_cons_zero, List.set_cons_succ]
        refine wpAnyH_ready (rs := [22]) (by kernel_rfl) (by simp) ?_
        refine AllReadyH.cons (arr_at rfl) (fun K hK => ?_) AllReadyH.nil
        go_simp
        go_at_call 16; refine (c_dec _ _ hb2.1 hb2.2).mono ?_; rw [HL.out]; rintro e wf ⟨rfl, hq⟩; replace hA := hA.to hq; replace B := Bl.then B hq; clear hq
        refine hK.out _ _ ?_ (fun hHeld => ?_)
        · (try dsimp only); (have a := TM.c4 hA hkl.out; exact ⟨a.1, a.2.1, a.2.2.1, a.2.2.2⟩)
        clear hK K
        try simp only [Act.put, List.setIfInBounds_toArray, List.set_cons_zero, List.set_cons_succ]
        refine wpAnyH_take (i := 23) (v := ?_) (arr_at rfl) (by kernel_rfl) (by kernel_rfl) (by kernel_rfl) (fun _ _ _ h => h) ?_ (by assumption) ?_
        rotate_left
        · first | (refine Or.inr ⟨by rfl, ?_⟩; with_reducible rfl) | (refine Or.inl ⟨by rfl, ?_⟩; intro w hSw; (try dsimp only at hSw); go_simp; first | done | with_reducible rfl)
        try simp only [Act.put, List.setIfInBounds_toArray, List.set_cons_zero, List.set_cons_succ]
        refine wpAnyH_take (i := 24) (v := ?_) (arr_at rfl) (by kernel_rfl) (by kernel_rfl) (by kernel_rfl) (fun _ _ _ h => h) ?_ (by assumption) ?_
        rotate_left
        · first | (refine Or.inr ⟨by rfl, ?_⟩; with_reducible rfl) | (refine Or.inl ⟨by rfl, ?_⟩; intro w hSw; (try dsimp only at hSw); go_simp; first | done | with_reducible rfl)
        try simp only [Act.put, List.setIfInBounds_toArray, List.set_cons_zero, List.set_cons_succ]
        refine wpAnyH_done (by kernel_rfl) ?_ _
        go_wp2
        go_roundw
        case rel => exact ⟨k + 1, by omega, by go_num, by rw [HS.out], B⟩
        case measure => simp [intOf]; omega
    · obtain rfl : k = n := by omega
      go_wp2
      go_ret
      exact ⟨by rw [← accT_all l HV.out, HN.out]; rfl, HB.out⟩
end Go.Proofs.YtjflfhjnbccpmaaGreatDoor
namespace Go.Proofs.YtjflfhjnbccpmaaGreatDoor
open Go.RowKit
set_option maxHeartbeats 3200000 in
theorem c_iFormatTable (A : Option Addr) (n c : Nat) (l : List Mpg) (w : World) (hn : l.length = n) (hc : n ≤ c) (h : TM w A l) (hl : n ≤ 1099511627776) (hE : TabE w) :
    Calls Tryz.prog 30 #[.slice A n c] w fun e w' => e = .returned (.string (tabT l)) ∧ Below w.heap.size w w' := by
  have HN := Lib.hid hn
  have HA : Hid (∀ W, Below w.heap.size w W → TM W A l) := fun W b => h.to b
  have HE : Hid (∀ W, Below w.heap.size w W → TabE W) := fun W b => hE.to b
  clear hn hE
  go_enter Tryz.func30, Tryz.ntmps30
  go_wp2_with fail
  refine (c_iValidTable _ _ _ l _ HN.out hc h hl).mono ?_
  rintro e w1 ⟨rfl, B⟩
  clear h
  cases hv : vTab l
  · have HV : Hid (tabT l = ⟨#[]⟩) := by unfold tabT; rw [hv]; rfl
    clear hv
    go_wp2
    go_ret
    exact ⟨by rw [HV.out]; rfl, B⟩
  have HV := Lib.hid hv
  have n8 : n ≤ 8 := by rw [← HN.out]; exact (vTab_iff.1 hv).2
  clear hv
  have ho : SO w1 w.heap.size (.slice none 0 0) [] := ⟨by simp, .inl ⟨rfl, rfl⟩⟩
  go_wp2
  go_loopw [3, 11] (fun v i wr => ∃ (k : Nat) (v' : Value), k ≤ n ∧ i = .int .i64 k ∧ v' = v ∧ Hid (SO wr w.heap.size v' ((l.take k).map partB)) ∧ Hid (Below w.heap.size w wr)) (fun _ i _ => n - (intOf i).toNat)
  case atStart => exact ⟨0, _, Nat.zero_le _, rfl, rfl, ho, B⟩
  case round =>
    clear B ho
    obtain ⟨k, v', hk, rfl, rfl, HO, HB⟩ := hrel
    by_cases hlt : k < n
    · have hkl : Hid (k < l.length) := Lib.hid (by rw [HN.out]; exact hlt)
      obtain ⟨b, off, rfl, hb, c0, c1, c2, c3⟩ := (HA.out _ HB.out).get hkl.out
      obtain ⟨p1, p2, p3⟩ := piece_size HV.out hkl.out
      have hok := okM_iff.1 (tab_at HV.out hkl.out).1
      have hb1 : 0 ≤ (mn l k).po ∧ (mn l k).po ≤ 1099511627776 := by omega
      have hb2 : 0 ≤ (mn l k).la ∧ (mn l k).la ≤ 1099511627776 := by omega
      have i1 : (0 : Int) ≤ k ∧ (k : Int) < n := by omega
      have ht : (l.take (k + 1)).map partB = (l.take k).map partB ++ [partB (mn l k)] := by
        rw [List.take_add_one, show l[k]? = some (mn l k) by simp [mn, hkl.out]]
        simp
      have hlen : ((l.take k).map partB).length ≤ 8 := by rw [List.length_map, List.length_take]; omega
      have hP : partB (mn l k) = fmtEnd (mn l k).ad (mn l k).ep ++ ⟨#[32]⟩ ++ dec (mn l k).po ++ ⟨#[32]⟩ ++ dec (mn l k).la := rfl
      generalize hF : fmtEnd (mn l k).ad (mn l k).ep = F at p1 hP
      generalize hD : dec (mn l k).po = D at p2 hP
      generalize hL : dec (mn l k).la = L at p3 hP
      have HF := Lib.hid hF
      have HD := Lib.hid hD
      have HL := Lib.hid hL
      have HP := Lib.hid hP
      have HT := Lib.hid ht
      clear hF hD hL hok hP ht
      have ho : SO (wr.alloc (.cells #[.int .i64 (mn l k).ad, .int .i64 (mn l k).ep, .int .i64 (mn l k).po, .int .i64 (mn l k).la] 84)) w.heap.size v' ((l.take k).map partB) := HO.out.alloc _
      have hne : ∀ j, v'.ownBlock = some j → j ≠ wr.heap.size := fun j hj => by have := (World.ownsRow.lt HO.out j hj).2; omega
      have k0 := Blk.new wr 84 #[.int .i64 (mn l k).ad, .int .i64 (mn l k).ep, .int .i64 (mn l k).po, .int .i64 (mn l k).la]
      have B := HB.out.alloc HB.out.size (.cells #[.int .i64 (mn l k).ad, .int .i64 (mn l k).ep, .int .i64 (mn l k).po, .int .i64 (mn l k).la] 84)
      have hE := HE.out _ B
      have hs1 : ¬ (9223372036854775807 < F.size + 1) := by omega
      have hs2 : ¬ (9223372036854775807 < F.size + 1 + D.size) := by omega
      have hs3 : ¬ (9223372036854775807 < F.size + 1 + D.size + 1) := by omega
      have hs4 : ¬ (9223372036854775807 < F.size + 1 + D.size + 1 + L.size) := by omega
      go_wp2_with fail
      clear c0 c1 c2 c3
      refine wp_region_held_drew (S := (fun w' => w'.cell? ⟨wr.heap.size, 0, none⟩ = some (.int .i64 (mn l k).ad) ∧ w'.cell? ⟨wr.heap.size, 1, none⟩ = some (.int .i64 (mn l k).ep) ∧ w'.cell? ⟨wr.heap.size, 2, none⟩ = some (.int .i64 (mn l k).po) ∧ w'.cell? ⟨wr.heap.size, 3, none⟩ = some (.int .i64 (mn l k).la))) (by kernel_rfl) ?_ (fun hHeld => ?_)
      · (try dsimp only); exact ⟨k0.cell 0, k0.cell 1, k0.cell 2, k0.cell 3⟩
      replace k0 : Blk (wr.alloc (.cells #[.int .i64 (mn l k).ad, .int .i64 (mn l k).ep, .int .i64 (mn l k).po, .int .i64 (mn l k).la] 84)).drew wr.heap.size 84 #[.int .i64 (mn l k).ad, .int .i64 (mn l k).ep, .int .i64 (mn l k).po, .int .i64 (mn l k).la] := k0; replace B : Below w.heap.size w (wr.alloc (.cells #[.int .i64 (mn l k).ad, .int .i64 (mn l k).ep, .int .i64 (mn l k).po, .int .i64 (mn l k).la] 84)).drew := Bl.drewN B 1; replace ho : SO (wr.alloc (.cells #[.int .i64 (mn l k).ad, .int .i64 (mn l k).ep, .int .i64 (mn l k).po, .int .i64 (mn l k).la] 84)).drew w.heap.size v' ((l.take k).map partB) := ho; replace hE : TabE (wr.alloc (.cells #[.int .i64 (mn l k).ad, .int .i64 (mn l k).ep, .int .i64 (mn l k).po, .int .i64 (mn l k).la] 84)).drew := hE; generalize World.drew _ = wc at *
      refine wpAnyH_take (i := 0) (v := ?_) (arr_at rfl) (by kernel_rfl) (by kernel_rfl) (by kernel_rfl) (fun _ _ _ h => h) ?_ (by assumption) ?_
      rotate_left
      · first | (refine Or.inr ⟨by rfl, ?_⟩; with_reducible rfl) | (refine Or.inl ⟨by rfl, ?_⟩; intro w hSw; (try dsimp only at hSw); go_simp; first | done | with_reducible rfl)
      try simp only [Act.put, List.setIfInBounds_toArray, List.set_cons_zero, List.set_cons_succ]
      refine wpAnyH_take (i := 1) (v := ?_) (arr_at rfl) (by kernel_rfl) (by kernel_rfl) (by kernel_rfl) (fun _ _ _ h => h) ?_ (by assumption) ?_
      rotate_left
      · first | (refine Or.inr ⟨by rfl, ?_⟩; with_reducible rfl) | (refine Or.inl ⟨by rfl, ?_⟩; intro w hSw; (try dsimp only at hSw); go_simp; first | done | with_reducible rfl)
      try simp only [Act.put, List.setIfInBounds_toArray, List.set_cons_zero, List.set_cons_succ]
      refine wpAnyH_take (i := 2) (v := ?_) (arr_at rfl) (by kernel_rfl) (by kernel_rfl) (by kernel_rfl) (fun _ _ _ h => h) ?_ (by assumption) ?_
      rotate_left
      · first | (refine Or.inr ⟨by rfl, ?_⟩; with_reducible rfl) | (refine Or.inl ⟨by rfl, ?_⟩; intro w hSw; (try dsimp only at hSw); go_simp; first | done | with_reducible rfl)
      try simp only [Act.put, List.setIfInBounds_toArray, List.set_cons_zero, List.set_cons_succ]
      refine wpAnyH_take (i := 5) (v := ?_) (arr_at rfl) (by kernel_rfl) (by kernel_rfl) (by kernel_rfl) (fun _ _ _ h => h) ?_ (by assumption) ?_
      rotate_left
      · first | (refine Or.inr ⟨by rfl, ?_⟩; with_reducible rfl) | (refine Or.inl ⟨by rfl, ?_⟩; intro w hSw; (try dsimp only at hSw); go_simp; first | done | with_reducible rfl)
      try simp only [Act.put, List.setIfInBounds_toArray, List.set_cons_zero, List.set_cons_succ]
      refine wpAnyH_take (i := 6) (v := ?_) (arr_at rfl) (by kernel_rfl) (by kernel_rfl) (by kernel_rfl) (fun _ _ _ h => h) ?_ (by assumption) ?_
      rotate_left
      · first | (refine Or.inr ⟨by rfl, ?_⟩; with_reducible rfl) | (refine Or.inl ⟨by rfl, ?_⟩; intro w hSw; (try dsimp only at hSw); go_simp; first | done | with_reducible rfl)
      try simp only [Act.put, List.setIfInBounds_toArray, List.set_cons_zero, List.set_cons_succ]
      refine wpAnyH_take (i := 10) (v := ?_) (arr_at rfl) (by kernel_rfl) (by kernel_rfl) (by kernel_rfl) (fun _ _ _ h => h) ?_ (by assumption) ?_
      rotate_left
      · first | (refine Or.inr ⟨by rfl, ?_⟩; with_reducible rfl) | (refine Or.inl ⟨by rfl, ?_⟩; intro w hSw; (try dsimp only at hSw); go_simp; first | done | with_reducible rfl)
      try simp only [Act.put, List.setIfInBounds_toArray, List.set_cons_zero, List.set_cons_succ]
      refine wpAnyH_take (i := 11) (v := ?_) (arr_at rfl) (by kernel_rfl) (by kernel_rfl) (by kernel_rfl) (fun _ _ _ h => h) ?_ (by assumption) ?_
      rotate_left
      · first | (refine Or.inr ⟨by rfl, ?_⟩; with_reducible rfl) | (refine Or.inl ⟨by rfl, ?_⟩; intro w hSw; (try dsimp only at hSw); go_simp; first | done | with_reducible rfl)
      try simp only [Act.put, List.setIfInBounds_toArray, List.set_cons_zero, List.set_cons_succ]
      refine wpAnyH_ready (rs := [3]) (by kernel_rfl) (by simp) ?_
      refine AllReadyH.cons (arr_at rfl) (fun K hK => ?_) AllReadyH.nil
      go_simp
      go_at_call 42; refine (c_iFormatEnd _ _ _ hE).mono ?_; rw [HF.out]; rintro e wd ⟨rfl, hq⟩; replace k0 := k0.to hq; replace ho := SO.to ho hq; replace hE := hE.to hq; replace B := Bl.then B hq; clear hq
      refine hK.out _ _ ?_ (fun hHeld => ?_)
      · (try dsimp only); exact ⟨k0.cell 0, k0.cell 1, k0.cell 2, k0.cell 3⟩
      clear hK K
      try simp only [Act.put, List.setIfInBounds_toArray, List.set_cons_zero, List.set_cons_succ]
      refine wpAnyH_take (i := 4) (v := ?_) (arr_at rfl) (by kernel_rfl) (by kernel_rfl) (by kernel_rfl) (fun _ _ _ h => h) ?_ (by assumption) ?_
      rotate_left
      · first | (refine Or.inr ⟨by rfl, ?_⟩; with_reducible rfl) | (refine Or.inl ⟨by rfl, ?_⟩; intro w hSw; (try dsimp only at hSw); go_simp; first | done | with_reducible rfl)
      try simp only [Act.put, List.setIfInBounds_toArray, List.set_cons_zero, List.set_cons_succ]
      refine wpAnyH_ready (rs := [7]) (by kernel_rfl) (by simp) ?_
      refine AllReadyH.cons (arr_at rfl) (fun K hK => ?_) AllReadyH.nil
      go_simp
      go_at_call 31; refine (c_Itoa _ _ hb1.1 (by omega) hE).mono ?_; rw [HD.out]; rintro e we ⟨rfl, hq⟩; replace k0 := k0.to hq; replace ho := SO.to ho hq; replace hE := hE.to hq; replace B := Bl.then B hq; clear hq
      refine hK.out _ _ ?_ (fun hHeld => ?_)
      · (try dsimp only); exact ⟨k0.cell 0, k0.cell 1, k0.cell 2, k0.cell 3⟩
      clear hK K
      try simp only [Act.put, List.setIfInBounds_toArray, List.set_cons_zero, List.set_cons_succ]
      refine wpAnyH_take (i := 8) (v := ?_) (arr_at rfl) (by kernel_rfl) (by kernel_rfl) (by kernel_rfl) (fun _ _ _ h => h) ?_ (by assumption) ?_
      rotate_left
      · first | (refine Or.inr ⟨by rfl, ?_⟩; with_reducible rfl) | (refine Or.inl ⟨by rfl, ?_⟩; intro w hSw; (try dsimp only at hSw); go_simp; first | done | with_reducible rfl)
      try simp only [Act.put, List.setIfInBounds_toArray, List.set_cons_zero, List.set_cons_succ]
      refine wpAnyH_take (i := 9) (v := ?_) (arr_at rfl) (by kernel_rfl) (by kernel_rfl) (by kernel_rfl) (fun _ _ _ h => h) ?_ (by assumption) ?_
      rotate_left
      · first | (refine Or.inr ⟨by rfl, ?_⟩; with_reducible rfl) | (refine Or.inl ⟨by rfl, ?_⟩; intro w hSw; (try dsimp only at hSw); go_simp; first | done | with_reducible rfl)
      try simp only [Act.put, List.setIfInBounds_toArray, List.set_cons_zero, List.set_cons_succ]
      refine wpAnyH_ready (rs := [12]) (by kernel_rfl) (by simp) ?_
      refine AllReadyH.cons (arr_at rfl) (fun K hK => ?_) AllReadyH.nil
      go_simp
      go_at_call 31; refine (c_Itoa _ _ hb2.1 (by omega) hE).mono ?_; rw [HL.out]; rintro e wf ⟨rfl, hq⟩; replace k0 := k0.to hq; replace ho := SO.to ho hq; replace hE := hE.to hq; replace B := Bl.then B hq; clear hq
      refine hK.out _ _ ?_ (fun hHeld => ?_)
      · (try dsimp only); exact ⟨k0.cell 0, k0.cell 1, k0.cell 2, k0.cell 3⟩
      clear hK K
      try simp only [Act.put, List.setIfInBounds_toArray, List.set_cons_zero, List.set_cons_succ]
      refine wpAnyH_take (i := 13) (v := ?_) (arr_at rfl) (by kernel_rfl) (by kernel_rfl) (by kernel_rfl) (fun _ _ _ h => h) ?_ (by assumption) ?_
      rotate_left
      · first | (refine Or.inr ⟨by rfl, ?_⟩; with_reducible rfl) | (refine Or.inl ⟨by rfl, ?_⟩; intro w hSw; (try dsimp only at hSw); go_simp; first | done | with_reducible rfl)
      try simp only [Act.put, List.setIfInBounds_toArray, List.set_cons_zero, List.set_cons_succ]
      refine wpAnyH_ready (rs := [14]) (by kernel_rfl) (by simp) ?_
      refine AllReadyH.cons (arr_at rfl) (fun K hK => ?_) AllReadyH.nil
      go_simp
      have hL : Rd (wf.alloc (.cells #[.string (F ++ ({ data := #[32] } : ByteArray) ++ D ++ ({ data := #[32] } : ByteArray) ++ L)] 9)) (some ⟨wf.heap.size, 0, none⟩) [.string (F ++ ({ data := #[32] } : ByteArray) ++ D ++ ({ data := #[32] } : ByteArray) ++ L)] := lit_str wf (F ++ ({ data := #[32] } : ByteArray) ++ D ++ ({ data := #[32] } : ByteArray) ++ L) _; have hoR : (wf.alloc (.cells #[.string (F ++ ({ data := #[32] } : ByteArray) ++ D ++ ({ data := #[32] } : ByteArray) ++ L)] 9)).ownsRow w.heap.size 9 1 v' ((l.take k).map partB).length (((l.take k).map partB).map Value.string) := World.ownsRow.alloc ho _; replace B := B.alloc B.size (.cells #[.string (F ++ ({ data := #[32] } : ByteArray) ++ D ++ ({ data := #[32] } : ByteArray) ++ L)] 9); replace k0 := k0.alloc (.cells #[.string (F ++ ({ data := #[32] } : ByteArray) ++ D ++ ({ data := #[32] } : ByteArray) ++ L)] 9); have hsb := B.size
      refine hK.out _ _ ?_ (fun hHeld => ?_)
      · (try dsimp only); exact ⟨k0.cell 0, k0.cell 1, k0.cell 2, k0.cell 3⟩
      clear hK K
      try simp only [Act.put, List.setIfInBounds_toArray, List.set_cons_zero, List.set_cons_succ]
      refine wpAnyH_ready (rs := [15]) (by kernel_rfl) (by simp) ?_
      refine AllReadyH.cons (arr_at rfl) (fun K hK => ?_) AllReadyH.nil
      obtain ⟨i0, hi, hz0, hz1, hz2⟩ := info_parts str_info; refine wp_append_rd _ _ _ 23 rfl w.heap.size 9 i0 _ 1 16 Tryz.underlying23 hi hz0 hz1 hz2 rfl (by omega) _ ((l.take k).map partB).length (((l.take k).map partB).map Value.string) rfl hoR _ 1 1 [.string (F ++ ({ data := #[32] } : ByteArray) ++ D ++ ({ data := #[32] } : ByteArray) ++ L)] rfl hL rfl (by intro u hu; obtain rfl := List.mem_singleton.1 hu; rfl) (by unfold maxLen; omega) (by omega) hsb ?_; intro v1 w6 ho6 hg6 hat6; replace B := B.grown hg6 hsb (fun j hj => (World.ownsRow.lt hoR j hj).1); replace k0 := k0.grown hg6 (fun e => hne _ e.symm rfl); clear hi hz0 hz1 hz2 hat6 hg6 hL hoR ho
      refine hK.out _ _ ?_ (fun hHeld => ?_)
      · (try dsimp only); exact ⟨k0.cell 0, k0.cell 1, k0.cell 2, k0.cell 3⟩
      clear hK K
      try simp only [Act.put, List.setIfInBounds_toArray, List.set_cons_zero, List.set_cons_succ]
      refine wpAnyH_take (i := 16) (v := ?_) (arr_at rfl) (by kernel_rfl) (by kernel_rfl) (by kernel_rfl) (fun _ _ _ h => h) ?_ (by assumption) ?_
      rotate_left
      · first | (refine Or.inr ⟨by rfl, ?_⟩; with_reducible rfl) | (refine Or.inl ⟨by rfl, ?_⟩; intro w hSw; (try dsimp only at hSw); go_simp; first | done | with_reducible rfl)
      try simp only [Act.put, List.setIfInBounds_toArray, List.set_cons_zero, List.set_cons_succ]
      refine wpAnyH_done (by kernel_rfl) ?_ _
      go_wp2
      go_roundw
      case rel =>
        refine ⟨k + 1, v1, by omega, by go_num, rfl, ?_, B⟩
        rw [HT.out, HP.out]
        show SO _ _ _ _
        unfold SO
        rw [List.length_append, List.map_append]
        exact ho6
      case measure => simp [intOf]; omega
    · obtain rfl : k = n := by omega
      have hz := tabL_len HV.out
      have hlen : (l.map partB).length = k := by rw [List.length_map]; exact HN.out
      have ho := HO.out
      have B := HB.out
      rw [show l.take k = l by rw [← HN.out]; exact List.take_length] at ho
      have hres : (⟨(Lib.join ((l.map partB).map (·.data.toList)) (⟨#[59, 32]⟩ : ByteArray).data.toList).toArray⟩ : ByteArray) = tabT l := by
        unfold tabT tabL
        rw [HV.out, if_pos rfl, List.map_map]; rfl
      have HR := Lib.hid hres
      have hjl : (Lib.join ((l.map partB).map (·.data.toList)) (⟨#[59, 32]⟩ : ByteArray).data.toList).length ≤ 140737488355328 := by
        have : (Lib.join ((l.map partB).map (·.data.toList)) (⟨#[59, 32]⟩ : ByteArray).data.toList) = tabL l := by unfold tabL; rw [List.map_map]; rfl
        rw [this]; omega
      unfold SO at ho
      rw [hlen] at ho
      clear hres
      by_cases hk0 : k = 0
      · obtain ⟨E, cE, rfl, -, -, -⟩ := own_slice ho
        have hnil : l = [] := List.eq_nil_of_length_eq_zero (by rw [HN.out, hk0])
        have hT : Hid (tabT l = ⟨#[]⟩) := by rw [hnil]; unfold tabT tabL; rfl
        subst hk0
        clear hlen hjl hz ho hnil
        go_wp2_with fail
        refine (Tryz.strings_Join_none E cE ⟨#[59, 32]⟩ _).mono ?_
        rintro e w' ⟨rfl, rfl⟩
        go_wp2
        go_ret
        exact ⟨by rw [hT.out]; rfl, B⟩
      · obtain ⟨g, cap, rfl, hgb, hgl⟩ := World.ownsRow.form ho (by omega)
        have hcells : ∀ (j : Nat) x, (l.map partB)[j]? = some x → wr.cell? ⟨g, 0 + j, none⟩ = some (.string x) := fun j x hx => by
          rw [Nat.zero_add, World.ownsRow.cellAt ho j (by have := (List.getElem?_eq_some_iff.1 hx).1; rw [hlen] at this; omega), List.getElem?_map, hx]; rfl
        have hcap : k ≤ cap := by obtain ⟨_, _, e, h1, _, _⟩ := own_slice ho; cases e; exact h1
        have J := Lib.hid (Tryz.strings_Join g 0 cap (l.map partB) ⟨#[59, 32]⟩ wr hcells hgl (by omega) (by omega) hjl)
        rw [hlen, HR.out] at J
        clear hcells hjl hz hlen ho hk0
        go_wp2_with fail
        refine J.out.mono ?_
        rintro e w' ⟨rfl, hq⟩
        replace B := Bl.then B hq
        clear hq
        go_wp2
        go_ret
        exact ⟨rfl, B⟩
end Go.Proofs.YtjflfhjnbccpmaaGreatDoor
