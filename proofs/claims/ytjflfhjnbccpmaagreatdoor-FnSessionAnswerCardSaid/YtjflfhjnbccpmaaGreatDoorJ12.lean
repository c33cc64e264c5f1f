/- Joined: W19. -/
import Derived.Test.YtjflfhjnbccpmaaGreatDoorJ11
set_option linter.unusedVariables false
set_option linter.unusedSimpArgs false
namespace Go.Proofs.YtjflfhjnbccpmaaGreatDoor
open Go.RowKit
/-- A gate lies in block gb. -/
def GA (w : World) (gb : Nat) (ty : TypeId) (P : Nat → Prop) (g : Gt) : Prop := ∃ (A : Option Addr) (n c : Nat) (C : Option Addr) (m d : Nat),
  Blk w gb ty #[.int .i64 g.ba, .int .i64 g.bi, .int .i64 g.ou, .slice A n c, .slice C m d, .int .i64 g.fi, .int .i64 g.ho, .int .i64 g.no] ∧ g.tb.length = n ∧ n ≤ c ∧ TM w A g.tb ∧ g.cs.length = m ∧ m ≤ d ∧ TK w C g.cs ∧ (∀ a, A = some a → mapCs g.tb ≠ [] → a.block ≠ gb ∧ P a.block) ∧ (∀ a, C = some a → conCs g.cs ≠ [] → a.block ≠ gb ∧ P a.block)
theorem GA.to {w w' : World} {gb : Nat} {ty : TypeId} {P : Nat → Prop} {g : Gt} (h : GA w gb ty P g) (hb : Below w.heap.size w w') : GA w' gb ty P g := by
  obtain ⟨A, n, c, C, m, d, h1, h2, h3, h4, h5, h6, h7, h8, h9⟩ := h
  exact ⟨A, n, c, C, m, d, h1.to hb, h2, h3, h4.to hb, h5, h6, h7.to hb, h8, h9⟩
theorem GA.mono {w : World} {gb : Nat} {ty : TypeId} {P Q : Nat → Prop} {g : Gt} (h : GA w gb ty P g) (hp : ∀ k, P k → Q k) : GA w gb ty Q g := by
  obtain ⟨A, n, c, C, m, d, h1, h2, h3, h4, h5, h6, h7, h8, h9⟩ := h
  exact ⟨A, n, c, C, m, d, h1, h2, h3, h4, h5, h6, h7, fun a ha hx => ⟨(h8 a ha hx).1, hp _ (h8 a ha hx).2⟩, fun a ha hx => ⟨(h9 a ha hx).1, hp _ (h9 a ha hx).2⟩⟩
theorem GA.inl {w : World} {gb : Nat} {ty : TypeId} {P Q : Nat → Prop} {g : Gt} (h : GA w gb ty P g) : GA w gb ty (fun k => P k ∨ Q k) g := h.mono (fun _ hp => .inl hp)
theorem fr_both {A : Option Addr} {vs : List Value} {base b : Nat} {P : Nat → Prop} (h : Fr A base) (hb : b < base) : ∀ a, A = some a → vs ≠ [] → a.block ≠ b ∧ (P a.block ∨ base ≤ a.block) := fun a ha _ => ⟨by have := h a ha; omega, .inr (h a ha)⟩
theorem GA.lt {w : World} {gb : Nat} {ty : TypeId} {P : Nat → Prop} {g : Gt} (h : GA w gb ty P g) : gb < w.heap.size := by
  obtain ⟨A, n, c, C, m, d, h1, _⟩ := h
  exact h1.lt
theorem fr_apart {A : Option Addr} {vs : List Value} {base b : Nat} (h : Fr A base) (hb : b < base) : ∀ a, A = some a → vs ≠ [] → a.block ≠ b := fun a ha _ => by have := h a ha; omega
theorem near_apart {w : World} {A : Option Addr} {vs : List Value} {b : Nat} (h : Rd w A vs) (e : w.heap.size = b) : ∀ a, A = some a → vs ≠ [] → a.block ≠ b := fun a ha hx => by have := Rd.near h a ha hx; omega
theorem parV_form (s : List UInt8) : ∃ a b p, parV (parE s) = .tuple #[.agg #[.int .i64 a, .int .i64 b], .bool p] ∧ parE s = (if p then some (a, b) else none) ∧ inB a 0 65535 = true ∧ inB b 0 65535 = true := by
  cases h : parE s with
  | none => exact ⟨0, 0, false, rfl, rfl, rfl, rfl⟩
  | some r =>
    obtain ⟨a, b⟩ := r
    exact ⟨a, b, true, rfl, rfl, (parE_bd h).1, (parE_bd h).2⟩
theorem sendL_no {g : Gt} {x y : List UInt8} {a b c d : Int} {pa pb ok : Bool} {r : Pk × Gt} (h1 : parE x = (if pa then some (a, b) else none)) (h2 : parE y = (if pb then some (c, d) else none))
    (h3 : pa = true → pb = true → fwdG g ⟨a, b, c, d⟩ = (if ok then some r else none)) (h : pa = false ∨ pb = false ∨ ok = false) : sendL g x y = (noL, g) := by
  unfold sendL
  rw [h1, h2]
  cases pa
  · rfl
  cases pb
  · rfl
  cases ok
  · simp only [if_true, h3 rfl rfl]; rfl
  · simp at h
theorem sendL_ok {g g' : Gt} {x y : List UInt8} {a b c d : Int} {q : Pk} (h1 : parE x = some (a, b)) (h2 : parE y = some (c, d)) (h3 : fwdG g ⟨a, b, c, d⟩ = some (q, g')) :
    sendL g x y = ((fmtEnd q.fa q.fp).data.toList ++ 32 :: (fmtEnd q.ta q.tp).data.toList, g') := by
  unfold sendL
  rw [h1, h2]
  simp only [h3]
theorem fmtEnd_sz (a p : Int) : (fmtEnd a p).size ≤ 70000 := by
  cases h : inB a 0 65535 && inB p 0 65535
  · unfold fmtEnd
    rw [h]
    exact Nat.zero_le _
  · rw [Bool.and_eq_true] at h
    have h1 := inB_true h.1
    have h2 := inB_true h.2
    exact fmtEnd_size h1.1 h1.2 h2.1 h2.2
theorem ret_strB {a b : ByteArray} (h : a = b) : Ending.returned (.string a) = .returned (.string b) := by rw [h]
theorem sp_join (a b : ByteArray) : a ++ (⟨#[32]⟩ : ByteArray) ++ b = ⟨(a.data.toList ++ 32 :: b.data.toList).toArray⟩ := by
  apply ByteArray.ext
  simp [ByteArray.data_append]
theorem put8g (w : World) (b : Nat) (v0 v1 v2 v3 v4 v5 v6 v7 : Value) : w.grownBy ((((((((w.setCell ⟨b, 0, none⟩ v0).setCell ⟨b, 1, none⟩ v1).setCell ⟨b, 2, none⟩ v2).setCell ⟨b, 3, none⟩ v3).setCell ⟨b, 4, none⟩ v4).setCell ⟨b, 5, none⟩ v5).setCell ⟨b, 6, none⟩ v6).setCell ⟨b, 7, none⟩ v7) (some b) := by
  have h0 := grown_put (w := w) b 0 v0
  have h1 := grown_put (w := (w.setCell ⟨b, 0, none⟩ v0)) b 1 v1
  have h2 := grown_put (w := ((w.setCell ⟨b, 0, none⟩ v0).setCell ⟨b, 1, none⟩ v1)) b 2 v2
  have h3 := grown_put (w := (((w.setCell ⟨b, 0, none⟩ v0).setCell ⟨b, 1, none⟩ v1).setCell ⟨b, 2, none⟩ v2)) b 3 v3
  have h4 := grown_put (w := ((((w.setCell ⟨b, 0, none⟩ v0).setCell ⟨b, 1, none⟩ v1).setCell ⟨b, 2, none⟩ v2).setCell ⟨b, 3, none⟩ v3)) b 4 v4
  have h5 := grown_put (w := (((((w.setCell ⟨b, 0, none⟩ v0).setCell ⟨b, 1, none⟩ v1).setCell ⟨b, 2, none⟩ v2).setCell ⟨b, 3, none⟩ v3).setCell ⟨b, 4, none⟩ v4)) b 5 v5
  have h6 := grown_put (w := ((((((w.setCell ⟨b, 0, none⟩ v0).setCell ⟨b, 1, none⟩ v1).setCell ⟨b, 2, none⟩ v2).setCell ⟨b, 3, none⟩ v3).setCell ⟨b, 4, none⟩ v4).setCell ⟨b, 5, none⟩ v5)) b 6 v6
  have h7 := grown_put (w := (((((((w.setCell ⟨b, 0, none⟩ v0).setCell ⟨b, 1, none⟩ v1).setCell ⟨b, 2, none⟩ v2).setCell ⟨b, 3, none⟩ v3).setCell ⟨b, 4, none⟩ v4).setCell ⟨b, 5, none⟩ v5).setCell ⟨b, 6, none⟩ v6)) b 7 v7
  exact grown_trans h0 (grown_trans h1 (grown_trans h2 (grown_trans h3 (grown_trans h4 (grown_trans h5 (grown_trans h6 h7))))))
set_option maxHeartbeats 6400000 in
theorem c_iSendWords (g : Gt) (gb : Nat) (P : Nat → Prop) (w0 w : World) (x y : ByteArray) (hv : vGate g = true) (hG : GA w gb 44 P g) (hE : EnvP w0) (hB : Below w0.heap.size w0 w) (hgb : w0.heap.size ≤ gb) (hx : x.size ≤ 4000000000) (hy : y.size ≤ 4000000000) :
    Calls Tryz.prog 27 #[.pointer (some ⟨gb, 0, none⟩), .string x, .string y] w fun e w' => e = .returned (.string ⟨(sendL g x.data.toList y.data.toList).1.toArray⟩) ∧ GA w' gb 44 (fun k => P k ∨ w.heap.size ≤ k) (sendL g x.data.toList y.data.toList).2 ∧ w.grownBy w' (some gb) := by
  have HGA := Lib.hid hG
  obtain ⟨A, n, c, C, m, d, k0, hn, hc, h, hm, hd, h', ap1, ap2⟩ := hG
  have HN := Lib.hid hn
  have HM := Lib.hid hm
  have HA : Hid (∀ W, Below w.heap.size w W → TM W A g.tb) := fun W b => h.to b
  have HC : Hid (∀ W, Below w.heap.size w W → TK W C g.cs) := fun W b => h'.to b
  have HV := Lib.hid hv
  have HE : Hid (∀ W, Below w0.heap.size w0 W → EnvP W) := fun W b => hE.to b
  have hgl := k0.lt
  obtain ⟨a1, a2, pa, e1, o1, i1, i2⟩ := parV_form x.data.toList
  obtain ⟨b1, b2, pb, e2, o2, i3, i4⟩ := parV_form y.data.toList
  have HPK := Lib.hid (vPk_mk i1 i2 i3 i4)
  have H12 := Lib.hid (And.intro o1 o2)
  have H34 := Lib.hid (And.intro e1 e2)
  have B : Below w.heap.size w w := Below.refl _ _
  have B0 := hB
  clear hn hm h h' hv ap1 ap2 o1 o2 i1 i2 i3 i4 e1 e2 hB hE
  go_enter Tryz.func27, Tryz.ntmps27
  go_wp2_with fail
  refine (c_iParseEnd x _ hx (HE.out _ B0)).mono ?_
  rw [H34.out.1]
  rintro e w1 ⟨rfl, hq⟩
  replace k0 := k0.to hq
  replace B := Bl.then B hq
  replace B0 := Bl.then B0 hq
  clear hq
  go_upto_region 2 with fail
  have k7 := Blk.new w1 70 #[.int .i64 a1, .int .i64 a2]
  have hq : Below w1.heap.size w1 (w1.alloc (.cells #[.int .i64 a1, .int .i64 a2] 70)) := (Below.refl _ _).alloc (Nat.le_refl _) _
  obtain ⟨b7, hb7⟩ : ∃ b, w1.heap.size = b := ⟨_, rfl⟩
  rw [hb7] at k7 ⊢
  replace k0 := k0.to hq
  replace B := Bl.then B hq
  replace B0 := Bl.then B0 hq
  clear hq hb7
  generalize w1.alloc (.cells #[.int .i64 a1, .int .i64 a2] 70) = w2 at *
  go_wp2_with fail
  refine (c_iParseEnd y _ hy (HE.out _ B0)).mono ?_
  rw [H34.out.2]
  rintro e w3 ⟨rfl, hq⟩
  replace k0 := k0.to hq
  replace k7 := k7.to hq
  replace B := Bl.then B hq
  replace B0 := Bl.then B0 hq
  clear hq
  go_upto_region 3 with fail
  have k9 := Blk.new w3 70 #[.int .i64 b1, .int .i64 b2]
  have hq : Below w3.heap.size w3 (w3.alloc (.cells #[.int .i64 b1, .int .i64 b2] 70)) := (Below.refl _ _).alloc (Nat.le_refl _) _
  obtain ⟨b9, hb9⟩ : ∃ b, w3.heap.size = b := ⟨_, rfl⟩
  rw [hb9] at k9 ⊢
  replace k0 := k0.to hq
  replace k7 := k7.to hq
  replace B := Bl.then B hq
  replace B0 := Bl.then B0 hq
  clear hq hb9
  generalize w3.alloc (.cells #[.int .i64 b1, .int .i64 b2] 70) = w4 at *
  have hw4 := k9.lt
  go_cut [11, 12, 13] (fun s11 s12 s13 wx => ∃ (b11 b12 : Nat) (ok : Bool) (qq : Pk) (gg : Gt) (D' : Option Addr) (dc' : Nat) (A' : Option Addr) (n' c' : Nat) (C' : Option Addr) (m' d' : Nat), s11 = .pointer (some ⟨b11, 0, none⟩) ∧ s12 = .pointer (some ⟨b12, 0, none⟩) ∧ s13 = .bool ok ∧
    Hid (Blk wx gb 44 #[.int .i64 g.ba, .int .i64 g.bi, .int .i64 g.ou, .slice A n c, .slice C m d, .int .i64 g.fi, .int .i64 g.ho, .int .i64 g.no] ∧ Blk wx b11 74 #[.int .i64 0, .int .i64 qq.fa, .int .i64 qq.fp, .int .i64 qq.ta, .int .i64 qq.tp, .slice D' 0 dc'] ∧ Blk wx b12 44 #[.int .i64 gg.ba, .int .i64 gg.bi, .int .i64 gg.ou, .slice A' n' c', .slice C' m' d', .int .i64 gg.fi, .int .i64 gg.ho, .int .i64 gg.no] ∧ fwdG g ⟨a1, a2, b1, b2⟩ = (if ok then some (qq, gg) else none) ∧ gg.tb.length = n' ∧ n' ≤ c' ∧ Fr A' w.heap.size ∧ TM wx A' gg.tb ∧ gg.cs.length = m' ∧ m' ≤ d' ∧ Fr C' w.heap.size ∧ TK wx C' gg.cs ∧ Below w.heap.size w wx ∧ Below w0.heap.size w0 wx ∧ gb < b11 ∧ gb < b12))
  case first =>
    have hq : Below w4.heap.size w4 w4.drew := Bl.of_drewN w4 1
    replace k0 := k0.to hq; replace k7 := k7.to hq; replace k9 := k9.to hq; replace B := Bl.then B hq; replace B0 := Bl.then B0 hq; (first | (replace kp := Blk.to kp hq) | skip); (first | (replace kg := Blk.to kg hq) | skip); (first | (replace hTab := Rd.to hTab hq; replace hCon := Rd.to hCon hq) | skip); clear hq
    go_wp2_with fail
    refine wp_region_held_drew (S := (fun w' => w'.cell? ⟨gb, 0, none⟩ = some (.int .i64 g.ba) ∧ w'.cell? ⟨gb, 1, none⟩ = some (.int .i64 g.bi) ∧ w'.cell? ⟨gb, 2, none⟩ = some (.int .i64 g.ou) ∧ w'.cell? ⟨gb, 3, none⟩ = some (.slice A n c) ∧ w'.cell? ⟨gb, 4, none⟩ = some (.slice C m d) ∧ w'.cell? ⟨gb, 5, none⟩ = some (.int .i64 g.fi) ∧ w'.cell? ⟨gb, 6, none⟩ = some (.int .i64 g.ho) ∧ w'.cell? ⟨gb, 7, none⟩ = some (.int .i64 g.no) ∧ w'.cell? ⟨b7, 0, none⟩ = some (.int .i64 a1) ∧ w'.cell? ⟨b7, 1, none⟩ = some (.int .i64 a2) ∧ w'.cell? ⟨b9, 0, none⟩ = some (.int .i64 b1) ∧ w'.cell? ⟨b9, 1, none⟩ = some (.int .i64 b2))) (by kernel_rfl) ?_ (fun hHeld => ?_)
    · (try dsimp only); exact ⟨k0.cell 0, k0.cell 1, k0.cell 2, k0.cell 3, k0.cell 4, k0.cell 5, k0.cell 6, k0.cell 7, k7.cell 0, k7.cell 1, k9.cell 0, k9.cell 1⟩
    generalize World.drew w4 = wq at *
    refine wpAnyH_take (i := 0) (v := ?_) (arr_at rfl) (by kernel_rfl) (by kernel_rfl) (by kernel_rfl) (fun _ _ _ h => h) ?_ (by assumption) ?_
    rotate_left
    · first | (refine Or.inr ⟨by rfl, ?_⟩; with_reducible rfl) | (refine Or.inl ⟨by rfl, ?_⟩; intro w hSw; (try dsimp only at hSw); go_simp; first | done | with_reducible rfl)
    try simp only [Act.put, List.setIfInBounds_toArray, List.set_cons_zero, List.set_cons_succ]
    refine wpAnyH_take (i := 1) (v := ?_) (arr_at rfl) (by kernel_rfl) (by kernel_rfl) (by kernel_rfl) (fun _ _ _ h => h) ?_ (by assumption) ?_
    rotate_left
    · first | (refine Or.inr ⟨by rfl, ?_⟩; with_reducible rfl) | (refine Or.inl ⟨by rfl, ?_⟩; intro w hSw; (try dsimp only at hSw); go_simp; first | done | with_reducible rfl)
    try simp only [Act.put, List.setIfInBounds_toArray, List.set_cons_zero, List.set_cons_succ]
    refine wpAnyH_take (i := 2) (v := ?_) (arr_at rfl) (by kernel_rfl) (by kernel_rfl) (by kernel_rfl) (fun _ _ _ h => h) ?_ (by assumption) ?_
    rotate_left
    · first | (refine Or.inr ⟨by rfl, ?_⟩; with_reducible rfl) | (refine Or.inl ⟨by rfl, ?_⟩; intro w hSw; (try dsimp only at hSw); go_simp; first | done | with_reducible rfl)
    try simp only [Act.put, List.setIfInBounds_toArray, List.set_cons_zero, List.set_cons_succ]
    refine wpAnyH_take (i := 3) (v := ?_) (arr_at rfl) (by kernel_rfl) (by kernel_rfl) (by kernel_rfl) (fun _ _ _ h => h) ?_ (by assumption) ?_
    rotate_left
    · first | (refine Or.inr ⟨by rfl, ?_⟩; with_reducible rfl) | (refine Or.inl ⟨by rfl, ?_⟩; intro w hSw; (try dsimp only at hSw); go_simp; first | done | with_reducible rfl)
    try simp only [Act.put, List.setIfInBounds_toArray, List.set_cons_zero, List.set_cons_succ]
    refine wpAnyH_take (i := 4) (v := ?_) (arr_at rfl) (by kernel_rfl) (by kernel_rfl) (by kernel_rfl) (fun _ _ _ h => h) ?_ (by assumption) ?_
    rotate_left
    · first | (refine Or.inr ⟨by rfl, ?_⟩; with_reducible rfl) | (refine Or.inl ⟨by rfl, ?_⟩; intro w hSw; (try dsimp only at hSw); go_simp; first | done | with_reducible rfl)
    try simp only [Act.put, List.setIfInBounds_toArray, List.set_cons_zero, List.set_cons_succ]
    refine wpAnyH_take (i := 5) (v := ?_) (arr_at rfl) (by kernel_rfl) (by kernel_rfl) (by kernel_rfl) (fun _ _ _ h => h) ?_ (by assumption) ?_
    rotate_left
    · first | (refine Or.inr ⟨by rfl, ?_⟩; with_reducible rfl) | (refine Or.inl ⟨by rfl, ?_⟩; intro w hSw; (try dsimp only at hSw); go_simp; first | done | with_reducible rfl)
    try simp only [Act.put, List.setIfInBounds_toArray, List.set_cons_zero, List.set_cons_succ]
    refine wpAnyH_ready (rs := [6, 11, 12]) (by kernel_rfl) (by simp) ?_
    refine AllReadyH.cons (arr_at rfl) (fun K hK => ?_) (AllReadyH.cons (arr_at rfl) (fun K hK => ?_) (AllReadyH.cons (arr_at rfl) (fun K hK => ?_) AllReadyH.nil))
    · go_simp
      go_at_call 41; refine (c_iForward g ⟨a1, a2, b1, b2⟩ A n c C m d none 0 _ HV.out HPK.out HN.out hc (HA.out _ B) HM.out hd (HC.out _ B)).mono ?_; rintro e wF ⟨hq, qq, gg, D', dc', A', n', c', C', m', d', ok, rfl, HO, hn', hc', hFr, hTab, hm', hd', hFc, hCon⟩; (first | (have hT11 := fr_apart (vs := mapCs gg.tb) hFr kp.lt; have hC11 := fr_apart (vs := conCs gg.cs) hFc kp.lt) | skip); (first | (have hT12 := fr_apart (vs := mapCs gg.tb) hFr kg.lt; have hC12 := fr_apart (vs := conCs gg.cs) hFc kg.lt) | skip); replace hFr := hFr.low (c := w.heap.size) B.size; replace hFc := hFc.low (c := w.heap.size) B.size; have hq9 := hq; replace hTab : TM wF A' gg.tb := hTab; replace k0 := k0.to hq; replace k7 := k7.to hq; replace k9 := k9.to hq; replace B := Bl.then B hq; replace B0 := Bl.then B0 hq; (first | (replace kp := Blk.to kp hq) | skip); (first | (replace kg := Blk.to kg hq) | skip); clear hq hq9
      refine hK.out _ _ ?_ (fun hHeld => ?_)
      · (try dsimp only); exact ⟨k0.cell 0, k0.cell 1, k0.cell 2, k0.cell 3, k0.cell 4, k0.cell 5, k0.cell 6, k0.cell 7, k7.cell 0, k7.cell 1, k9.cell 0, k9.cell 1⟩
      clear hK K
      try simp only [Act.put, List.setIfInBounds_toArray, List.set_cons_zero, List.set_cons_succ]
      refine wpAnyH_take (i := 7) (v := ?_) (arr_at rfl) (by kernel_rfl) (by kernel_rfl) (by kernel_rfl) (fun _ _ _ h => h) ?_ (by assumption) ?_
      rotate_left
      · first | (refine Or.inr ⟨by rfl, ?_⟩; with_reducible rfl) | (refine Or.inl ⟨by rfl, ?_⟩; intro w hSw; (try dsimp only at hSw); go_simp; first | done | with_reducible rfl)
      try simp only [Act.put, List.setIfInBounds_toArray, List.set_cons_zero, List.set_cons_succ]
      refine wpAnyH_take (i := 8) (v := ?_) (arr_at rfl) (by kernel_rfl) (by kernel_rfl) (by kernel_rfl) (fun _ _ _ h => h) ?_ (by assumption) ?_
      rotate_left
      · first | (refine Or.inr ⟨by rfl, ?_⟩; with_reducible rfl) | (refine Or.inl ⟨by rfl, ?_⟩; intro w hSw; (try dsimp only at hSw); go_simp; first | done | with_reducible rfl)
      try simp only [Act.put, List.setIfInBounds_toArray, List.set_cons_zero, List.set_cons_succ]
      refine wpAnyH_take (i := 9) (v := ?_) (arr_at rfl) (by kernel_rfl) (by kernel_rfl) (by kernel_rfl) (fun _ _ _ h => h) ?_ (by assumption) ?_
      rotate_left
      · first | (refine Or.inr ⟨by rfl, ?_⟩; with_reducible rfl) | (refine Or.inl ⟨by rfl, ?_⟩; intro w hSw; (try dsimp only at hSw); go_simp; first | done | with_reducible rfl)
      try simp only [Act.put, List.setIfInBounds_toArray, List.set_cons_zero, List.set_cons_succ]
      refine wpAnyH_take (i := 10) (v := ?_) (arr_at rfl) (by kernel_rfl) (by kernel_rfl) (by kernel_rfl) (fun _ _ _ h => h) ?_ (by assumption) ?_
      rotate_left
      · first | (refine Or.inr ⟨by rfl, ?_⟩; with_reducible rfl) | (refine Or.inl ⟨by rfl, ?_⟩; intro w hSw; (try dsimp only at hSw); go_simp; first | done | with_reducible rfl)
      try simp only [Act.put, List.setIfInBounds_toArray, List.set_cons_zero, List.set_cons_succ]
      refine wpAnyH_ready (rs := [11, 12]) (by kernel_rfl) (by simp) ?_
      refine AllReadyH.cons (arr_at rfl) (fun K hK => ?_) (AllReadyH.cons (arr_at rfl) (fun K hK => ?_) AllReadyH.nil)
      · go_simp
        obtain ⟨wp, b11, ex, eb, hq, kpn⟩ := allocB B #[.int .i64 0, .int .i64 0, .int .i64 0, .int .i64 0, .int .i64 0, .slice none 0 0] 74; rw [ex, eb]; have hg11 := k0.lt; have h711 := k7.lt; have h911 := k9.lt; rw [eb] at hg11 h711 h911; have hw11 := B.size; rw [eb] at hw11; (first | (have hT11 := near_apart hTab eb; have hC11 := near_apart hCon eb) | skip); (first | (have hne := kg.lt; rw [eb] at hne; replace hne : b11 ≠ b12 := (by omega)) | skip); clear ex eb; replace k0 := k0.to hq; replace k7 := k7.to hq; replace k9 := k9.to hq; replace B := Bl.then B hq; replace B0 := Bl.then B0 hq; (first | (replace kp := Blk.to kp hq) | skip); (first | (replace kg := Blk.to kg hq) | skip); (first | (replace hTab := Rd.to hTab hq; replace hCon := Rd.to hCon hq) | skip); clear hq; have kp := kpn; clear kpn
        refine hK.out _ _ ?_ (fun hHeld => ?_)
        · (try dsimp only); exact ⟨k0.cell 0, k0.cell 1, k0.cell 2, k0.cell 3, k0.cell 4, k0.cell 5, k0.cell 6, k0.cell 7, k7.cell 0, k7.cell 1, k9.cell 0, k9.cell 1⟩
        clear hK K
        try simp only [Act.put, List.setIfInBounds_toArray, List.set_cons_zero, List.set_cons_succ]
        refine wpAnyH_ready (rs := [12]) (by kernel_rfl) (by simp) ?_
        refine AllReadyH.cons (arr_at rfl) (fun K hK => ?_) AllReadyH.nil
        go_simp
        obtain ⟨wg, b12, ex, eb, hq, kgn⟩ := allocB B #[.int .i64 0, .int .i64 0, .int .i64 0, .slice none 0 0, .slice none 0 0, .int .i64 0, .int .i64 0, .int .i64 0] 44; rw [ex, eb]; have hg12 := k0.lt; have h712 := k7.lt; have h912 := k9.lt; rw [eb] at hg12 h712 h912; have hw12 := B.size; rw [eb] at hw12; (first | (have hT12 := near_apart hTab eb; have hC12 := near_apart hCon eb) | skip); (first | (have hne := kp.lt; rw [eb] at hne; replace hne : b11 ≠ b12 := (by omega)) | skip); clear ex eb; replace k0 := k0.to hq; replace k7 := k7.to hq; replace k9 := k9.to hq; replace B := Bl.then B hq; replace B0 := Bl.then B0 hq; (first | (replace kp := Blk.to kp hq) | skip); (first | (replace kg := Blk.to kg hq) | skip); (first | (replace hTab := Rd.to hTab hq; replace hCon := Rd.to hCon hq) | skip); clear hq; have kg := kgn; clear kgn
        refine hK.out _ _ ?_ (fun hHeld => ?_)
        · (try dsimp only); exact ⟨k0.cell 0, k0.cell 1, k0.cell 2, k0.cell 3, k0.cell 4, k0.cell 5, k0.cell 6, k0.cell 7, k7.cell 0, k7.cell 1, k9.cell 0, k9.cell 1⟩
        clear hK K
        try simp only [Act.put, List.setIfInBounds_toArray, List.set_cons_zero, List.set_cons_succ]
        refine wpAnyH_ready (rs := [13]) (by kernel_rfl) (by simp) ?_
        refine AllReadyH.cons (arr_at rfl) (fun K hK => ?_) AllReadyH.nil
        have e0 := kp.cell 0; have e1 := kp.cell 1; have e2 := kp.cell 2; have e3 := kp.cell 3; have e4 := kp.cell 4; have e5 := kp.cell 5; have f0 := kp.frozen 0; have f1 := kp.frozen 1; have f2 := kp.frozen 2; have f3 := kp.frozen 3; have f4 := kp.frozen 4; have f5 := kp.frozen 5; have hlp := kp.lt; simp only [List.getElem?_toArray, List.getElem?_cons_zero, List.getElem?_cons_succ] at e0 e1 e2 e3 e4 e5; go_simp; clear e0 e1 e2 e3 e4 e5 f0 f1 f2 f3 f4 f5 hlp; obtain ⟨W1, e, z, hf, hb, hr⟩ := put6 kp (.int .i64 0) (.int .i64 qq.fa) (.int .i64 qq.fp) (.int .i64 qq.ta) (.int .i64 qq.tp) (.slice D' 0 dc'); rw [e]; clear e; replace k0 := hf k0 (by omega); replace k7 := hf k7 (by omega); replace k9 := hf k9 (by omega); replace kg := hf kg (Ne.symm hne); replace B := hb B (by omega); replace B0 := hb B0 (by omega); replace hTab := (hr (base := 0)).2 hTab hT11; replace hCon := (hr (base := 0)).2 hCon hC11; replace kp := z; clear z hf hb hr
        refine hK.out _ _ ?_ (fun hHeld => ?_)
        · (try dsimp only); exact ⟨k0.cell 0, k0.cell 1, k0.cell 2, k0.cell 3, k0.cell 4, k0.cell 5, k0.cell 6, k0.cell 7, k7.cell 0, k7.cell 1, k9.cell 0, k9.cell 1⟩
        clear hK K
        try simp only [Act.put, List.setIfInBounds_toArray, List.set_cons_zero, List.set_cons_succ]
        refine wpAnyH_ready (rs := [14]) (by kernel_rfl) (by simp) ?_
        refine AllReadyH.cons (arr_at rfl) (fun K hK => ?_) AllReadyH.nil
        have e0 := kg.cell 0; have e1 := kg.cell 1; have e2 := kg.cell 2; have e3 := kg.cell 3; have e4 := kg.cell 4; have e5 := kg.cell 5; have e6 := kg.cell 6; have e7 := kg.cell 7; have f0 := kg.frozen 0; have f1 := kg.frozen 1; have f2 := kg.frozen 2; have f3 := kg.frozen 3; have f4 := kg.frozen 4; have f5 := kg.frozen 5; have f6 := kg.frozen 6; have f7 := kg.frozen 7; have hlp := kg.lt; simp only [List.getElem?_toArray, List.getElem?_cons_zero, List.getElem?_cons_succ] at e0 e1 e2 e3 e4 e5 e6 e7; go_simp; clear e0 e1 e2 e3 e4 e5 e6 e7 f0 f1 f2 f3 f4 f5 f6 f7 hlp; obtain ⟨W2, e, z, hf, hb, hr⟩ := put8 kg (.int .i64 gg.ba) (.int .i64 gg.bi) (.int .i64 gg.ou) (.slice A' n' c') (.slice C' m' d') (.int .i64 gg.fi) (.int .i64 gg.ho) (.int .i64 gg.no); rw [e]; clear e; replace k0 := hf k0 (by omega); replace k7 := hf k7 (by omega); replace k9 := hf k9 (by omega); replace kp := hf kp (hne); replace B := hb B (by omega); replace B0 := hb B0 (by omega); replace hTab := (hr (base := 0)).2 hTab hT12; replace hCon := (hr (base := 0)).2 hCon hC12; replace kg := z; clear z hf hb hr
        refine hK.out _ _ ?_ (fun hHeld => ?_)
        · (try dsimp only); exact ⟨k0.cell 0, k0.cell 1, k0.cell 2, k0.cell 3, k0.cell 4, k0.cell 5, k0.cell 6, k0.cell 7, k7.cell 0, k7.cell 1, k9.cell 0, k9.cell 1⟩
        clear hK K
        try simp only [Act.put, List.setIfInBounds_toArray, List.set_cons_zero, List.set_cons_succ]
        refine wpAnyH_take (i := 15) (v := ?_) (arr_at rfl) (by kernel_rfl) (by kernel_rfl) (by kernel_rfl) (fun _ _ _ h => h) ?_ (by assumption) ?_
        rotate_left
        · first | (refine Or.inr ⟨by rfl, ?_⟩; with_reducible rfl) | (refine Or.inl ⟨by rfl, ?_⟩; intro w hSw; (try dsimp only at hSw); go_simp; first | done | with_reducible rfl)
        try simp only [Act.put, List.setIfInBounds_toArray, List.set_cons_zero, List.set_cons_succ]
        refine wpAnyH_done (by kernel_rfl) ?_ _
        go_wp2_with fail
        go_meet
        exact ⟨b11, b12, ok, qq, gg, D', dc', A', n', c', C', m', d', rfl, rfl, rfl, k0, kp, kg, HO, hn', hc', hFr, hTab, hm', hd', hFc, hCon, B, B0, hg11, hg12⟩
      · go_simp
        obtain ⟨wg, b12, ex, eb, hq, kgn⟩ := allocB B #[.int .i64 0, .int .i64 0, .int .i64 0, .slice none 0 0, .slice none 0 0, .int .i64 0, .int .i64 0, .int .i64 0] 44; rw [ex, eb]; have hg12 := k0.lt; have h712 := k7.lt; have h912 := k9.lt; rw [eb] at hg12 h712 h912; have hw12 := B.size; rw [eb] at hw12; (first | (have hT12 := near_apart hTab eb; have hC12 := near_apart hCon eb) | skip); (first | (have hne := kp.lt; rw [eb] at hne; replace hne : b11 ≠ b12 := (by omega)) | skip); clear ex eb; replace k0 := k0.to hq; replace k7 := k7.to hq; replace k9 := k9.to hq; replace B := Bl.then B hq; replace B0 := Bl.then B0 hq; (first | (replace kp := Blk.to kp hq) | skip); (first | (replace kg := Blk.to kg hq) | skip); (first | (replace hTab := Rd.to hTab hq; replace hCon := Rd.to hCon hq) | skip); clear hq; have kg := kgn; clear kgn
        refine hK.out _ _ ?_ (fun hHeld => ?_)
        · (try dsimp only); exact ⟨k0.cell 0, k0.cell 1, k0.cell 2, k0.cell 3, k0.cell 4, k0.cell 5, k0.cell 6, k0.cell 7, k7.cell 0, k7.cell 1, k9.cell 0, k9.cell 1⟩
        clear hK K
        try simp only [Act.put, List.setIfInBounds_toArray, List.set_cons_zero, List.set_cons_succ]
        refine wpAnyH_ready (rs := [11]) (by kernel_rfl) (by simp) ?_
        refine AllReadyH.cons (arr_at rfl) (fun K hK => ?_) AllReadyH.nil
        go_simp
        obtain ⟨wp, b11, ex, eb, hq, kpn⟩ := allocB B #[.int .i64 0, .int .i64 0, .int .i64 0, .int .i64 0, .int .i64 0, .slice none 0 0] 74; rw [ex, eb]; have hg11 := k0.lt; have h711 := k7.lt; have h911 := k9.lt; rw [eb] at hg11 h711 h911; have hw11 := B.size; rw [eb] at hw11; (first | (have hT11 := near_apart hTab eb; have hC11 := near_apart hCon eb) | skip); (first | (have hne := kg.lt; rw [eb] at hne; replace hne : b11 ≠ b12 := (by omega)) | skip); clear ex eb; replace k0 := k0.to hq; replace k7 := k7.to hq; replace k9 := k9.to hq; replace B := Bl.then B hq; replace B0 := Bl.then B0 hq; (first | (replace kp := Blk.to kp hq) | skip); (first | (replace kg := Blk.to kg hq) | skip); (first | (replace hTab := Rd.to hTab hq; replace hCon := Rd.to hCon hq) | skip); clear hq; have kp := kpn; clear kpn
        refine hK.out _ _ ?_ (fun hHeld => ?_)
        · (try dsimp only); exact ⟨k0.cell 0, k0.cell 1, k0.cell 2, k0.cell 3, k0.cell 4, k0.cell 5, k0.cell 6, k0.cell 7, k7.cell 0, k7.cell 1, k9.cell 0, k9.cell 1⟩
        clear hK K
        try simp only [Act.put, List.setIfInBounds_toArray, List.set_cons_zero, List.set_cons_succ]
        refine wpAnyH_ready (rs := [13]) (by kernel_rfl) (by simp) ?_
        refine AllReadyH.cons (arr_at rfl) (fun K hK => ?_) AllReadyH.nil
        have e0 := kp.cell 0; have e1 := kp.cell 1; have e2 := kp.cell 2; have e3 := kp.cell 3; have e4 := kp.cell 4; have e5 := kp.cell 5; have f0 := kp.frozen 0; have f1 := kp.frozen 1; have f2 := kp.frozen 2; have f3 := kp.frozen 3; have f4 := kp.frozen 4; have f5 := kp.frozen 5; have hlp := kp.lt; simp only [List.getElem?_toArray, List.getElem?_cons_zero, List.getElem?_cons_succ] at e0 e1 e2 e3 e4 e5; go_simp; clear e0 e1 e2 e3 e4 e5 f0 f1 f2 f3 f4 f5 hlp; obtain ⟨W1, e, z, hf, hb, hr⟩ := put6 kp (.int .i64 0) (.int .i64 qq.fa) (.int .i64 qq.fp) (.int .i64 qq.ta) (.int .i64 qq.tp) (.slice D' 0 dc'); rw [e]; clear e; replace k0 := hf k0 (by omega); replace k7 := hf k7 (by omega); replace k9 := hf k9 (by omega); replace kg := hf kg (Ne.symm hne); replace B := hb B (by omega); replace B0 := hb B0 (by omega); replace hTab := (hr (base := 0)).2 hTab hT11; replace hCon := (hr (base := 0)).2 hCon hC11; replace kp := z; clear z hf hb hr
        refine hK.out _ _ ?_ (fun hHeld => ?_)
        · (try dsimp only); exact ⟨k0.cell 0, k0.cell 1, k0.cell 2, k0.cell 3, k0.cell 4, k0.cell 5, k0.cell 6, k0.cell 7, k7.cell 0, k7.cell 1, k9.cell 0, k9.cell 1⟩
        clear hK K
        try simp only [Act.put, List.setIfInBounds_toArray, List.set_cons_zero, List.set_cons_succ]
        refine wpAnyH_ready (rs := [14]) (by kernel_rfl) (by simp) ?_
        refine AllReadyH.cons (arr_at rfl) (fun K hK => ?_) AllReadyH.nil
        have e0 := kg.cell 0; have e1 := kg.cell 1; have e2 := kg.cell 2; have e3 := kg.cell 3; have e4 := kg.cell 4; have e5 := kg.cell 5; have e6 := kg.cell 6; have e7 := kg.cell 7; have f0 := kg.frozen 0; have f1 := kg.frozen 1; have f2 := kg.frozen 2; have f3 := kg.frozen 3; have f4 := kg.frozen 4; have f5 := kg.frozen 5; have f6 := kg.frozen 6; have f7 := kg.frozen 7; have hlp := kg.lt; simp only [List.getElem?_toArray, List.getElem?_cons_zero, List.getElem?_cons_succ] at e0 e1 e2 e3 e4 e5 e6 e7; go_simp; clear e0 e1 e2 e3 e4 e5 e6 e7 f0 f1 f2 f3 f4 f5 f6 f7 hlp; obtain ⟨W2, e, z, hf, hb, hr⟩ := put8 kg (.int .i64 gg.ba) (.int .i64 gg.bi) (.int .i64 gg.ou) (.slice A' n' c') (.slice C' m' d') (.int .i64 gg.fi) (.int .i64 gg.ho) (.int .i64 gg.no); rw [e]; clear e; replace k0 := hf k0 (by omega); replace k7 := hf k7 (by omega); replace k9 := hf k9 (by omega); replace kp := hf kp (hne); replace B := hb B (by omega); replace B0 := hb B0 (by omega); replace hTab := (hr (base := 0)).2 hTab hT12; replace hCon := (hr (base := 0)).2 hCon hC12; replace kg := z; clear z hf hb hr
        refine hK.out _ _ ?_ (fun hHeld => ?_)
        · (try dsimp only); exact ⟨k0.cell 0, k0.cell 1, k0.cell 2, k0.cell 3, k0.cell 4, k0.cell 5, k0.cell 6, k0.cell 7, k7.cell 0, k7.cell 1, k9.cell 0, k9.cell 1⟩
        clear hK K
        try simp only [Act.put, List.setIfInBounds_toArray, List.set_cons_zero, List.set_cons_succ]
        refine wpAnyH_take (i := 15) (v := ?_) (arr_at rfl) (by kernel_rfl) (by kernel_rfl) (by kernel_rfl) (fun _ _ _ h => h) ?_ (by assumption) ?_
        rotate_left
        · first | (refine Or.inr ⟨by rfl, ?_⟩; with_reducible rfl) | (refine Or.inl ⟨by rfl, ?_⟩; intro w hSw; (try dsimp only at hSw); go_simp; first | done | with_reducible rfl)
        try simp only [Act.put, List.setIfInBounds_toArray, List.set_cons_zero, List.set_cons_succ]
        refine wpAnyH_done (by kernel_rfl) ?_ _
        go_wp2_with fail
        go_meet
        exact ⟨b11, b12, ok, qq, gg, D', dc', A', n', c', C', m', d', rfl, rfl, rfl, k0, kp, kg, HO, hn', hc', hFr, hTab, hm', hd', hFc, hCon, B, B0, hg11, hg12⟩
    · go_simp
      obtain ⟨wp, b11, ex, eb, hq, kpn⟩ := allocB B #[.int .i64 0, .int .i64 0, .int .i64 0, .int .i64 0, .int .i64 0, .slice none 0 0] 74; rw [ex, eb]; have hg11 := k0.lt; have h711 := k7.lt; have h911 := k9.lt; rw [eb] at hg11 h711 h911; have hw11 := B.size; rw [eb] at hw11; (first | (have hT11 := near_apart hTab eb; have hC11 := near_apart hCon eb) | skip); (first | (have hne := kg.lt; rw [eb] at hne; replace hne : b11 ≠ b12 := (by omega)) | skip); clear ex eb; replace k0 := k0.to hq; replace k7 := k7.to hq; replace k9 := k9.to hq; replace B := Bl.then B hq; replace B0 := Bl.then B0 hq; (first | (replace kp := Blk.to kp hq) | skip); (first | (replace kg := Blk.to kg hq) | skip); (first | (replace hTab := Rd.to hTab hq; replace hCon := Rd.to hCon hq) | skip); clear hq; have kp := kpn; clear kpn
      refine hK.out _ _ ?_ (fun hHeld => ?_)
      · (try dsimp only); exact ⟨k0.cell 0, k0.cell 1, k0.cell 2, k0.cell 3, k0.cell 4, k0.cell 5, k0.cell 6, k0.cell 7, k7.cell 0, k7.cell 1, k9.cell 0, k9.cell 1⟩
      clear hK K
      try simp only [Act.put, List.setIfInBounds_toArray, List.set_cons_zero, List.set_cons_succ]
      refine wpAnyH_ready (rs := [6, 12]) (by kernel_rfl) (by simp) ?_
      refine AllReadyH.cons (arr_at rfl) (fun K hK => ?_) (AllReadyH.cons (arr_at rfl) (fun K hK => ?_) AllReadyH.nil)
      · go_simp
        go_at_call 41; refine (c_iForward g ⟨a1, a2, b1, b2⟩ A n c C m d none 0 _ HV.out HPK.out HN.out hc (HA.out _ B) HM.out hd (HC.out _ B)).mono ?_; rintro e wF ⟨hq, qq, gg, D', dc', A', n', c', C', m', d', ok, rfl, HO, hn', hc', hFr, hTab, hm', hd', hFc, hCon⟩; (first | (have hT11 := fr_apart (vs := mapCs gg.tb) hFr kp.lt; have hC11 := fr_apart (vs := conCs gg.cs) hFc kp.lt) | skip); (first | (have hT12 := fr_apart (vs := mapCs gg.tb) hFr kg.lt; have hC12 := fr_apart (vs := conCs gg.cs) hFc kg.lt) | skip); replace hFr := hFr.low (c := w.heap.size) B.size; replace hFc := hFc.low (c := w.heap.size) B.size; have hq9 := hq; replace hTab : TM wF A' gg.tb := hTab; replace k0 := k0.to hq; replace k7 := k7.to hq; replace k9 := k9.to hq; replace B := Bl.then B hq; replace B0 := Bl.then B0 hq; (first | (replace kp := Blk.to kp hq) | skip); (first | (replace kg := Blk.to kg hq) | skip); clear hq hq9
        refine hK.out _ _ ?_ (fun hHeld => ?_)
        · (try dsimp only); exact ⟨k0.cell 0, k0.cell 1, k0.cell 2, k0.cell 3, k0.cell 4, k0.cell 5, k0.cell 6, k0.cell 7, k7.cell 0, k7.cell 1, k9.cell 0, k9.cell 1⟩
        clear hK K
        try simp only [Act.put, List.setIfInBounds_toArray, List.set_cons_zero, List.set_cons_succ]
        refine wpAnyH_take (i := 7) (v := ?_) (arr_at rfl) (by kernel_rfl) (by kernel_rfl) (by kernel_rfl) (fun _ _ _ h => h) ?_ (by assumption) ?_
        rotate_left
        · first | (refine Or.inr ⟨by rfl, ?_⟩; with_reducible rfl) | (refine Or.inl ⟨by rfl, ?_⟩; intro w hSw; (try dsimp only at hSw); go_simp; first | done | with_reducible rfl)
        try simp only [Act.put, List.setIfInBounds_toArray, List.set_cons_zero, List.set_cons_succ]
        refine wpAnyH_take (i := 8) (v := ?_) (arr_at rfl) (by kernel_rfl) (by kernel_rfl) (by kernel_rfl) (fun _ _ _ h => h) ?_ (by assumption) ?_
        rotate_left
        · first | (refine Or.inr ⟨by rfl, ?_⟩; with_reducible rfl) | (refine Or.inl ⟨by rfl, ?_⟩; intro w hSw; (try dsimp only at hSw); go_simp; first | done | with_reducible rfl)
        try simp only [Act.put, List.setIfInBounds_toArray, List.set_cons_zero, List.set_cons_succ]
        refine wpAnyH_take (i := 9) (v := ?_) (arr_at rfl) (by kernel_rfl) (by kernel_rfl) (by kernel_rfl) (fun _ _ _ h => h) ?_ (by assumption) ?_
        rotate_left
        · first | (refine Or.inr ⟨by rfl, ?_⟩; with_reducible rfl) | (refine Or.inl ⟨by rfl, ?_⟩; intro w hSw; (try dsimp only at hSw); go_simp; first | done | with_reducible rfl)
        try simp only [Act.put, List.setIfInBounds_toArray, List.set_cons_zero, List.set_cons_succ]
        refine wpAnyH_take (i := 10) (v := ?_) (arr_at rfl) (by kernel_rfl) (by kernel_rfl) (by kernel_rfl) (fun _ _ _ h => h) ?_ (by assumption) ?_
        rotate_left
        · first | (refine Or.inr ⟨by rfl, ?_⟩; with_reducible rfl) | (refine Or.inl ⟨by rfl, ?_⟩; intro w hSw; (try dsimp only at hSw); go_simp; first | done | with_reducible rfl)
        try simp only [Act.put, List.setIfInBounds_toArray, List.set_cons_zero, List.set_cons_succ]
        refine wpAnyH_ready (rs := [12]) (by kernel_rfl) (by simp) ?_
        refine AllReadyH.cons (arr_at rfl) (fun K hK => ?_) AllReadyH.nil
        go_simp
        obtain ⟨wg, b12, ex, eb, hq, kgn⟩ := allocB B #[.int .i64 0, .int .i64 0, .int .i64 0, .slice none 0 0, .slice none 0 0, .int .i64 0, .int .i64 0, .int .i64 0] 44; rw [ex, eb]; have hg12 := k0.lt; have h712 := k7.lt; have h912 := k9.lt; rw [eb] at hg12 h712 h912; have hw12 := B.size; rw [eb] at hw12; (first | (have hT12 := near_apart hTab eb; have hC12 := near_apart hCon eb) | skip); (first | (have hne := kp.lt; rw [eb] at hne; replace hne : b11 ≠ b12 := (by omega)) | skip); clear ex eb; replace k0 := k0.to hq; replace k7 := k7.to hq; replace k9 := k9.to hq; replace B := Bl.then B hq; replace B0 := Bl.then B0 hq; (first | (replace kp := Blk.to kp hq) | skip); (first | (replace kg := Blk.to kg hq) | skip); (first | (replace hTab := Rd.to hTab hq; replace hCon := Rd.to hCon hq) | skip); clear hq; have kg := kgn; clear kgn
        refine hK.out _ _ ?_ (fun hHeld => ?_)
        · (try dsimp only); exact ⟨k0.cell 0, k0.cell 1, k0.cell 2, k0.cell 3, k0.cell 4, k0.cell 5, k0.cell 6, k0.cell 7, k7.cell 0, k7.cell 1, k9.cell 0, k9.cell 1⟩
        clear hK K
        try simp only [Act.put, List.setIfInBounds_toArray, List.set_cons_zero, List.set_cons_succ]
        refine wpAnyH_ready (rs := [13]) (by kernel_rfl) (by simp) ?_
        refine AllReadyH.cons (arr_at rfl) (fun K hK => ?_) AllReadyH.nil
        have e0 := kp.cell 0; have e1 := kp.cell 1; have e2 := kp.cell 2; have e3 := kp.cell 3; have e4 := kp.cell 4; have e5 := kp.cell 5; have f0 := kp.frozen 0; have f1 := kp.frozen 1; have f2 := kp.frozen 2; have f3 := kp.frozen 3; have f4 := kp.frozen 4; have f5 := kp.frozen 5; have hlp := kp.lt; simp only [List.getElem?_toArray, List.getElem?_cons_zero, List.getElem?_cons_succ] at e0 e1 e2 e3 e4 e5; go_simp; clear e0 e1 e2 e3 e4 e5 f0 f1 f2 f3 f4 f5 hlp; obtain ⟨W1, e, z, hf, hb, hr⟩ := put6 kp (.int .i64 0) (.int .i64 qq.fa) (.int .i64 qq.fp) (.int .i64 qq.ta) (.int .i64 qq.tp) (.slice D' 0 dc'); rw [e]; clear e; replace k0 := hf k0 (by omega); replace k7 := hf k7 (by omega); replace k9 := hf k9 (by omega); replace kg := hf kg (Ne.symm hne); replace B := hb B (by omega); replace B0 := hb B0 (by omega); replace hTab := (hr (base := 0)).2 hTab hT11; replace hCon := (hr (base := 0)).2 hCon hC11; replace kp := z; clear z hf hb hr
        refine hK.out _ _ ?_ (fun hHeld => ?_)
        · (try dsimp only); exact ⟨k0.cell 0, k0.cell 1, k0.cell 2, k0.cell 3, k0.cell 4, k0.cell 5, k0.cell 6, k0.cell 7, k7.cell 0, k7.cell 1, k9.cell 0, k9.cell 1⟩
        clear hK K
        try simp only [Act.put, List.setIfInBounds_toArray, List.set_cons_zero, List.set_cons_succ]
        refine wpAnyH_ready (rs := [14]) (by kernel_rfl) (by simp) ?_
        refine AllReadyH.cons (arr_at rfl) (fun K hK => ?_) AllReadyH.nil
        have e0 := kg.cell 0; have e1 := kg.cell 1; have e2 := kg.cell 2; have e3 := kg.cell 3; have e4 := kg.cell 4; have e5 := kg.cell 5; have e6 := kg.cell 6; have e7 := kg.cell 7; have f0 := kg.frozen 0; have f1 := kg.frozen 1; have f2 := kg.frozen 2; have f3 := kg.frozen 3; have f4 := kg.frozen 4; have f5 := kg.frozen 5; have f6 := kg.frozen 6; have f7 := kg.frozen 7; have hlp := kg.lt; simp only [List.getElem?_toArray, List.getElem?_cons_zero, List.getElem?_cons_succ] at e0 e1 e2 e3 e4 e5 e6 e7; go_simp; clear e0 e1 e2 e3 e4 e5 e6 e7 f0 f1 f2 f3 f4 f5 f6 f7 hlp; obtain ⟨W2, e, z, hf, hb, hr⟩ := put8 kg (.int .i64 gg.ba) (.int .i64 gg.bi) (.int .i64 gg.ou) (.slice A' n' c') (.slice C' m' d') (.int .i64 gg.fi) (.int .i64 gg.ho) (.int .i64 gg.no); rw [e]; clear e; replace k0 := hf k0 (by omega); replace k7 := hf k7 (by omega); replace k9 := hf k9 (by omega); replace kp := hf kp (hne); replace B := hb B (by omega); replace B0 := hb B0 (by omega); replace hTab := (hr (base := 0)).2 hTab hT12; replace hCon := (hr (base := 0)).2 hCon hC12; replace kg := z; clear z hf hb hr
        refine hK.out _ _ ?_ (fun hHeld => ?_)
        · (try dsimp only); exact ⟨k0.cell 0, k0.cell 1, k0.cell 2, k0.cell 3, k0.cell 4, k0.cell 5, k0.cell 6, k0.cell 7, k7.cell 0, k7.cell 1, k9.cell 0, k9.cell 1⟩
        clear hK K
        try simp only [Act.put, List.setIfInBounds_toArray, List.set_cons_zero, List.set_cons_succ]
        refine wpAnyH_take (i := 15) (v := ?_) (arr_at rfl) (by kernel_rfl) (by kernel_rfl) (by kernel_rfl) (fun _ _ _ h => h) ?_ (by assumption) ?_
        rotate_left
        · first | (refine Or.inr ⟨by rfl, ?_⟩; with_reducible rfl) | (refine Or.inl ⟨by rfl, ?_⟩; intro w hSw; (try dsimp only at hSw); go_simp; first | done | with_reducible rfl)
        try simp only [Act.put, List.setIfInBounds_toArray, List.set_cons_zero, List.set_cons_succ]
        refine wpAnyH_done (by kernel_rfl) ?_ _
        go_wp2_with fail
        go_meet
        exact ⟨b11, b12, ok, qq, gg, D', dc', A', n', c', C', m', d', rfl, rfl, rfl, k0, kp, kg, HO, hn', hc', hFr, hTab, hm', hd', hFc, hCon, B, B0, hg11, hg12⟩
      · go_simp
        obtain ⟨wg, b12, ex, eb, hq, kgn⟩ := allocB B #[.int .i64 0, .int .i64 0, .int .i64 0, .slice none 0 0, .slice none 0 0, .int .i64 0, .int .i64 0, .int .i64 0] 44; rw [ex, eb]; have hg12 := k0.lt; have h712 := k7.lt; have h912 := k9.lt; rw [eb] at hg12 h712 h912; have hw12 := B.size; rw [eb] at hw12; (first | (have hT12 := near_apart hTab eb; have hC12 := near_apart hCon eb) | skip); (first | (have hne := kp.lt; rw [eb] at hne; replace hne : b11 ≠ b12 := (by omega)) | skip); clear ex eb; replace k0 := k0.to hq; replace k7 := k7.to hq; replace k9 := k9.to hq; replace B := Bl.then B hq; replace B0 := Bl.then B0 hq; (first | (replace kp := Blk.to kp hq) | skip); (first | (replace kg := Blk.to kg hq) | skip); (first | (replace hTab := Rd.to hTab hq; replace hCon := Rd.to hCon hq) | skip); clear hq; have kg := kgn; clear kgn
        refine hK.out _ _ ?_ (fun hHeld => ?_)
        · (try dsimp only); exact ⟨k0.cell 0, k0.cell 1, k0.cell 2, k0.cell 3, k0.cell 4, k0.cell 5, k0.cell 6, k0.cell 7, k7.cell 0, k7.cell 1, k9.cell 0, k9.cell 1⟩
        clear hK K
        try simp only [Act.put, List.setIfInBounds_toArray, List.set_cons_zero, List.set_cons_succ]
        refine wpAnyH_ready (rs := [6]) (by kernel_rfl) (by simp) ?_
        refine AllReadyH.cons (arr_at rfl) (fun K hK => ?_) AllReadyH.nil
        go_simp
        go_at_call 41; refine (c_iForward g ⟨a1, a2, b1, b2⟩ A n c C m d none 0 _ HV.out HPK.out HN.out hc (HA.out _ B) HM.out hd (HC.out _ B)).mono ?_; rintro e wF ⟨hq, qq, gg, D', dc', A', n', c', C', m', d', ok, rfl, HO, hn', hc', hFr, hTab, hm', hd', hFc, hCon⟩; (first | (have hT11 := fr_apart (vs := mapCs gg.tb) hFr kp.lt; have hC11 := fr_apart (vs := conCs gg.cs) hFc kp.lt) | skip); (first | (have hT12 := fr_apart (vs := mapCs gg.tb) hFr kg.lt; have hC12 := fr_apart (vs := conCs gg.cs) hFc kg.lt) | skip); replace hFr := hFr.low (c := w.heap.size) B.size; replace hFc := hFc.low (c := w.heap.size) B.size; have hq9 := hq; replace hTab : TM wF A' gg.tb := hTab; replace k0 := k0.to hq; replace k7 := k7.to hq; replace k9 := k9.to hq; replace B := Bl.then B hq; replace B0 := Bl.then B0 hq; (first | (replace kp := Blk.to kp hq) | skip); (first | (replace kg := Blk.to kg hq) | skip); clear hq hq9
        refine hK.out _ _ ?_ (fun hHeld => ?_)
        · (try dsimp only); exact ⟨k0.cell 0, k0.cell 1, k0.cell 2, k0.cell 3, k0.cell 4, k0.cell 5, k0.cell 6, k0.cell 7, k7.cell 0, k7.cell 1, k9.cell 0, k9.cell 1⟩
        clear hK K
        try simp only [Act.put, List.setIfInBounds_toArray, List.set_cons_zero, List.set_cons_succ]
        refine wpAnyH_take (i := 7) (v := ?_) (arr_at rfl) (by kernel_rfl) (by kernel_rfl) (by kernel_rfl) (fun _ _ _ h => h) ?_ (by assumption) ?_
        rotate_left
        · first | (refine Or.inr ⟨by rfl, ?_⟩; with_reducible rfl) | (refine Or.inl ⟨by rfl, ?_⟩; intro w hSw; (try dsimp only at hSw); go_simp; first | done | with_reducible rfl)
        try simp only [Act.put, List.setIfInBounds_toArray, List.set_cons_zero, List.set_cons_succ]
        refine wpAnyH_take (i := 8) (v := ?_) (arr_at rfl) (by kernel_rfl) (by kernel_rfl) (by kernel_rfl) (fun _ _ _ h => h) ?_ (by assumption) ?_
        rotate_left
        · first | (refine Or.inr ⟨by rfl, ?_⟩; with_reducible rfl) | (refine Or.inl ⟨by rfl, ?_⟩; intro w hSw; (try dsimp only at hSw); go_simp; first | done | with_reducible rfl)
        try simp only [Act.put, List.setIfInBounds_toArray, List.set_cons_zero, List.set_cons_succ]
        refine wpAnyH_take (i := 9) (v := ?_) (arr_at rfl) (by kernel_rfl) (by kernel_rfl) (by kernel_rfl) (fun _ _ _ h => h) ?_ (by assumption) ?_
        rotate_left
        · first | (refine Or.inr ⟨by rfl, ?_⟩; with_reducible rfl) | (refine Or.inl ⟨by rfl, ?_⟩; intro w hSw; (try dsimp only at hSw); go_simp; first | done | with_reducible rfl)
        try simp only [Act.put, List.setIfInBounds_toArray, List.set_cons_zero, List.set_cons_succ]
        refine wpAnyH_take (i := 10) (v := ?_) (arr_at rfl) (by kernel_rfl) (by kernel_rfl) (by kernel_rfl) (fun _ _ _ h => h) ?_ (by assumption) ?_
        rotate_left
        · first | (refine Or.inr ⟨by rfl, ?_⟩; with_reducible rfl) | (refine Or.inl ⟨by rfl, ?_⟩; intro w hSw; (try dsimp only at hSw); go_simp; first | done | with_reducible rfl)
        try simp only [Act.put, List.setIfInBounds_toArray, List.set_cons_zero, List.set_cons_succ]
        refine wpAnyH_ready (rs := [13]) (by kernel_rfl) (by simp) ?_
        refine AllReadyH.cons (arr_at rfl) (fun K hK => ?_) AllReadyH.nil
        have e0 := kp.cell 0; have e1 := kp.cell 1; have e2 := kp.cell 2; have e3 := kp.cell 3; have e4 := kp.cell 4; have e5 := kp.cell 5; have f0 := kp.frozen 0; have f1 := kp.frozen 1; have f2 := kp.frozen 2; have f3 := kp.frozen 3; have f4 := kp.frozen 4; have f5 := kp.frozen 5; have hlp := kp.lt; simp only [List.getElem?_toArray, List.getElem?_cons_zero, List.getElem?_cons_succ] at e0 e1 e2 e3 e4 e5; go_simp; clear e0 e1 e2 e3 e4 e5 f0 f1 f2 f3 f4 f5 hlp; obtain ⟨W1, e, z, hf, hb, hr⟩ := put6 kp (.int .i64 0) (.int .i64 qq.fa) (.int .i64 qq.fp) (.int .i64 qq.ta) (.int .i64 qq.tp) (.slice D' 0 dc'); rw [e]; clear e; replace k0 := hf k0 (by omega); replace k7 := hf k7 (by omega); replace k9 := hf k9 (by omega); replace kg := hf kg (Ne.symm hne); replace B := hb B (by omega); replace B0 := hb B0 (by omega); replace hTab := (hr (base := 0)).2 hTab hT11; replace hCon := (hr (base := 0)).2 hCon hC11; replace kp := z; clear z hf hb hr
        refine hK.out _ _ ?_ (fun hHeld => ?_)
        · (try dsimp only); exact ⟨k0.cell 0, k0.cell 1, k0.cell 2, k0.cell 3, k0.cell 4, k0.cell 5, k0.cell 6, k0.cell 7, k7.cell 0, k7.cell 1, k9.cell 0, k9.cell 1⟩
        clear hK K
        try simp only [Act.put, List.setIfInBounds_toArray, List.set_cons_zero, List.set_cons_succ]
        refine wpAnyH_ready (rs := [14]) (by kernel_rfl) (by simp) ?_
        refine AllReadyH.cons (arr_at rfl) (fun K hK => ?_) AllReadyH.nil
        have e0 := kg.cell 0; have e1 := kg.cell 1; have e2 := kg.cell 2; have e3 := kg.cell 3; have e4 := kg.cell 4; have e5 := kg.cell 5; have e6 := kg.cell 6; have e7 := kg.cell 7; have f0 := kg.frozen 0; have f1 := kg.frozen 1; have f2 := kg.frozen 2; have f3 := kg.frozen 3; have f4 := kg.frozen 4; have f5 := kg.frozen 5; have f6 := kg.frozen 6; have f7 := kg.frozen 7; have hlp := kg.lt; simp only [List.getElem?_toArray, List.getElem?_cons_zero, List.getElem?_cons_succ] at e0 e1 e2 e3 e4 e5 e6 e7; go_simp; clear e0 e1 e2 e3 e4 e5 e6 e7 f0 f1 f2 f3 f4 f5 f6 f7 hlp; obtain ⟨W2, e, z, hf, hb, hr⟩ := put8 kg (.int .i64 gg.ba) (.int .i64 gg.bi) (.int .i64 gg.ou) (.slice A' n' c') (.slice C' m' d') (.int .i64 gg.fi) (.int .i64 gg.ho) (.int .i64 gg.no); rw [e]; clear e; replace k0 := hf k0 (by omega); replace k7 := hf k7 (by omega); replace k9 := hf k9 (by omega); replace kp := hf kp (hne); replace B := hb B (by omega); replace B0 := hb B0 (by omega); replace hTab := (hr (base := 0)).2 hTab hT12; replace hCon := (hr (base := 0)).2 hCon hC12; replace kg := z; clear z hf hb hr
        refine hK.out _ _ ?_ (fun hHeld => ?_)
        · (try dsimp only); exact ⟨k0.cell 0, k0.cell 1, k0.cell 2, k0.cell 3, k0.cell 4, k0.cell 5, k0.cell 6, k0.cell 7, k7.cell 0, k7.cell 1, k9.cell 0, k9.cell 1⟩
        clear hK K
        try simp only [Act.put, List.setIfInBounds_toArray, List.set_cons_zero, List.set_cons_succ]
        refine wpAnyH_take (i := 15) (v := ?_) (arr_at rfl) (by kernel_rfl) (by kernel_rfl) (by kernel_rfl) (fun _ _ _ h => h) ?_ (by assumption) ?_
        rotate_left
        · first | (refine Or.inr ⟨by rfl, ?_⟩; with_reducible rfl) | (refine Or.inl ⟨by rfl, ?_⟩; intro w hSw; (try dsimp only at hSw); go_simp; first | done | with_reducible rfl)
        try simp only [Act.put, List.setIfInBounds_toArray, List.set_cons_zero, List.set_cons_succ]
        refine wpAnyH_done (by kernel_rfl) ?_ _
        go_wp2_with fail
        go_meet
        exact ⟨b11, b12, ok, qq, gg, D', dc', A', n', c', C', m', d', rfl, rfl, rfl, k0, kp, kg, HO, hn', hc', hFr, hTab, hm', hd', hFc, hCon, B, B0, hg11, hg12⟩
    · go_simp
      obtain ⟨wg, b12, ex, eb, hq, kgn⟩ := allocB B #[.int .i64 0, .int .i64 0, .int .i64 0, .slice none 0 0, .slice none 0 0, .int .i64 0, .int .i64 0, .int .i64 0] 44; rw [ex, eb]; have hg12 := k0.lt; have h712 := k7.lt; have h912 := k9.lt; rw [eb] at hg12 h712 h912; have hw12 := B.size; rw [eb] at hw12; (first | (have hT12 := near_apart hTab eb; have hC12 := near_apart hCon eb) | skip); (first | (have hne := kp.lt; rw [eb] at hne; replace hne : b11 ≠ b12 := (by omega)) | skip); clear ex eb; replace k0 := k0.to hq; replace k7 := k7.to hq; replace k9 := k9.to hq; replace B := Bl.then B hq; replace B0 := Bl.then B0 hq; (first | (replace kp := Blk.to kp hq) | skip); (first | (replace kg := Blk.to kg hq) | skip); (first | (replace hTab := Rd.to hTab hq; replace hCon := Rd.to hCon hq) | skip); clear hq; have kg := kgn; clear kgn
      refine hK.out _ _ ?_ (fun hHeld => ?_)
      · (try dsimp only); exact ⟨k0.cell 0, k0.cell 1, k0.cell 2, k0.cell 3, k0.cell 4, k0.cell 5, k0.cell 6, k0.cell 7, k7.cell 0, k7.cell 1, k9.cell 0, k9.cell 1⟩
      clear hK K
      try simp only [Act.put, List.setIfInBounds_toArray, List.set_cons_zero, List.set_cons_succ]
      refine wpAnyH_ready (rs := [6, 11]) (by kernel_rfl) (by simp) ?_
      refine AllReadyH.cons (arr_at rfl) (fun K hK => ?_) (AllReadyH.cons (arr_at rfl) (fun K hK => ?_) AllReadyH.nil)
      · go_simp
        go_at_call 41; refine (c_iForward g ⟨a1, a2, b1, b2⟩ A n c C m d none 0 _ HV.out HPK.out HN.out hc (HA.out _ B) HM.out hd (HC.out _ B)).mono ?_; rintro e wF ⟨hq, qq, gg, D', dc', A', n', c', C', m', d', ok, rfl, HO, hn', hc', hFr, hTab, hm', hd', hFc, hCon⟩; (first | (have hT11 := fr_apart (vs := mapCs gg.tb) hFr kp.lt; have hC11 := fr_apart (vs := conCs gg.cs) hFc kp.lt) | skip); (first | (have hT12 := fr_apart (vs := mapCs gg.tb) hFr kg.lt; have hC12 := fr_apart (vs := conCs gg.cs) hFc kg.lt) | skip); replace hFr := hFr.low (c := w.heap.size) B.size; replace hFc := hFc.low (c := w.heap.size) B.size; have hq9 := hq; replace hTab : TM wF A' gg.tb := hTab; replace k0 := k0.to hq; replace k7 := k7.to hq; replace k9 := k9.to hq; replace B := Bl.then B hq; replace B0 := Bl.then B0 hq; (first | (replace kp := Blk.to kp hq) | skip); (first | (replace kg := Blk.to kg hq) | skip); clear hq hq9
        refine hK.out _ _ ?_ (fun hHeld => ?_)
        · (try dsimp only); exact ⟨k0.cell 0, k0.cell 1, k0.cell 2, k0.cell 3, k0.cell 4, k0.cell 5, k0.cell 6, k0.cell 7, k7.cell 0, k7.cell 1, k9.cell 0, k9.cell 1⟩
        clear hK K
        try simp only [Act.put, List.setIfInBounds_toArray, List.set_cons_zero, List.set_cons_succ]
        refine wpAnyH_take (i := 7) (v := ?_) (arr_at rfl) (by kernel_rfl) (by kernel_rfl) (by kernel_rfl) (fun _ _ _ h => h) ?_ (by assumption) ?_
        rotate_left
        · first | (refine Or.inr ⟨by rfl, ?_⟩; with_reducible rfl) | (refine Or.inl ⟨by rfl, ?_⟩; intro w hSw; (try dsimp only at hSw); go_simp; first | done | with_reducible rfl)
        try simp only [Act.put, List.setIfInBounds_toArray, List.set_cons_zero, List.set_cons_succ]
        refine wpAnyH_take (i := 8) (v := ?_) (arr_at rfl) (by kernel_rfl) (by kernel_rfl) (by kernel_rfl) (fun _ _ _ h => h) ?_ (by assumption) ?_
        rotate_left
        · first | (refine Or.inr ⟨by rfl, ?_⟩; with_reducible rfl) | (refine Or.inl ⟨by rfl, ?_⟩; intro w hSw; (try dsimp only at hSw); go_simp; first | done | with_reducible rfl)
        try simp only [Act.put, List.setIfInBounds_toArray, List.set_cons_zero, List.set_cons_succ]
        refine wpAnyH_take (i := 9) (v := ?_) (arr_at rfl) (by kernel_rfl) (by kernel_rfl) (by kernel_rfl) (fun _ _ _ h => h) ?_ (by assumption) ?_
        rotate_left
        · first | (refine Or.inr ⟨by rfl, ?_⟩; with_reducible rfl) | (refine Or.inl ⟨by rfl, ?_⟩; intro w hSw; (try dsimp only at hSw); go_simp; first | done | with_reducible rfl)
        try simp only [Act.put, List.setIfInBounds_toArray, List.set_cons_zero, List.set_cons_succ]
        refine wpAnyH_take (i := 10) (v := ?_) (arr_at rfl) (by kernel_rfl) (by kernel_rfl) (by kernel_rfl) (fun _ _ _ h => h) ?_ (by assumption) ?_
        rotate_left
        · first | (refine Or.inr ⟨by rfl, ?_⟩; with_reducible rfl) | (refine Or.inl ⟨by rfl, ?_⟩; intro w hSw; (try dsimp only at hSw); go_simp; first | done | with_reducible rfl)
        try simp only [Act.put, List.setIfInBounds_toArray, List.set_cons_zero, List.set_cons_succ]
        refine wpAnyH_ready (rs := [11]) (by kernel_rfl) (by simp) ?_
        refine AllReadyH.cons (arr_at rfl) (fun K hK => ?_) AllReadyH.nil
        go_simp
        obtain ⟨wp, b11, ex, eb, hq, kpn⟩ := allocB B #[.int .i64 0, .int .i64 0, .int .i64 0, .int .i64 0, .int .i64 0, .slice none 0 0] 74; rw [ex, eb]; have hg11 := k0.lt; have h711 := k7.lt; have h911 := k9.lt; rw [eb] at hg11 h711 h911; have hw11 := B.size; rw [eb] at hw11; (first | (have hT11 := near_apart hTab eb; have hC11 := near_apart hCon eb) | skip); (first | (have hne := kg.lt; rw [eb] at hne; replace hne : b11 ≠ b12 := (by omega)) | skip); clear ex eb; replace k0 := k0.to hq; replace k7 := k7.to hq; replace k9 := k9.to hq; replace B := Bl.then B hq; replace B0 := Bl.then B0 hq; (first | (replace kp := Blk.to kp hq) | skip); (first | (replace kg := Blk.to kg hq) | skip); (first | (replace hTab := Rd.to hTab hq; replace hCon := Rd.to hCon hq) | skip); clear hq; have kp := kpn; clear kpn
        refine hK.out _ _ ?_ (fun hHeld => ?_)
        · (try dsimp only); exact ⟨k0.cell 0, k0.cell 1, k0.cell 2, k0.cell 3, k0.cell 4, k0.cell 5, k0.cell 6, k0.cell 7, k7.cell 0, k7.cell 1, k9.cell 0, k9.cell 1⟩
        clear hK K
        try simp only [Act.put, List.setIfInBounds_toArray, List.set_cons_zero, List.set_cons_succ]
        refine wpAnyH_ready (rs := [13]) (by kernel_rfl) (by simp) ?_
        refine AllReadyH.cons (arr_at rfl) (fun K hK => ?_) AllReadyH.nil
        have e0 := kp.cell 0; have e1 := kp.cell 1; have e2 := kp.cell 2; have e3 := kp.cell 3; have e4 := kp.cell 4; have e5 := kp.cell 5; have f0 := kp.frozen 0; have f1 := kp.frozen 1; have f2 := kp.frozen 2; have f3 := kp.frozen 3; have f4 := kp.frozen 4; have f5 := kp.frozen 5; have hlp := kp.lt; simp only [List.getElem?_toArray, List.getElem?_cons_zero, List.getElem?_cons_succ] at e0 e1 e2 e3 e4 e5; go_simp; clear e0 e1 e2 e3 e4 e5 f0 f1 f2 f3 f4 f5 hlp; obtain ⟨W1, e, z, hf, hb, hr⟩ := put6 kp (.int .i64 0) (.int .i64 qq.fa) (.int .i64 qq.fp) (.int .i64 qq.ta) (.int .i64 qq.tp) (.slice D' 0 dc'); rw [e]; clear e; replace k0 := hf k0 (by omega); replace k7 := hf k7 (by omega); replace k9 := hf k9 (by omega); replace kg := hf kg (Ne.symm hne); replace B := hb B (by omega); replace B0 := hb B0 (by omega); replace hTab := (hr (base := 0)).2 hTab hT11; replace hCon := (hr (base := 0)).2 hCon hC11; replace kp := z; clear z hf hb hr
        refine hK.out _ _ ?_ (fun hHeld => ?_)
        · (try dsimp only); exact ⟨k0.cell 0, k0.cell 1, k0.cell 2, k0.cell 3, k0.cell 4, k0.cell 5, k0.cell 6, k0.cell 7, k7.cell 0, k7.cell 1, k9.cell 0, k9.cell 1⟩
        clear hK K
        try simp only [Act.put, List.setIfInBounds_toArray, List.set_cons_zero, List.set_cons_succ]
        refine wpAnyH_ready (rs := [14]) (by kernel_rfl) (by simp) ?_
        refine AllReadyH.cons (arr_at rfl) (fun K hK => ?_) AllReadyH.nil
        have e0 := kg.cell 0; have e1 := kg.cell 1; have e2 := kg.cell 2; have e3 := kg.cell 3; have e4 := kg.cell 4; have e5 := kg.cell 5; have e6 := kg.cell 6; have e7 := kg.cell 7; have f0 := kg.frozen 0; have f1 := kg.frozen 1; have f2 := kg.frozen 2; have f3 := kg.frozen 3; have f4 := kg.frozen 4; have f5 := kg.frozen 5; have f6 := kg.frozen 6; have f7 := kg.frozen 7; have hlp := kg.lt; simp only [List.getElem?_toArray, List.getElem?_cons_zero, List.getElem?_cons_succ] at e0 e1 e2 e3 e4 e5 e6 e7; go_simp; clear e0 e1 e2 e3 e4 e5 e6 e7 f0 f1 f2 f3 f4 f5 f6 f7 hlp; obtain ⟨W2, e, z, hf, hb, hr⟩ := put8 kg (.int .i64 gg.ba) (.int .i64 gg.bi) (.int .i64 gg.ou) (.slice A' n' c') (.slice C' m' d') (.int .i64 gg.fi) (.int .i64 gg.ho) (.int .i64 gg.no); rw [e]; clear e; replace k0 := hf k0 (by omega); replace k7 := hf k7 (by omega); replace k9 := hf k9 (by omega); replace kp := hf kp (hne); replace B := hb B (by omega); replace B0 := hb B0 (by omega); replace hTab := (hr (base := 0)).2 hTab hT12; replace hCon := (hr (base := 0)).2 hCon hC12; replace kg := z; clear z hf hb hr
        refine hK.out _ _ ?_ (fun hHeld => ?_)
        · (try dsimp only); exact ⟨k0.cell 0, k0.cell 1, k0.cell 2, k0.cell 3, k0.cell 4, k0.cell 5, k0.cell 6, k0.cell 7, k7.cell 0, k7.cell 1, k9.cell 0, k9.cell 1⟩
        clear hK K
        try simp only [Act.put, List.setIfInBounds_toArray, List.set_cons_zero, List.set_cons_succ]
        refine wpAnyH_take (i := 15) (v := ?_) (arr_at rfl) (by kernel_rfl) (by kernel_rfl) (by kernel_rfl) (fun _ _ _ h => h) ?_ (by assumption) ?_
        rotate_left
        · first | (refine Or.inr ⟨by rfl, ?_⟩; with_reducible rfl) | (refine Or.inl ⟨by rfl, ?_⟩; intro w hSw; (try dsimp only at hSw); go_simp; first | done | with_reducible rfl)
        try simp only [Act.put, List.setIfInBounds_toArray, List.set_cons_zero, List.set_cons_succ]
        refine wpAnyH_done (by kernel_rfl) ?_ _
        go_wp2_with fail
        go_meet
        exact ⟨b11, b12, ok, qq, gg, D', dc', A', n', c', C', m', d', rfl, rfl, rfl, k0, kp, kg, HO, hn', hc', hFr, hTab, hm', hd', hFc, hCon, B, B0, hg11, hg12⟩
      · go_simp
        obtain ⟨wp, b11, ex, eb, hq, kpn⟩ := allocB B #[.int .i64 0, .int .i64 0, .int .i64 0, .int .i64 0, .int .i64 0, .slice none 0 0] 74; rw [ex, eb]; have hg11 := k0.lt; have h711 := k7.lt; have h911 := k9.lt; rw [eb] at hg11 h711 h911; have hw11 := B.size; rw [eb] at hw11; (first | (have hT11 := near_apart hTab eb; have hC11 := near_apart hCon eb) | skip); (first | (have hne := kg.lt; rw [eb] at hne; replace hne : b11 ≠ b12 := (by omega)) | skip); clear ex eb; replace k0 := k0.to hq; replace k7 := k7.to hq; replace k9 := k9.to hq; replace B := Bl.then B hq; replace B0 := Bl.then B0 hq; (first | (replace kp := Blk.to kp hq) | skip); (first | (replace kg := Blk.to kg hq) | skip); (first | (replace hTab := Rd.to hTab hq; replace hCon := Rd.to hCon hq) | skip); clear hq; have kp := kpn; clear kpn
        refine hK.out _ _ ?_ (fun hHeld => ?_)
        · (try dsimp only); exact ⟨k0.cell 0, k0.cell 1, k0.cell 2, k0.cell 3, k0.cell 4, k0.cell 5, k0.cell 6, k0.cell 7, k7.cell 0, k7.cell 1, k9.cell 0, k9.cell 1⟩
        clear hK K
        try simp only [Act.put, List.setIfInBounds_toArray, List.set_cons_zero, List.set_cons_succ]
        refine wpAnyH_ready (rs := [6]) (by kernel_rfl) (by simp) ?_
        refine AllReadyH.cons (arr_at rfl) (fun K hK => ?_) AllReadyH.nil
        go_simp
        go_at_call 41; refine (c_iForward g ⟨a1, a2, b1, b2⟩ A n c C m d none 0 _ HV.out HPK.out HN.out hc (HA.out _ B) HM.out hd (HC.out _ B)).mono ?_; rintro e wF ⟨hq, qq, gg, D', dc', A', n', c', C', m', d', ok, rfl, HO, hn', hc', hFr, hTab, hm', hd', hFc, hCon⟩; (first | (have hT11 := fr_apart (vs := mapCs gg.tb) hFr kp.lt; have hC11 := fr_apart (vs := conCs gg.cs) hFc kp.lt) | skip); (first | (have hT12 := fr_apart (vs := mapCs gg.tb) hFr kg.lt; have hC12 := fr_apart (vs := conCs gg.cs) hFc kg.lt) | skip); replace hFr := hFr.low (c := w.heap.size) B.size; replace hFc := hFc.low (c := w.heap.size) B.size; have hq9 := hq; replace hTab : TM wF A' gg.tb := hTab; replace k0 := k0.to hq; replace k7 := k7.to hq; replace k9 := k9.to hq; replace B := Bl.then B hq; replace B0 := Bl.then B0 hq; (first | (replace kp := Blk.to kp hq) | skip); (first | (replace kg := Blk.to kg hq) | skip); clear hq hq9
        refine hK.out _ _ ?_ (fun hHeld => ?_)
        · (try dsimp only); exact ⟨k0.cell 0, k0.cell 1, k0.cell 2, k0.cell 3, k0.cell 4, k0.cell 5, k0.cell 6, k0.cell 7, k7.cell 0, k7.cell 1, k9.cell 0, k9.cell 1⟩
        clear hK K
        try simp only [Act.put, List.setIfInBounds_toArray, List.set_cons_zero, List.set_cons_succ]
        refine wpAnyH_take (i := 7) (v := ?_) (arr_at rfl) (by kernel_rfl) (by kernel_rfl) (by kernel_rfl) (fun _ _ _ h => h) ?_ (by assumption) ?_
        rotate_left
        · first | (refine Or.inr ⟨by rfl, ?_⟩; with_reducible rfl) | (refine Or.inl ⟨by rfl, ?_⟩; intro w hSw; (try dsimp only at hSw); go_simp; first | done | with_reducible rfl)
        try simp only [Act.put, List.setIfInBounds_toArray, List.set_cons_zero, List.set_cons_succ]
        refine wpAnyH_take (i := 8) (v := ?_) (arr_at rfl) (by kernel_rfl) (by kernel_rfl) (by kernel_rfl) (fun _ _ _ h => h) ?_ (by assumption) ?_
        rotate_left
        · first | (refine Or.inr ⟨by rfl, ?_⟩; with_reducible rfl) | (refine Or.inl ⟨by rfl, ?_⟩; intro w hSw; (try dsimp only at hSw); go_simp; first | done | with_reducible rfl)
        try simp only [Act.put, List.setIfInBounds_toArray, List.set_cons_zero, List.set_cons_succ]
        refine wpAnyH_take (i := 9) (v := ?_) (arr_at rfl) (by kernel_rfl) (by kernel_rfl) (by kernel_rfl) (fun _ _ _ h => h) ?_ (by assumption) ?_
        rotate_left
        · first | (refine Or.inr ⟨by rfl, ?_⟩; with_reducible rfl) | (refine Or.inl ⟨by rfl, ?_⟩; intro w hSw; (try dsimp only at hSw); go_simp; first | done | with_reducible rfl)
        try simp only [Act.put, List.setIfInBounds_toArray, List.set_cons_zero, List.set_cons_succ]
        refine wpAnyH_take (i := 10) (v := ?_) (arr_at rfl) (by kernel_rfl) (by kernel_rfl) (by kernel_rfl) (fun _ _ _ h => h) ?_ (by assumption) ?_
        rotate_left
        · first | (refine Or.inr ⟨by rfl, ?_⟩; with_reducible rfl) | (refine Or.inl ⟨by rfl, ?_⟩; intro w hSw; (try dsimp only at hSw); go_simp; first | done | with_reducible rfl)
        try simp only [Act.put, List.setIfInBounds_toArray, List.set_cons_zero, List.set_cons_succ]
        refine wpAnyH_ready (rs := [13]) (by kernel_rfl) (by simp) ?_
        refine AllReadyH.cons (arr_at rfl) (fun K hK => ?_) AllReadyH.nil
        have e0 := kp.cell 0; have e1 := kp.cell 1; have e2 := kp.cell 2; have e3 := kp.cell 3; have e4 := kp.cell 4; have e5 := kp.cell 5; have f0 := kp.frozen 0; have f1 := kp.frozen 1; have f2 := kp.frozen 2; have f3 := kp.frozen 3; have f4 := kp.frozen 4; have f5 := kp.frozen 5; have hlp := kp.lt; simp only [List.getElem?_toArray, List.getElem?_cons_zero, List.getElem?_cons_succ] at e0 e1 e2 e3 e4 e5; go_simp; clear e0 e1 e2 e3 e4 e5 f0 f1 f2 f3 f4 f5 hlp; obtain ⟨W1, e, z, hf, hb, hr⟩ := put6 kp (.int .i64 0) (.int .i64 qq.fa) (.int .i64 qq.fp) (.int .i64 qq.ta) (.int .i64 qq.tp) (.slice D' 0 dc'); rw [e]; clear e; replace k0 := hf k0 (by omega); replace k7 := hf k7 (by omega); replace k9 := hf k9 (by omega); replace kg := hf kg (Ne.symm hne); replace B := hb B (by omega); replace B0 := hb B0 (by omega); replace hTab := (hr (base := 0)).2 hTab hT11; replace hCon := (hr (base := 0)).2 hCon hC11; replace kp := z; clear z hf hb hr
        refine hK.out _ _ ?_ (fun hHeld => ?_)
        · (try dsimp only); exact ⟨k0.cell 0, k0.cell 1, k0.cell 2, k0.cell 3, k0.cell 4, k0.cell 5, k0.cell 6, k0.cell 7, k7.cell 0, k7.cell 1, k9.cell 0, k9.cell 1⟩
        clear hK K
        try simp only [Act.put, List.setIfInBounds_toArray, List.set_cons_zero, List.set_cons_succ]
        refine wpAnyH_ready (rs := [14]) (by kernel_rfl) (by simp) ?_
        refine AllReadyH.cons (arr_at rfl) (fun K hK => ?_) AllReadyH.nil
        have e0 := kg.cell 0; have e1 := kg.cell 1; have e2 := kg.cell 2; have e3 := kg.cell 3; have e4 := kg.cell 4; have e5 := kg.cell 5; have e6 := kg.cell 6; have e7 := kg.cell 7; have f0 := kg.frozen 0; have f1 := kg.frozen 1; have f2 := kg.frozen 2; have f3 := kg.frozen 3; have f4 := kg.frozen 4; have f5 := kg.frozen 5; have f6 := kg.frozen 6; have f7 := kg.frozen 7; have hlp := kg.lt; simp only [List.getElem?_toArray, List.getElem?_cons_zero, List.getElem?_cons_succ] at e0 e1 e2 e3 e4 e5 e6 e7; go_simp; clear e0 e1 e2 e3 e4 e5 e6 e7 f0 f1 f2 f3 f4 f5 f6 f7 hlp; obtain ⟨W2, e, z, hf, hb, hr⟩ := put8 kg (.int .i64 gg.ba) (.int .i64 gg.bi) (.int .i64 gg.ou) (.slice A' n' c') (.slice C' m' d') (.int .i64 gg.fi) (.int .i64 gg.ho) (.int .i64 gg.no); rw [e]; clear e; replace k0 := hf k0 (by omega); replace k7 := hf k7 (by omega); replace k9 := hf k9 (by omega); replace kp := hf kp (hne); replace B := hb B (by omega); replace B0 := hb B0 (by omega); replace hTab := (hr (base := 0)).2 hTab hT12; replace hCon := (hr (base := 0)).2 hCon hC12; replace kg := z; clear z hf hb hr
        refine hK.out _ _ ?_ (fun hHeld => ?_)
        · (try dsimp only); exact ⟨k0.cell 0, k0.cell 1, k0.cell 2, k0.cell 3, k0.cell 4, k0.cell 5, k0.cell 6, k0.cell 7, k7.cell 0, k7.cell 1, k9.cell 0, k9.cell 1⟩
        clear hK K
        try simp only [Act.put, List.setIfInBounds_toArray, List.set_cons_zero, List.set_cons_succ]
        refine wpAnyH_take (i := 15) (v := ?_) (arr_at rfl) (by kernel_rfl) (by kernel_rfl) (by kernel_rfl) (fun _ _ _ h => h) ?_ (by assumption) ?_
        rotate_left
        · first | (refine Or.inr ⟨by rfl, ?_⟩; with_reducible rfl) | (refine Or.inl ⟨by rfl, ?_⟩; intro w hSw; (try dsimp only at hSw); go_simp; first | done | with_reducible rfl)
        try simp only [Act.put, List.setIfInBounds_toArray, List.set_cons_zero, List.set_cons_succ]
        refine wpAnyH_done (by kernel_rfl) ?_ _
        go_wp2_with fail
        go_meet
        exact ⟨b11, b12, ok, qq, gg, D', dc', A', n', c', C', m', d', rfl, rfl, rfl, k0, kp, kg, HO, hn', hc', hFr, hTab, hm', hd', hFc, hCon, B, B0, hg11, hg12⟩
  case rest =>
    clear k0 k7 k9 B B0
    obtain ⟨b11, b12, ok, qq, gg, D', dc', A', n', c', C', m', d', rfl, rfl, rfl, HH⟩ := hcut
    obtain ⟨k0, kp, kg, HO, hn', hc', hFr, hTab, hm', hd', hFc, hCon, B, B0, hg11, hg12⟩ := HH.out
    clear HH
    cases pa
    · skip
      have HZ := Lib.hid (sendL_no (g := g) (x := x.data.toList) (y := y.data.toList) (r := (qq, gg)) H12.out.1 H12.out.2 (fun _ _ => HO) (.inl rfl))
      go_wp2
      go_ret
      exact ⟨by rw [HZ.out]; rfl, by rw [HZ.out]; exact (HGA.out.to B).inl, grown_of_below B _⟩
    cases pb
    · skip
      have HZ := Lib.hid (sendL_no (g := g) (x := x.data.toList) (y := y.data.toList) (r := (qq, gg)) H12.out.1 H12.out.2 (fun _ _ => HO) (.inr (.inl rfl)))
      go_wp2
      go_ret
      exact ⟨by rw [HZ.out]; rfl, by rw [HZ.out]; exact (HGA.out.to B).inl, grown_of_below B _⟩
    cases ok
    · skip
      have HZ := Lib.hid (sendL_no (g := g) (x := x.data.toList) (y := y.data.toList) (r := (qq, gg)) H12.out.1 H12.out.2 (fun _ _ => HO) (.inr (.inr rfl)))
      go_wp2
      go_ret
      exact ⟨by rw [HZ.out]; rfl, by rw [HZ.out]; exact (HGA.out.to B).inl, grown_of_below B _⟩
    have HZ := Lib.hid (sendL_ok (g := g) (g' := gg) (x := x.data.toList) (y := y.data.toList) H12.out.1 H12.out.2 HO)
    have HF := Lib.hid (And.intro hn' (And.intro hc' (And.intro hm' hd')))
    clear HO hn' hc' hm' hd'
    have e0 := kg.cell 0
    have e1 := kg.cell 1
    have e2 := kg.cell 2
    have e3 := kg.cell 3
    have e4 := kg.cell 4
    have e5 := kg.cell 5
    have e6 := kg.cell 6
    have e7 := kg.cell 7
    have y0 := k0.cell 0
    have f0 := k0.frozen 0
    have y1 := k0.cell 1
    have f1 := k0.frozen 1
    have y2 := k0.cell 2
    have f2 := k0.frozen 2
    have y3 := k0.cell 3
    have f3 := k0.frozen 3
    have y4 := k0.cell 4
    have f4 := k0.frozen 4
    have y5 := k0.cell 5
    have f5 := k0.frozen 5
    have y6 := k0.cell 6
    have f6 := k0.frozen 6
    have y7 := k0.cell 7
    have f7 := k0.frozen 7
    have l1 := k0.lt
    have l2 := kg.lt
    simp only [List.getElem?_toArray, List.getElem?_cons_zero, List.getElem?_cons_succ] at e0 e1 e2 e3 e4 e5 e6 e7 y0 y1 y2 y3 y4 y5 y6 y7
    go_upto_region 7 with fail
    clear e0 e1 e2 e3 e4 e5 e6 e7 y0 y1 y2 y3 y4 y5 y6 y7 f0 f1 f2 f3 f4 f5 f6 f7 l1 l2
    have hgr := put8g wc gb (.int .i64 gg.ba) (.int .i64 gg.bi) (.int .i64 gg.ou) (.slice A' n' c') (.slice C' m' d') (.int .i64 gg.fi) (.int .i64 gg.ho) (.int .i64 gg.no)
    obtain ⟨W9, e, z, hf, hb, hr⟩ := put8 k0 (.int .i64 gg.ba) (.int .i64 gg.bi) (.int .i64 gg.ou) (.slice A' n' c') (.slice C' m' d') (.int .i64 gg.fi) (.int .i64 gg.ho) (.int .i64 gg.no)
    rw [e] at hgr ⊢
    have HGR := Lib.hid (grown_trans (grown_of_below B (some gb)) hgr)
    replace kp := hf kp (by omega)
    replace B0 := hb B0 hgb
    replace hTab := hr.1 hTab hFr hgl
    replace hCon := hr.1 hCon hFc hgl
    have HG9 : Hid (GA W9 gb 44 (fun k => P k ∨ w.heap.size ≤ k) gg) := ⟨A', n', c', C', m', d', z, HF.out.1, HF.out.2.1, hTab, HF.out.2.2.1, HF.out.2.2.2, hCon, fr_both hFr hgl, fr_both hFc hgl⟩
    clear z hf hb hr e hgr hTab hCon hFr hFc kg k0 B
    have B9 : Below W9.heap.size W9 W9.drew := Bl.of_drewN W9 1
    replace kp := kp.to B9
    have hz1 := fmtEnd_sz qq.fa qq.fp
    have hz2 := fmtEnd_sz qq.ta qq.tp
    have hs1 : ¬ (9223372036854775807 < (fmtEnd qq.fa qq.fp).size + 1) := by omega
    have hs2 : ¬ (9223372036854775807 < (fmtEnd qq.fa qq.fp).size + 1 + (fmtEnd qq.ta qq.tp).size) := by omega
    replace B0 := Bl.then B0 B9
    go_wp2_with fail
    refine wp_region_held_drew (S := (fun w' => w'.cell? ⟨b11, 0, none⟩ = some (.int .i64 0) ∧ w'.cell? ⟨b11, 1, none⟩ = some (.int .i64 qq.fa) ∧ w'.cell? ⟨b11, 2, none⟩ = some (.int .i64 qq.fp) ∧ w'.cell? ⟨b11, 3, none⟩ = some (.int .i64 qq.ta) ∧ w'.cell? ⟨b11, 4, none⟩ = some (.int .i64 qq.tp))) (by kernel_rfl) ?_ (fun hHeld => ?_)
    · (try dsimp only); exact ⟨kp.cell 0, kp.cell 1, kp.cell 2, kp.cell 3, kp.cell 4⟩
    refine wpAnyH_take (i := 0) (v := ?_) (arr_at rfl) (by kernel_rfl) (by kernel_rfl) (by kernel_rfl) (fun _ _ _ h => h) ?_ (by assumption) ?_
    rotate_left
    · first | (refine Or.inr ⟨by rfl, ?_⟩; with_reducible rfl) | (refine Or.inl ⟨by rfl, ?_⟩; intro w hSw; (try dsimp only at hSw); go_simp; first | done | with_reducible rfl)
    try simp only [Act.put, List.setIfInBounds_toArray, List.set_cons_zero, List.set_cons_succ]
    refine wpAnyH_take (i := 1) (v := ?_) (arr_at rfl) (by kernel_rfl) (by kernel_rfl) (by kernel_rfl) (fun _ _ _ h => h) ?_ (by assumption) ?_
    rotate_left
    · first | (refine Or.inr ⟨by rfl, ?_⟩; with_reducible rfl) | (refine Or.inl ⟨by rfl, ?_⟩; intro w hSw; (try dsimp only at hSw); go_simp; first | done | with_reducible rfl)
    try simp only [Act.put, List.setIfInBounds_toArray, List.set_cons_zero, List.set_cons_succ]
    refine wpAnyH_take (i := 4) (v := ?_) (arr_at rfl) (by kernel_rfl) (by kernel_rfl) (by kernel_rfl) (fun _ _ _ h => h) ?_ (by assumption) ?_
    rotate_left
    · first | (refine Or.inr ⟨by rfl, ?_⟩; with_reducible rfl) | (refine Or.inl ⟨by rfl, ?_⟩; intro w hSw; (try dsimp only at hSw); go_simp; first | done | with_reducible rfl)
    try simp only [Act.put, List.setIfInBounds_toArray, List.set_cons_zero, List.set_cons_succ]
    refine wpAnyH_take (i := 5) (v := ?_) (arr_at rfl) (by kernel_rfl) (by kernel_rfl) (by kernel_rfl) (fun _ _ _ h => h) ?_ (by assumption) ?_
    rotate_left
    · first | (refine Or.inr ⟨by rfl, ?_⟩; with_reducible rfl) | (refine Or.inl ⟨by rfl, ?_⟩; intro w hSw; (try dsimp only at hSw); go_simp; first | done | with_reducible rfl)
    try simp only [Act.put, List.setIfInBounds_toArray, List.set_cons_zero, List.set_cons_succ]
    refine wpAnyH_ready (rs := [2]) (by kernel_rfl) (by simp) ?_
    refine AllReadyH.cons (arr_at rfl) (fun K hK => ?_) AllReadyH.nil
    go_simp
    go_at_call 42; refine (c_iFormatEnd _ _ _ (HE.out _ B0).tab).mono ?_; rintro e wA ⟨rfl, hq⟩; replace kp := kp.to hq; replace B9 := Bl.then B9 hq; replace B0 := Bl.then B0 hq; clear hq
    refine hK.out _ _ ?_ (fun hHeld => ?_)
    · (try dsimp only); exact ⟨kp.cell 0, kp.cell 1, kp.cell 2, kp.cell 3, kp.cell 4⟩
    clear hK K
    try simp only [Act.put, List.setIfInBounds_toArray, List.set_cons_zero, List.set_cons_succ]
    refine wpAnyH_take (i := 3) (v := ?_) (arr_at rfl) (by kernel_rfl) (by kernel_rfl) (by kernel_rfl) (fun _ _ _ h => h) ?_ (by assumption) ?_
    rotate_left
    · first | (refine Or.inr ⟨by rfl, ?_⟩; with_reducible rfl) | (refine Or.inl ⟨by rfl, ?_⟩; intro w hSw; (try dsimp only at hSw); go_simp; first | done | with_reducible rfl)
    try simp only [Act.put, List.setIfInBounds_toArray, List.set_cons_zero, List.set_cons_succ]
    refine wpAnyH_ready (rs := [6]) (by kernel_rfl) (by simp) ?_
    refine AllReadyH.cons (arr_at rfl) (fun K hK => ?_) AllReadyH.nil
    go_simp
    go_at_call 42; refine (c_iFormatEnd _ _ _ (HE.out _ B0).tab).mono ?_; rintro e wB ⟨rfl, hq⟩; replace kp := kp.to hq; replace B9 := Bl.then B9 hq; replace B0 := Bl.then B0 hq; clear hq
    refine hK.out _ _ ?_ (fun hHeld => ?_)
    · (try dsimp only); exact ⟨kp.cell 0, kp.cell 1, kp.cell 2, kp.cell 3, kp.cell 4⟩
    clear hK K
    try simp only [Act.put, List.setIfInBounds_toArray, List.set_cons_zero, List.set_cons_succ]
    refine wpAnyH_take (i := 7) (v := ?_) (arr_at rfl) (by kernel_rfl) (by kernel_rfl) (by kernel_rfl) (fun _ _ _ h => h) ?_ (by assumption) ?_
    rotate_left
    · first | (refine Or.inr ⟨by rfl, ?_⟩; with_reducible rfl) | (refine Or.inl ⟨by rfl, ?_⟩; intro w hSw; (try dsimp only at hSw); go_simp; first | done | with_reducible rfl)
    try simp only [Act.put, List.setIfInBounds_toArray, List.set_cons_zero, List.set_cons_succ]
    refine wpAnyH_take (i := 8) (v := ?_) (arr_at rfl) (by kernel_rfl) (by kernel_rfl) (by kernel_rfl) (fun _ _ _ h => h) ?_ (by assumption) ?_
    rotate_left
    · first | (refine Or.inr ⟨by rfl, ?_⟩; with_reducible rfl) | (refine Or.inl ⟨by rfl, ?_⟩; intro w hSw; (try dsimp only at hSw); go_simp; first | done | with_reducible rfl)
    try simp only [Act.put, List.setIfInBounds_toArray, List.set_cons_zero, List.set_cons_succ]
    refine wpAnyH_done (by kernel_rfl) ?_ _
    go_wp2
    go_ret
    exact ⟨by rw [HZ.out]; exact ret_strB (sp_join _ _), by rw [HZ.out]; exact HG9.out.to B9, grown_trans HGR.out (grown_of_below B9 _)⟩
set_option maxHeartbeats 6400000 in
theorem c_sSendWords (g : Gt) (gb : Nat) (P : Nat → Prop) (w0 w : World) (x y : ByteArray) (hv : vGate g = true) (hG : GA w gb 56 P g) (hB : Below w0.heap.size w0 w) (hgb : w0.heap.size ≤ gb) (hx : x.size ≤ 4000000000) (hy : y.size ≤ 4000000000) :
    Calls Tryz.prog 33 #[.pointer (some ⟨gb, 0, none⟩), .string x, .string y] w fun e w' => e = .returned (.string ⟨(sendL g x.data.toList y.data.toList).1.toArray⟩) ∧ GA w' gb 56 (fun k => P k ∨ w.heap.size ≤ k) (sendL g x.data.toList y.data.toList).2 ∧ w.grownBy w' (some gb) := by
  have HGA := Lib.hid hG
  obtain ⟨A, n, c, C, m, d, k0, hn, hc, h, hm, hd, h', ap1, ap2⟩ := hG
  have HN := Lib.hid hn
  have HM := Lib.hid hm
  have HA : Hid (∀ W, Below w.heap.size w W → TM W A g.tb) := fun W b => h.to b
  have HC : Hid (∀ W, Below w.heap.size w W → TK W C g.cs) := fun W b => h'.to b
  have HV := Lib.hid hv
  have hgl := k0.lt
  obtain ⟨a1, a2, pa, e1, o1, i1, i2⟩ := parV_form x.data.toList
  obtain ⟨b1, b2, pb, e2, o2, i3, i4⟩ := parV_form y.data.toList
  have HPK := Lib.hid (vPk_mk i1 i2 i3 i4)
  have H12 := Lib.hid (And.intro o1 o2)
  have H34 := Lib.hid (And.intro e1 e2)
  have B : Below w.heap.size w w := Below.refl _ _
  have B0 := hB
  clear hn hm h h' hv ap1 ap2 o1 o2 i1 i2 i3 i4 e1 e2 hB
  go_enter Tryz.func33, Tryz.ntmps33
  go_wp2_with fail
  refine (c_sEnd x _ hx).mono ?_
  rw [H34.out.1]
  rintro e w1 ⟨rfl, hq⟩
  replace k0 := k0.to hq
  replace B := Bl.then B hq
  replace B0 := Bl.then B0 hq
  clear hq
  go_upto_region 2 with fail
  have k7 := Blk.new w1 70 #[.int .i64 a1, .int .i64 a2]
  have hq : Below w1.heap.size w1 (w1.alloc (.cells #[.int .i64 a1, .int .i64 a2] 70)) := (Below.refl _ _).alloc (Nat.le_refl _) _
  obtain ⟨b7, hb7⟩ : ∃ b, w1.heap.size = b := ⟨_, rfl⟩
  rw [hb7] at k7 ⊢
  replace k0 := k0.to hq
  replace B := Bl.then B hq
  replace B0 := Bl.then B0 hq
  clear hq hb7
  generalize w1.alloc (.cells #[.int .i64 a1, .int .i64 a2] 70) = w2 at *
  go_wp2_with fail
  refine (c_sEnd y _ hy).mono ?_
  rw [H34.out.2]
  rintro e w3 ⟨rfl, hq⟩
  replace k0 := k0.to hq
  replace k7 := k7.to hq
  replace B := Bl.then B hq
  replace B0 := Bl.then B0 hq
  clear hq
  go_upto_region 3 with fail
  have k9 := Blk.new w3 70 #[.int .i64 b1, .int .i64 b2]
  have hq : Below w3.heap.size w3 (w3.alloc (.cells #[.int .i64 b1, .int .i64 b2] 70)) := (Below.refl _ _).alloc (Nat.le_refl _) _
  obtain ⟨b9, hb9⟩ : ∃ b, w3.heap.size = b := ⟨_, rfl⟩
  rw [hb9] at k9 ⊢
  replace k0 := k0.to hq
  replace k7 := k7.to hq
  replace B := Bl.then B hq
  replace B0 := Bl.then B0 hq
  clear hq hb9
  generalize w3.alloc (.cells #[.int .i64 b1, .int .i64 b2] 70) = w4 at *
  cases pa
  · skip
    have HZ := Lib.hid (sendL_no (g := g) (x := x.data.toList) (y := y.data.toList) (ok := false) (r := (pk0, gt0)) H12.out.1 H12.out.2 (fun h => by cases h) (.inl rfl))
    go_wp2
    go_ret
    exact ⟨by rw [HZ.out]; rfl, by rw [HZ.out]; exact (HGA.out.to B).inl, grown_of_below B _⟩
  cases pb
  · skip
    have HZ := Lib.hid (sendL_no (g := g) (x := x.data.toList) (y := y.data.toList) (ok := false) (r := (pk0, gt0)) H12.out.1 H12.out.2 (fun _ h => by cases h) (.inr (.inl rfl)))
    go_wp2
    go_ret
    exact ⟨by rw [HZ.out]; rfl, by rw [HZ.out]; exact (HGA.out.to B).inl, grown_of_below B _⟩
  go_upto_region 5 with fail
  have hw4 := k9.lt
  go_cut [11, 12, 13] (fun s11 s12 s13 wx => ∃ (b11 b12 : Nat) (ok : Bool) (qq : Pk) (gg : Gt) (D' : Option Addr) (dc' : Nat) (A' : Option Addr) (n' c' : Nat) (C' : Option Addr) (m' d' : Nat), s11 = .pointer (some ⟨b11, 0, none⟩) ∧ s12 = .pointer (some ⟨b12, 0, none⟩) ∧ s13 = .bool ok ∧
    Hid (Blk wx gb 56 #[.int .i64 g.ba, .int .i64 g.bi, .int .i64 g.ou, .slice A n c, .slice C m d, .int .i64 g.fi, .int .i64 g.ho, .int .i64 g.no] ∧ Blk wx b11 74 #[.int .i64 0, .int .i64 qq.fa, .int .i64 qq.fp, .int .i64 qq.ta, .int .i64 qq.tp, .slice D' 0 dc'] ∧ Blk wx b12 44 #[.int .i64 gg.ba, .int .i64 gg.bi, .int .i64 gg.ou, .slice A' n' c', .slice C' m' d', .int .i64 gg.fi, .int .i64 gg.ho, .int .i64 gg.no] ∧ fwdG g ⟨a1, a2, b1, b2⟩ = (if ok then some (qq, gg) else none) ∧ gg.tb.length = n' ∧ n' ≤ c' ∧ Fr A' w.heap.size ∧ TM wx A' gg.tb ∧ gg.cs.length = m' ∧ m' ≤ d' ∧ Fr C' w.heap.size ∧ TK wx C' gg.cs ∧ Below w.heap.size w wx ∧ Below w0.heap.size w0 wx ∧ gb < b11 ∧ gb < b12))
  case first =>
    have hq : Below w4.heap.size w4 w4.drew := Bl.of_drewN w4 1
    replace k0 := k0.to hq; replace k7 := k7.to hq; replace k9 := k9.to hq; replace B := Bl.then B hq; replace B0 := Bl.then B0 hq; (first | (replace kp := Blk.to kp hq) | skip); (first | (replace kg := Blk.to kg hq) | skip); (first | (replace hTab := Rd.to hTab hq; replace hCon := Rd.to hCon hq) | skip); clear hq
    go_wp2_with fail
    refine wp_region_held_drew (S := (fun w' => w'.cell? ⟨gb, 0, none⟩ = some (.int .i64 g.ba) ∧ w'.cell? ⟨gb, 1, none⟩ = some (.int .i64 g.bi) ∧ w'.cell? ⟨gb, 2, none⟩ = some (.int .i64 g.ou) ∧ w'.cell? ⟨gb, 3, none⟩ = some (.slice A n c) ∧ w'.cell? ⟨gb, 4, none⟩ = some (.slice C m d) ∧ w'.cell? ⟨gb, 5, none⟩ = some (.int .i64 g.fi) ∧ w'.cell? ⟨gb, 6, none⟩ = some (.int .i64 g.ho) ∧ w'.cell? ⟨gb, 7, none⟩ = some (.int .i64 g.no) ∧ w'.cell? ⟨b7, 0, none⟩ = some (.int .i64 a1) ∧ w'.cell? ⟨b7, 1, none⟩ = some (.int .i64 a2) ∧ w'.cell? ⟨b9, 0, none⟩ = some (.int .i64 b1) ∧ w'.cell? ⟨b9, 1, none⟩ = some (.int .i64 b2))) (by kernel_rfl) ?_ (fun hHeld => ?_)
    · (try dsimp only); exact ⟨k0.cell 0, k0.cell 1, k0.cell 2, k0.cell 3, k0.cell 4, k0.cell 5, k0.cell 6, k0.cell 7, k7.cell 0, k7.cell 1, k9.cell 0, k9.cell 1⟩
    generalize World.drew w4 = wq at *
    refine wpAnyH_take (i := 0) (v := ?_) (arr_at rfl) (by kernel_rfl) (by kernel_rfl) (by kernel_rfl) (fun _ _ _ h => h) ?_ (by assumption) ?_
    rotate_left
    · first | (refine Or.inr ⟨by rfl, ?_⟩; with_reducible rfl) | (refine Or.inl ⟨by rfl, ?_⟩; intro w hSw; (try dsimp only at hSw); go_simp; first | done | with_reducible rfl)
    try simp only [Act.put, List.setIfInBounds_toArray, List.set_cons_zero, List.set_cons_succ]
    refine wpAnyH_take (i := 1) (v := ?_) (arr_at rfl) (by kernel_rfl) (by kernel_rfl) (by kernel_rfl) (fun _ _ _ h => h) ?_ (by assumption) ?_
    rotate_left
    · first | (refine Or.inr ⟨by rfl, ?_⟩; with_reducible rfl) | (refine Or.inl ⟨by rfl, ?_⟩; intro w hSw; (try dsimp only at hSw); go_simp; first | done | with_reducible rfl)
    try simp only [Act.put, List.setIfInBounds_toArray, List.set_cons_zero, List.set_cons_succ]
    refine wpAnyH_take (i := 2) (v := ?_) (arr_at rfl) (by kernel_rfl) (by kernel_rfl) (by kernel_rfl) (fun _ _ _ h => h) ?_ (by assumption) ?_
    rotate_left
    · first | (refine Or.inr ⟨by rfl, ?_⟩; with_reducible rfl) | (refine Or.inl ⟨by rfl, ?_⟩; intro w hSw; (try dsimp only at hSw); go_simp; first | done | with_reducible rfl)
    try simp only [Act.put, List.setIfInBounds_toArray, List.set_cons_zero, List.set_cons_succ]
    refine wpAnyH_take (i := 3) (v := ?_) (arr_at rfl) (by kernel_rfl) (by kernel_rfl) (by kernel_rfl) (fun _ _ _ h => h) ?_ (by assumption) ?_
    rotate_left
    · first | (refine Or.inr ⟨by rfl, ?_⟩; with_reducible rfl) | (refine Or.inl ⟨by rfl, ?_⟩; intro w hSw; (try dsimp only at hSw); go_simp; first | done | with_reducible rfl)
    try simp only [Act.put, List.setIfInBounds_toArray, List.set_cons_zero, List.set_cons_succ]
    refine wpAnyH_take (i := 4) (v := ?_) (arr_at rfl) (by kernel_rfl) (by kernel_rfl) (by kernel_rfl) (fun _ _ _ h => h) ?_ (by assumption) ?_
    rotate_left
    · first | (refine Or.inr ⟨by rfl, ?_⟩; with_reducible rfl) | (refine Or.inl ⟨by rfl, ?_⟩; intro w hSw; (try dsimp only at hSw); go_simp; first | done | with_reducible rfl)
    try simp only [Act.put, List.setIfInBounds_toArray, List.set_cons_zero, List.set_cons_succ]
    refine wpAnyH_take (i := 5) (v := ?_) (arr_at rfl) (by kernel_rfl) (by kernel_rfl) (by kernel_rfl) (fun _ _ _ h => h) ?_ (by assumption) ?_
    rotate_left
    · first | (refine Or.inr ⟨by rfl, ?_⟩; with_reducible rfl) | (refine Or.inl ⟨by rfl, ?_⟩; intro w hSw; (try dsimp only at hSw); go_simp; first | done | with_reducible rfl)
    try simp only [Act.put, List.setIfInBounds_toArray, List.set_cons_zero, List.set_cons_succ]
    refine wpAnyH_take (i := 6) (v := ?_) (arr_at rfl) (by kernel_rfl) (by kernel_rfl) (by kernel_rfl) (fun _ _ _ h => h) ?_ (by assumption) ?_
    rotate_left
    · first | (refine Or.inr ⟨by rfl, ?_⟩; with_reducible rfl) | (refine Or.inl ⟨by rfl, ?_⟩; intro w hSw; (try dsimp only at hSw); go_simp; first | done | with_reducible rfl)
    try simp only [Act.put, List.setIfInBounds_toArray, List.set_cons_zero, List.set_cons_succ]
    refine wpAnyH_ready (rs := [7, 12, 13]) (by kernel_rfl) (by simp) ?_
    refine AllReadyH.cons (arr_at rfl) (fun K hK => ?_) (AllReadyH.cons (arr_at rfl) (fun K hK => ?_) (AllReadyH.cons (arr_at rfl) (fun K hK => ?_) AllReadyH.nil))
    · go_simp
      go_at_call 50; refine (c_sForward g ⟨a1, a2, b1, b2⟩ A n c C m d none 0 _ HV.out HPK.out HN.out (HA.out _ B) HM.out (HC.out _ B)).mono ?_; rintro e wF ⟨hq, qq, gg, D', dc', A', n', c', C', m', d', ok, rfl, HO, hn', hc', hFr, hTab, hm', hd', hFc, hCon⟩; (first | (have hT11 := fr_apart (vs := mapCs gg.tb) hFr kp.lt; have hC11 := fr_apart (vs := conCs gg.cs) hFc kp.lt) | skip); (first | (have hT12 := fr_apart (vs := mapCs gg.tb) hFr kg.lt; have hC12 := fr_apart (vs := conCs gg.cs) hFc kg.lt) | skip); replace hFr := hFr.low (c := w.heap.size) B.size; replace hFc := hFc.low (c := w.heap.size) B.size; have hq9 := hq; replace hTab : TM wF A' gg.tb := hTab; replace k0 := k0.to hq; replace k7 := k7.to hq; replace k9 := k9.to hq; replace B := Bl.then B hq; replace B0 := Bl.then B0 hq; (first | (replace kp := Blk.to kp hq) | skip); (first | (replace kg := Blk.to kg hq) | skip); clear hq hq9
      refine hK.out _ _ ?_ (fun hHeld => ?_)
      · (try dsimp only); exact ⟨k0.cell 0, k0.cell 1, k0.cell 2, k0.cell 3, k0.cell 4, k0.cell 5, k0.cell 6, k0.cell 7, k7.cell 0, k7.cell 1, k9.cell 0, k9.cell 1⟩
      clear hK K
      try simp only [Act.put, List.setIfInBounds_toArray, List.set_cons_zero, List.set_cons_succ]
      refine wpAnyH_take (i := 8) (v := ?_) (arr_at rfl) (by kernel_rfl) (by kernel_rfl) (by kernel_rfl) (fun _ _ _ h => h) ?_ (by assumption) ?_
      rotate_left
      · first | (refine Or.inr ⟨by rfl, ?_⟩; with_reducible rfl) | (refine Or.inl ⟨by rfl, ?_⟩; intro w hSw; (try dsimp only at hSw); go_simp; first | done | with_reducible rfl)
      try simp only [Act.put, List.setIfInBounds_toArray, List.set_cons_zero, List.set_cons_succ]
      refine wpAnyH_take (i := 9) (v := ?_) (arr_at rfl) (by kernel_rfl) (by kernel_rfl) (by kernel_rfl) (fun _ _ _ h => h) ?_ (by assumption) ?_
      rotate_left
      · first | (refine Or.inr ⟨by rfl, ?_⟩; with_reducible rfl) | (refine Or.inl ⟨by rfl, ?_⟩; intro w hSw; (try dsimp only at hSw); go_simp; first | done | with_reducible rfl)
      try simp only [Act.put, List.setIfInBounds_toArray, List.set_cons_zero, List.set_cons_succ]
      refine wpAnyH_take (i := 10) (v := ?_) (arr_at rfl) (by kernel_rfl) (by kernel_rfl) (by kernel_rfl) (fun _ _ _ h => h) ?_ (by assumption) ?_
      rotate_left
      · first | (refine Or.inr ⟨by rfl, ?_⟩; with_reducible rfl) | (refine Or.inl ⟨by rfl, ?_⟩; intro w hSw; (try dsimp only at hSw); go_simp; first | done | with_reducible rfl)
      try simp only [Act.put, List.setIfInBounds_toArray, List.set_cons_zero, List.set_cons_succ]
      refine wpAnyH_take (i := 11) (v := ?_) (arr_at rfl) (by kernel_rfl) (by kernel_rfl) (by kernel_rfl) (fun _ _ _ h => h) ?_ (by assumption) ?_
      rotate_left
      · first | (refine Or.inr ⟨by rfl, ?_⟩; with_reducible rfl) | (refine Or.inl ⟨by rfl, ?_⟩; intro w hSw; (try dsimp only at hSw); go_simp; first | done | with_reducible rfl)
      try simp only [Act.put, List.setIfInBounds_toArray, List.set_cons_zero, List.set_cons_succ]
      refine wpAnyH_ready (rs := [12, 13]) (by kernel_rfl) (by simp) ?_
      refine AllReadyH.cons (arr_at rfl) (fun K hK => ?_) (AllReadyH.cons (arr_at rfl) (fun K hK => ?_) AllReadyH.nil)
      · go_simp
        obtain ⟨wp, b11, ex, eb, hq, kpn⟩ := allocB B #[.int .i64 0, .int .i64 0, .int .i64 0, .int .i64 0, .int .i64 0, .slice none 0 0] 74; rw [ex, eb]; have hg11 := k0.lt; have h711 := k7.lt; have h911 := k9.lt; rw [eb] at hg11 h711 h911; have hw11 := B.size; rw [eb] at hw11; (first | (have hT11 := near_apart hTab eb; have hC11 := near_apart hCon eb) | skip); (first | (have hne := kg.lt; rw [eb] at hne; replace hne : b11 ≠ b12 := (by omega)) | skip); clear ex eb; replace k0 := k0.to hq; replace k7 := k7.to hq; replace k9 := k9.to hq; replace B := Bl.then B hq; replace B0 := Bl.then B0 hq; (first | (replace kp := Blk.to kp hq) | skip); (first | (replace kg := Blk.to kg hq) | skip); (first | (replace hTab := Rd.to hTab hq; replace hCon := Rd.to hCon hq) | skip); clear hq; have kp := kpn; clear kpn
        refine hK.out _ _ ?_ (fun hHeld => ?_)
        · (try dsimp only); exact ⟨k0.cell 0, k0.cell 1, k0.cell 2, k0.cell 3, k0.cell 4, k0.cell 5, k0.cell 6, k0.cell 7, k7.cell 0, k7.cell 1, k9.cell 0, k9.cell 1⟩
        clear hK K
        try simp only [Act.put, List.setIfInBounds_toArray, List.set_cons_zero, List.set_cons_succ]
        refine wpAnyH_ready (rs := [13]) (by kernel_rfl) (by simp) ?_
        refine AllReadyH.cons (arr_at rfl) (fun K hK => ?_) AllReadyH.nil
        go_simp
        obtain ⟨wg, b12, ex, eb, hq, kgn⟩ := allocB B #[.int .i64 0, .int .i64 0, .int .i64 0, .slice none 0 0, .slice none 0 0, .int .i64 0, .int .i64 0, .int .i64 0] 44; rw [ex, eb]; have hg12 := k0.lt; have h712 := k7.lt; have h912 := k9.lt; rw [eb] at hg12 h712 h912; have hw12 := B.size; rw [eb] at hw12; (first | (have hT12 := near_apart hTab eb; have hC12 := near_apart hCon eb) | skip); (first | (have hne := kp.lt; rw [eb] at hne; replace hne : b11 ≠ b12 := (by omega)) | skip); clear ex eb; replace k0 := k0.to hq; replace k7 := k7.to hq; replace k9 := k9.to hq; replace B := Bl.then B hq; replace B0 := Bl.then B0 hq; (first | (replace kp := Blk.to kp hq) | skip); (first | (replace kg := Blk.to kg hq) | skip); (first | (replace hTab := Rd.to hTab hq; replace hCon := Rd.to hCon hq) | skip); clear hq; have kg := kgn; clear kgn
        refine hK.out _ _ ?_ (fun hHeld => ?_)
        · (try dsimp only); exact ⟨k0.cell 0, k0.cell 1, k0.cell 2, k0.cell 3, k0.cell 4, k0.cell 5, k0.cell 6, k0.cell 7, k7.cell 0, k7.cell 1, k9.cell 0, k9.cell 1⟩
        clear hK K
        try simp only [Act.put, List.setIfInBounds_toArray, List.set_cons_zero, List.set_cons_succ]
        refine wpAnyH_ready (rs := [14]) (by kernel_rfl) (by simp) ?_
        refine AllReadyH.cons (arr_at rfl) (fun K hK => ?_) AllReadyH.nil
        have e0 := kp.cell 0; have e1 := kp.cell 1; have e2 := kp.cell 2; have e3 := kp.cell 3; have e4 := kp.cell 4; have e5 := kp.cell 5; have f0 := kp.frozen 0; have f1 := kp.frozen 1; have f2 := kp.frozen 2; have f3 := kp.frozen 3; have f4 := kp.frozen 4; have f5 := kp.frozen 5; have hlp := kp.lt; simp only [List.getElem?_toArray, List.getElem?_cons_zero, List.getElem?_cons_succ] at e0 e1 e2 e3 e4 e5; go_simp; clear e0 e1 e2 e3 e4 e5 f0 f1 f2 f3 f4 f5 hlp; obtain ⟨W1, e, z, hf, hb, hr⟩ := put6 kp (.int .i64 0) (.int .i64 qq.fa) (.int .i64 qq.fp) (.int .i64 qq.ta) (.int .i64 qq.tp) (.slice D' 0 dc'); rw [e]; clear e; replace k0 := hf k0 (by omega); replace k7 := hf k7 (by omega); replace k9 := hf k9 (by omega); replace kg := hf kg (Ne.symm hne); replace B := hb B (by omega); replace B0 := hb B0 (by omega); replace hTab := (hr (base := 0)).2 hTab hT11; replace hCon := (hr (base := 0)).2 hCon hC11; replace kp := z; clear z hf hb hr
        refine hK.out _ _ ?_ (fun hHeld => ?_)
        · (try dsimp only); exact ⟨k0.cell 0, k0.cell 1, k0.cell 2, k0.cell 3, k0.cell 4, k0.cell 5, k0.cell 6, k0.cell 7, k7.cell 0, k7.cell 1, k9.cell 0, k9.cell 1⟩
        clear hK K
        try simp only [Act.put, List.setIfInBounds_toArray, List.set_cons_zero, List.set_cons_succ]
        refine wpAnyH_ready (rs := [15]) (by kernel_rfl) (by simp) ?_
        refine AllReadyH.cons (arr_at rfl) (fun K hK => ?_) AllReadyH.nil
        have e0 := kg.cell 0; have e1 := kg.cell 1; have e2 := kg.cell 2; have e3 := kg.cell 3; have e4 := kg.cell 4; have e5 := kg.cell 5; have e6 := kg.cell 6; have e7 := kg.cell 7; have f0 := kg.frozen 0; have f1 := kg.frozen 1; have f2 := kg.frozen 2; have f3 := kg.frozen 3; have f4 := kg.frozen 4; have f5 := kg.frozen 5; have f6 := kg.frozen 6; have f7 := kg.frozen 7; have hlp := kg.lt; simp only [List.getElem?_toArray, List.getElem?_cons_zero, List.getElem?_cons_succ] at e0 e1 e2 e3 e4 e5 e6 e7; go_simp; clear e0 e1 e2 e3 e4 e5 e6 e7 f0 f1 f2 f3 f4 f5 f6 f7 hlp; obtain ⟨W2, e, z, hf, hb, hr⟩ := put8 kg (.int .i64 gg.ba) (.int .i64 gg.bi) (.int .i64 gg.ou) (.slice A' n' c') (.slice C' m' d') (.int .i64 gg.fi) (.int .i64 gg.ho) (.int .i64 gg.no); rw [e]; clear e; replace k0 := hf k0 (by omega); replace k7 := hf k7 (by omega); replace k9 := hf k9 (by omega); replace kp := hf kp (hne); replace B := hb B (by omega); replace B0 := hb B0 (by omega); replace hTab := (hr (base := 0)).2 hTab hT12; replace hCon := (hr (base := 0)).2 hCon hC12; replace kg := z; clear z hf hb hr
        refine hK.out _ _ ?_ (fun hHeld => ?_)
        · (try dsimp only); exact ⟨k0.cell 0, k0.cell 1, k0.cell 2, k0.cell 3, k0.cell 4, k0.cell 5, k0.cell 6, k0.cell 7, k7.cell 0, k7.cell 1, k9.cell 0, k9.cell 1⟩
        clear hK K
        try simp only [Act.put, List.setIfInBounds_toArray, List.set_cons_zero, List.set_cons_succ]
        refine wpAnyH_take (i := 16) (v := ?_) (arr_at rfl) (by kernel_rfl) (by kernel_rfl) (by kernel_rfl) (fun _ _ _ h => h) ?_ (by assumption) ?_
        rotate_left
        · first | (refine Or.inr ⟨by rfl, ?_⟩; with_reducible rfl) | (refine Or.inl ⟨by rfl, ?_⟩; intro w hSw; (try dsimp only at hSw); go_simp; first | done | with_reducible rfl)
        try simp only [Act.put, List.setIfInBounds_toArray, List.set_cons_zero, List.set_cons_succ]
        refine wpAnyH_done (by kernel_rfl) ?_ _
        go_wp2_with fail
        go_meet
        exact ⟨b11, b12, ok, qq, gg, D', dc', A', n', c', C', m', d', rfl, rfl, rfl, k0, kp, kg, HO, hn', hc', hFr, hTab, hm', hd', hFc, hCon, B, B0, hg11, hg12⟩
      · go_simp
        obtain ⟨wg, b12, ex, eb, hq, kgn⟩ := allocB B #[.int .i64 0, .int .i64 0, .int .i64 0, .slice none 0 0, .slice none 0 0, .int .i64 0, .int .i64 0, .int .i64 0] 44; rw [ex, eb]; have hg12 := k0.lt; have h712 := k7.lt; have h912 := k9.lt; rw [eb] at hg12 h712 h912; have hw12 := B.size; rw [eb] at hw12; (first | (have hT12 := near_apart hTab eb; have hC12 := near_apart hCon eb) | skip); (first | (have hne := kp.lt; rw [eb] at hne; replace hne : b11 ≠ b12 := (by omega)) | skip); clear ex eb; replace k0 := k0.to hq; replace k7 := k7.to hq; replace k9 := k9.to hq; replace B := Bl.then B hq; replace B0 := Bl.then B0 hq; (first | (replace kp := Blk.to kp hq) | skip); (first | (replace kg := Blk.to kg hq) | skip); (first | (replace hTab := Rd.to hTab hq; replace hCon := Rd.to hCon hq) | skip); clear hq; have kg := kgn; clear kgn
        refine hK.out _ _ ?_ (fun hHeld => ?_)
        · (try dsimp only); exact ⟨k0.cell 0, k0.cell 1, k0.cell 2, k0.cell 3, k0.cell 4, k0.cell 5, k0.cell 6, k0.cell 7, k7.cell 0, k7.cell 1, k9.cell 0, k9.cell 1⟩
        clear hK K
        try simp only [Act.put, List.setIfInBounds_toArray, List.set_cons_zero, List.set_cons_succ]
        refine wpAnyH_ready (rs := [12]) (by kernel_rfl) (by simp) ?_
        refine AllReadyH.cons (arr_at rfl) (fun K hK => ?_) AllReadyH.nil
        go_simp
        obtain ⟨wp, b11, ex, eb, hq, kpn⟩ := allocB B #[.int .i64 0, .int .i64 0, .int .i64 0, .int .i64 0, .int .i64 0, .slice none 0 0] 74; rw [ex, eb]; have hg11 := k0.lt; have h711 := k7.lt; have h911 := k9.lt; rw [eb] at hg11 h711 h911; have hw11 := B.size; rw [eb] at hw11; (first | (have hT11 := near_apart hTab eb; have hC11 := near_apart hCon eb) | skip); (first | (have hne := kg.lt; rw [eb] at hne; replace hne : b11 ≠ b12 := (by omega)) | skip); clear ex eb; replace k0 := k0.to hq; replace k7 := k7.to hq; replace k9 := k9.to hq; replace B := Bl.then B hq; replace B0 := Bl.then B0 hq; (first | (replace kp := Blk.to kp hq) | skip); (first | (replace kg := Blk.to kg hq) | skip); (first | (replace hTab := Rd.to hTab hq; replace hCon := Rd.to hCon hq) | skip); clear hq; have kp := kpn; clear kpn
        refine hK.out _ _ ?_ (fun hHeld => ?_)
        · (try dsimp only); exact ⟨k0.cell 0, k0.cell 1, k0.cell 2, k0.cell 3, k0.cell 4, k0.cell 5, k0.cell 6, k0.cell 7, k7.cell 0, k7.cell 1, k9.cell 0, k9.cell 1⟩
        clear hK K
        try simp only [Act.put, List.setIfInBounds_toArray, List.set_cons_zero, List.set_cons_succ]
        refine wpAnyH_ready (rs := [14]) (by kernel_rfl) (by simp) ?_
        refine AllReadyH.cons (arr_at rfl) (fun K hK => ?_) AllReadyH.nil
        have e0 := kp.cell 0; have e1 := kp.cell 1; have e2 := kp.cell 2; have e3 := kp.cell 3; have e4 := kp.cell 4; have e5 := kp.cell 5; have f0 := kp.frozen 0; have f1 := kp.frozen 1; have f2 := kp.frozen 2; have f3 := kp.frozen 3; have f4 := kp.frozen 4; have f5 := kp.frozen 5; have hlp := kp.lt; simp only [List.getElem?_toArray, List.getElem?_cons_zero, List.getElem?_cons_succ] at e0 e1 e2 e3 e4 e5; go_simp; clear e0 e1 e2 e3 e4 e5 f0 f1 f2 f3 f4 f5 hlp; obtain ⟨W1, e, z, hf, hb, hr⟩ := put6 kp (.int .i64 0) (.int .i64 qq.fa) (.int .i64 qq.fp) (.int .i64 qq.ta) (.int .i64 qq.tp) (.slice D' 0 dc'); rw [e]; clear e; replace k0 := hf k0 (by omega); replace k7 := hf k7 (by omega); replace k9 := hf k9 (by omega); replace kg := hf kg (Ne.symm hne); replace B := hb B (by omega); replace B0 := hb B0 (by omega); replace hTab := (hr (base := 0)).2 hTab hT11; replace hCon := (hr (base := 0)).2 hCon hC11; replace kp := z; clear z hf hb hr
        refine hK.out _ _ ?_ (fun hHeld => ?_)
        · (try dsimp only); exact ⟨k0.cell 0, k0.cell 1, k0.cell 2, k0.cell 3, k0.cell 4, k0.cell 5, k0.cell 6, k0.cell 7, k7.cell 0, k7.cell 1, k9.cell 0, k9.cell 1⟩
        clear hK K
        try simp only [Act.put, List.setIfInBounds_toArray, List.set_cons_zero, List.set_cons_succ]
        refine wpAnyH_ready (rs := [15]) (by kernel_rfl) (by simp) ?_
        refine AllReadyH.cons (arr_at rfl) (fun K hK => ?_) AllReadyH.nil
        have e0 := kg.cell 0; have e1 := kg.cell 1; have e2 := kg.cell 2; have e3 := kg.cell 3; have e4 := kg.cell 4; have e5 := kg.cell 5; have e6 := kg.cell 6; have e7 := kg.cell 7; have f0 := kg.frozen 0; have f1 := kg.frozen 1; have f2 := kg.frozen 2; have f3 := kg.frozen 3; have f4 := kg.frozen 4; have f5 := kg.frozen 5; have f6 := kg.frozen 6; have f7 := kg.frozen 7; have hlp := kg.lt; simp only [List.getElem?_toArray, List.getElem?_cons_zero, List.getElem?_cons_succ] at e0 e1 e2 e3 e4 e5 e6 e7; go_simp; clear e0 e1 e2 e3 e4 e5 e6 e7 f0 f1 f2 f3 f4 f5 f6 f7 hlp; obtain ⟨W2, e, z, hf, hb, hr⟩ := put8 kg (.int .i64 gg.ba) (.int .i64 gg.bi) (.int .i64 gg.ou) (.slice A' n' c') (.slice C' m' d') (.int .i64 gg.fi) (.int .i64 gg.ho) (.int .i64 gg.no); rw [e]; clear e; replace k0 := hf k0 (by omega); replace k7 := hf k7 (by omega); replace k9 := hf k9 (by omega); replace kp := hf kp (hne); replace B := hb B (by omega); replace B0 := hb B0 (by omega); replace hTab := (hr (base := 0)).2 hTab hT12; replace hCon := (hr (base := 0)).2 hCon hC12; replace kg := z; clear z hf hb hr
        refine hK.out _ _ ?_ (fun hHeld => ?_)
        · (try dsimp only); exact ⟨k0.cell 0, k0.cell 1, k0.cell 2, k0.cell 3, k0.cell 4, k0.cell 5, k0.cell 6, k0.cell 7, k7.cell 0, k7.cell 1, k9.cell 0, k9.cell 1⟩
        clear hK K
        try simp only [Act.put, List.setIfInBounds_toArray, List.set_cons_zero, List.set_cons_succ]
        refine wpAnyH_take (i := 16) (v := ?_) (arr_at rfl) (by kernel_rfl) (by kernel_rfl) (by kernel_rfl) (fun _ _ _ h => h) ?_ (by assumption) ?_
        rotate_left
        · first | (refine Or.inr ⟨by rfl, ?_⟩; with_reducible rfl) | (refine Or.inl ⟨by rfl, ?_⟩; intro w hSw; (try dsimp only at hSw); go_simp; first | done | with_reducible rfl)
        try simp only [Act.put, List.setIfInBounds_toArray, List.set_cons_zero, List.set_cons_succ]
        refine wpAnyH_done (by kernel_rfl) ?_ _
        go_wp2_with fail
        go_meet
        exact ⟨b11, b12, ok, qq, gg, D', dc', A', n', c', C', m', d', rfl, rfl, rfl, k0, kp, kg, HO, hn', hc', hFr, hTab, hm', hd', hFc, hCon, B, B0, hg11, hg12⟩
    · go_simp
      obtain ⟨wp, b11, ex, eb, hq, kpn⟩ := allocB B #[.int .i64 0, .int .i64 0, .int .i64 0, .int .i64 0, .int .i64 0, .slice none 0 0] 74; rw [ex, eb]; have hg11 := k0.lt; have h711 := k7.lt; have h911 := k9.lt; rw [eb] at hg11 h711 h911; have hw11 := B.size; rw [eb] at hw11; (first | (have hT11 := near_apart hTab eb; have hC11 := near_apart hCon eb) | skip); (first | (have hne := kg.lt; rw [eb] at hne; replace hne : b11 ≠ b12 := (by omega)) | skip); clear ex eb; replace k0 := k0.to hq; replace k7 := k7.to hq; replace k9 := k9.to hq; replace B := Bl.then B hq; replace B0 := Bl.then B0 hq; (first | (replace kp := Blk.to kp hq) | skip); (first | (replace kg := Blk.to kg hq) | skip); (first | (replace hTab := Rd.to hTab hq; replace hCon := Rd.to hCon hq) | skip); clear hq; have kp := kpn; clear kpn
      refine hK.out _ _ ?_ (fun hHeld => ?_)
      · (try dsimp only); exact ⟨k0.cell 0, k0.cell 1, k0.cell 2, k0.cell 3, k0.cell 4, k0.cell 5, k0.cell 6, k0.cell 7, k7.cell 0, k7.cell 1, k9.cell 0, k9.cell 1⟩
      clear hK K
      try simp only [Act.put, List.setIfInBounds_toArray, List.set_cons_zero, List.set_cons_succ]
      refine wpAnyH_ready (rs := [7, 13]) (by kernel_rfl) (by simp) ?_
      refine AllReadyH.cons (arr_at rfl) (fun K hK => ?_) (AllReadyH.cons (arr_at rfl) (fun K hK => ?_) AllReadyH.nil)
      · go_simp
        go_at_call 50; refine (c_sForward g ⟨a1, a2, b1, b2⟩ A n c C m d none 0 _ HV.out HPK.out HN.out (HA.out _ B) HM.out (HC.out _ B)).mono ?_; rintro e wF ⟨hq, qq, gg, D', dc', A', n', c', C', m', d', ok, rfl, HO, hn', hc', hFr, hTab, hm', hd', hFc, hCon⟩; (first | (have hT11 := fr_apart (vs := mapCs gg.tb) hFr kp.lt; have hC11 := fr_apart (vs := conCs gg.cs) hFc kp.lt) | skip); (first | (have hT12 := fr_apart (vs := mapCs gg.tb) hFr kg.lt; have hC12 := fr_apart (vs := conCs gg.cs) hFc kg.lt) | skip); replace hFr := hFr.low (c := w.heap.size) B.size; replace hFc := hFc.low (c := w.heap.size) B.size; have hq9 := hq; replace hTab : TM wF A' gg.tb := hTab; replace k0 := k0.to hq; replace k7 := k7.to hq; replace k9 := k9.to hq; replace B := Bl.then B hq; replace B0 := Bl.then B0 hq; (first | (replace kp := Blk.to kp hq) | skip); (first | (replace kg := Blk.to kg hq) | skip); clear hq hq9
        refine hK.out _ _ ?_ (fun hHeld => ?_)
        · (try dsimp only); exact ⟨k0.cell 0, k0.cell 1, k0.cell 2, k0.cell 3, k0.cell 4, k0.cell 5, k0.cell 6, k0.cell 7, k7.cell 0, k7.cell 1, k9.cell 0, k9.cell 1⟩
        clear hK K
        try simp only [Act.put, List.setIfInBounds_toArray, List.set_cons_zero, List.set_cons_succ]
        refine wpAnyH_take (i := 8) (v := ?_) (arr_at rfl) (by kernel_rfl) (by kernel_rfl) (by kernel_rfl) (fun _ _ _ h => h) ?_ (by assumption) ?_
        rotate_left
        · first | (refine Or.inr ⟨by rfl, ?_⟩; with_reducible rfl) | (refine Or.inl ⟨by rfl, ?_⟩; intro w hSw; (try dsimp only at hSw); go_simp; first | done | with_reducible rfl)
        try simp only [Act.put, List.setIfInBounds_toArray, List.set_cons_zero, List.set_cons_succ]
        refine wpAnyH_take (i := 9) (v := ?_) (arr_at rfl) (by kernel_rfl) (by kernel_rfl) (by kernel_rfl) (fun _ _ _ h => h) ?_ (by assumption) ?_
        rotate_left
        · first | (refine Or.inr ⟨by rfl, ?_⟩; with_reducible rfl) | (refine Or.inl ⟨by rfl, ?_⟩; intro w hSw; (try dsimp only at hSw); go_simp; first | done | with_reducible rfl)
        try simp only [Act.put, List.setIfInBounds_toArray, List.set_cons_zero, List.set_cons_succ]
        refine wpAnyH_take (i := 10) (v := ?_) (arr_at rfl) (by kernel_rfl) (by kernel_rfl) (by kernel_rfl) (fun _ _ _ h => h) ?_ (by assumption) ?_
        rotate_left
        · first | (refine Or.inr ⟨by rfl, ?_⟩; with_reducible rfl) | (refine Or.inl ⟨by rfl, ?_⟩; intro w hSw; (try dsimp only at hSw); go_simp; first | done | with_reducible rfl)
        try simp only [Act.put, List.setIfInBounds_toArray, List.set_cons_zero, List.set_cons_succ]
        refine wpAnyH_take (i := 11) (v := ?_) (arr_at rfl) (by kernel_rfl) (by kernel_rfl) (by kernel_rfl) (fun _ _ _ h => h) ?_ (by assumption) ?_
        rotate_left
        · first | (refine Or.inr ⟨by rfl, ?_⟩; with_reducible rfl) | (refine Or.inl ⟨by rfl, ?_⟩; intro w hSw; (try dsimp only at hSw); go_simp; first | done | with_reducible rfl)
        try simp only [Act.put, List.setIfInBounds_toArray, List.set_cons_zero, List.set_cons_succ]
        refine wpAnyH_ready (rs := [13]) (by kernel_rfl) (by simp) ?_
        refine AllReadyH.cons (arr_at rfl) (fun K hK => ?_) AllReadyH.nil
        go_simp
        obtain ⟨wg, b12, ex, eb, hq, kgn⟩ := allocB B #[.int .i64 0, .int .i64 0, .int .i64 0, .slice none 0 0, .slice none 0 0, .int .i64 0, .int .i64 0, .int .i64 0] 44; rw [ex, eb]; have hg12 := k0.lt; have h712 := k7.lt; have h912 := k9.lt; rw [eb] at hg12 h712 h912; have hw12 := B.size; rw [eb] at hw12; (first | (have hT12 := near_apart hTab eb; have hC12 := near_apart hCon eb) | skip); (first | (have hne := kp.lt; rw [eb] at hne; replace hne : b11 ≠ b12 := (by omega)) | skip); clear ex eb; replace k0 := k0.to hq; replace k7 := k7.to hq; replace k9 := k9.to hq; replace B := Bl.then B hq; replace B0 := Bl.then B0 hq; (first | (replace kp := Blk.to kp hq) | skip); (first | (replace kg := Blk.to kg hq) | skip); (first | (replace hTab := Rd.to hTab hq; replace hCon := Rd.to hCon hq) | skip); clear hq; have kg := kgn; clear kgn
        refine hK.out _ _ ?_ (fun hHeld => ?_)
        · (try dsimp only); exact ⟨k0.cell 0, k0.cell 1, k0.cell 2, k0.cell 3, k0.cell 4, k0.cell 5, k0.cell 6, k0.cell 7, k7.cell 0, k7.cell 1, k9.cell 0, k9.cell 1⟩
        clear hK K
        try simp only [Act.put, List.setIfInBounds_toArray, List.set_cons_zero, List.set_cons_succ]
        refine wpAnyH_ready (rs := [14]) (by kernel_rfl) (by simp) ?_
        refine AllReadyH.cons (arr_at rfl) (fun K hK => ?_) AllReadyH.nil
        have e0 := kp.cell 0; have e1 := kp.cell 1; have e2 := kp.cell 2; have e3 := kp.cell 3; have e4 := kp.cell 4; have e5 := kp.cell 5; have f0 := kp.frozen 0; have f1 := kp.frozen 1; have f2 := kp.frozen 2; have f3 := kp.frozen 3; have f4 := kp.frozen 4; have f5 := kp.frozen 5; have hlp := kp.lt; simp only [List.getElem?_toArray, List.getElem?_cons_zero, List.getElem?_cons_succ] at e0 e1 e2 e3 e4 e5; go_simp; clear e0 e1 e2 e3 e4 e5 f0 f1 f2 f3 f4 f5 hlp; obtain ⟨W1, e, z, hf, hb, hr⟩ := put6 kp (.int .i64 0) (.int .i64 qq.fa) (.int .i64 qq.fp) (.int .i64 qq.ta) (.int .i64 qq.tp) (.slice D' 0 dc'); rw [e]; clear e; replace k0 := hf k0 (by omega); replace k7 := hf k7 (by omega); replace k9 := hf k9 (by omega); replace kg := hf kg (Ne.symm hne); replace B := hb B (by omega); replace B0 := hb B0 (by omega); replace hTab := (hr (base := 0)).2 hTab hT11; replace hCon := (hr (base := 0)).2 hCon hC11; replace kp := z; clear z hf hb hr
        refine hK.out _ _ ?_ (fun hHeld => ?_)
        · (try dsimp only); exact ⟨k0.cell 0, k0.cell 1, k0.cell 2, k0.cell 3, k0.cell 4, k0.cell 5, k0.cell 6, k0.cell 7, k7.cell 0, k7.cell 1, k9.cell 0, k9.cell 1⟩
        clear hK K
        try simp only [Act.put, List.setIfInBounds_toArray, List.set_cons_zero, List.set_cons_succ]
        refine wpAnyH_ready (rs := [15]) (by kernel_rfl) (by simp) ?_
        refine AllReadyH.cons (arr_at rfl) (fun K hK => ?_) AllReadyH.nil
        have e0 := kg.cell 0; have e1 := kg.cell 1; have e2 := kg.cell 2; have e3 := kg.cell 3; have e4 := kg.cell 4; have e5 := kg.cell 5; have e6 := kg.cell 6; have e7 := kg.cell 7; have f0 := kg.frozen 0; have f1 := kg.frozen 1; have f2 := kg.frozen 2; have f3 := kg.frozen 3; have f4 := kg.frozen 4; have f5 := kg.frozen 5; have f6 := kg.frozen 6; have f7 := kg.frozen 7; have hlp := kg.lt; simp only [List.getElem?_toArray, List.getElem?_cons_zero, List.getElem?_cons_succ] at e0 e1 e2 e3 e4 e5 e6 e7; go_simp; clear e0 e1 e2 e3 e4 e5 e6 e7 f0 f1 f2 f3 f4 f5 f6 f7 hlp; obtain ⟨W2, e, z, hf, hb, hr⟩ := put8 kg (.int .i64 gg.ba) (.int .i64 gg.bi) (.int .i64 gg.ou) (.slice A' n' c') (.slice C' m' d') (.int .i64 gg.fi) (.int .i64 gg.ho) (.int .i64 gg.no); rw [e]; clear e; replace k0 := hf k0 (by omega); replace k7 := hf k7 (by omega); replace k9 := hf k9 (by omega); replace kp := hf kp (hne); replace B := hb B (by omega); replace B0 := hb B0 (by omega); replace hTab := (hr (base := 0)).2 hTab hT12; replace hCon := (hr (base := 0)).2 hCon hC12; replace kg := z; clear z hf hb hr
        refine hK.out _ _ ?_ (fun hHeld => ?_)
        · (try dsimp only); exact ⟨k0.cell 0, k0.cell 1, k0.cell 2, k0.cell 3, k0.cell 4, k0.cell 5, k0.cell 6, k0.cell 7, k7.cell 0, k7.cell 1, k9.cell 0, k9.cell 1⟩
        clear hK K
        try simp only [Act.put, List.setIfInBounds_toArray, List.set_cons_zero, List.set_cons_succ]
        refine wpAnyH_take (i := 16) (v := ?_) (arr_at rfl) (by kernel_rfl) (by kernel_rfl) (by kernel_rfl) (fun _ _ _ h => h) ?_ (by assumption) ?_
        rotate_left
        · first | (refine Or.inr ⟨by rfl, ?_⟩; with_reducible rfl) | (refine Or.inl ⟨by rfl, ?_⟩; intro w hSw; (try dsimp only at hSw); go_simp; first | done | with_reducible rfl)
        try simp only [Act.put, List.setIfInBounds_toArray, List.set_cons_zero, List.set_cons_succ]
        refine wpAnyH_done (by kernel_rfl) ?_ _
        go_wp2_with fail
        go_meet
        exact ⟨b11, b12, ok, qq, gg, D', dc', A', n', c', C', m', d', rfl, rfl, rfl, k0, kp, kg, HO, hn', hc', hFr, hTab, hm', hd', hFc, hCon, B, B0, hg11, hg12⟩
      · go_simp
        obtain ⟨wg, b12, ex, eb, hq, kgn⟩ := allocB B #[.int .i64 0, .int .i64 0, .int .i64 0, .slice none 0 0, .slice none 0 0, .int .i64 0, .int .i64 0, .int .i64 0] 44; rw [ex, eb]; have hg12 := k0.lt; have h712 := k7.lt; have h912 := k9.lt; rw [eb] at hg12 h712 h912; have hw12 := B.size; rw [eb] at hw12; (first | (have hT12 := near_apart hTab eb; have hC12 := near_apart hCon eb) | skip); (first | (have hne := kp.lt; rw [eb] at hne; replace hne : b11 ≠ b12 := (by omega)) | skip); clear ex eb; replace k0 := k0.to hq; replace k7 := k7.to hq; replace k9 := k9.to hq; replace B := Bl.then B hq; replace B0 := Bl.then B0 hq; (first | (replace kp := Blk.to kp hq) | skip); (first | (replace kg := Blk.to kg hq) | skip); (first | (replace hTab := Rd.to hTab hq; replace hCon := Rd.to hCon hq) | skip); clear hq; have kg := kgn; clear kgn
        refine hK.out _ _ ?_ (fun hHeld => ?_)
        · (try dsimp only); exact ⟨k0.cell 0, k0.cell 1, k0.cell 2, k0.cell 3, k0.cell 4, k0.cell 5, k0.cell 6, k0.cell 7, k7.cell 0, k7.cell 1, k9.cell 0, k9.cell 1⟩
        clear hK K
        try simp only [Act.put, List.setIfInBounds_toArray, List.set_cons_zero, List.set_cons_succ]
        refine wpAnyH_ready (rs := [7]) (by kernel_rfl) (by simp) ?_
        refine AllReadyH.cons (arr_at rfl) (fun K hK => ?_) AllReadyH.nil
        go_simp
        go_at_call 50; refine (c_sForward g ⟨a1, a2, b1, b2⟩ A n c C m d none 0 _ HV.out HPK.out HN.out (HA.out _ B) HM.out (HC.out _ B)).mono ?_; rintro e wF ⟨hq, qq, gg, D', dc', A', n', c', C', m', d', ok, rfl, HO, hn', hc', hFr, hTab, hm', hd', hFc, hCon⟩; (first | (have hT11 := fr_apart (vs := mapCs gg.tb) hFr kp.lt; have hC11 := fr_apart (vs := conCs gg.cs) hFc kp.lt) | skip); (first | (have hT12 := fr_apart (vs := mapCs gg.tb) hFr kg.lt; have hC12 := fr_apart (vs := conCs gg.cs) hFc kg.lt) | skip); replace hFr := hFr.low (c := w.heap.size) B.size; replace hFc := hFc.low (c := w.heap.size) B.size; have hq9 := hq; replace hTab : TM wF A' gg.tb := hTab; replace k0 := k0.to hq; replace k7 := k7.to hq; replace k9 := k9.to hq; replace B := Bl.then B hq; replace B0 := Bl.then B0 hq; (first | (replace kp := Blk.to kp hq) | skip); (first | (replace kg := Blk.to kg hq) | skip); clear hq hq9
        refine hK.out _ _ ?_ (fun hHeld => ?_)
        · (try dsimp only); exact ⟨k0.cell 0, k0.cell 1, k0.cell 2, k0.cell 3, k0.cell 4, k0.cell 5, k0.cell 6, k0.cell 7, k7.cell 0, k7.cell 1, k9.cell 0, k9.cell 1⟩
        clear hK K
        try simp only [Act.put, List.setIfInBounds_toArray, List.set_cons_zero, List.set_cons_succ]
        refine wpAnyH_take (i := 8) (v := ?_) (arr_at rfl) (by kernel_rfl) (by kernel_rfl) (by kernel_rfl) (fun _ _ _ h => h) ?_ (by assumption) ?_
        rotate_left
        · first | (refine Or.inr ⟨by rfl, ?_⟩; with_reducible rfl) | (refine Or.inl ⟨by rfl, ?_⟩; intro w hSw; (try dsimp only at hSw); go_simp; first | done | with_reducible rfl)
        try simp only [Act.put, List.setIfInBounds_toArray, List.set_cons_zero, List.set_cons_succ]
        refine wpAnyH_take (i := 9) (v := ?_) (arr_at rfl) (by kernel_rfl) (by kernel_rfl) (by kernel_rfl) (fun _ _ _ h => h) ?_ (by assumption) ?_
        rotate_left
        · first | (refine Or.inr ⟨by rfl, ?_⟩; with_reducible rfl) | (refine Or.inl ⟨by rfl, ?_⟩; intro w hSw; (try dsimp only at hSw); go_simp; first | done | with_reducible rfl)
        try simp only [Act.put, List.setIfInBounds_toArray, List.set_cons_zero, List.set_cons_succ]
        refine wpAnyH_take (i := 10) (v := ?_) (arr_at rfl) (by kernel_rfl) (by kernel_rfl) (by kernel_rfl) (fun _ _ _ h => h) ?_ (by assumption) ?_
        rotate_left
        · first | (refine Or.inr ⟨by rfl, ?_⟩; with_reducible rfl) | (refine Or.inl ⟨by rfl, ?_⟩; intro w hSw; (try dsimp only at hSw); go_simp; first | done | with_reducible rfl)
        try simp only [Act.put, List.setIfInBounds_toArray, List.set_cons_zero, List.set_cons_succ]
        refine wpAnyH_take (i := 11) (v := ?_) (arr_at rfl) (by kernel_rfl) (by kernel_rfl) (by kernel_rfl) (fun _ _ _ h => h) ?_ (by assumption) ?_
        rotate_left
        · first | (refine Or.inr ⟨by rfl, ?_⟩; with_reducible rfl) | (refine Or.inl ⟨by rfl, ?_⟩; intro w hSw; (try dsimp only at hSw); go_simp; first | done | with_reducible rfl)
        try simp only [Act.put, List.setIfInBounds_toArray, List.set_cons_zero, List.set_cons_succ]
        refine wpAnyH_ready (rs := [14]) (by kernel_rfl) (by simp) ?_
        refine AllReadyH.cons (arr_at rfl) (fun K hK => ?_) AllReadyH.nil
        have e0 := kp.cell 0; have e1 := kp.cell 1; have e2 := kp.cell 2; have e3 := kp.cell 3; have e4 := kp.cell 4; have e5 := kp.cell 5; have f0 := kp.frozen 0; have f1 := kp.frozen 1; have f2 := kp.frozen 2; have f3 := kp.frozen 3; have f4 := kp.frozen 4; have f5 := kp.frozen 5; have hlp := kp.lt; simp only [List.getElem?_toArray, List.getElem?_cons_zero, List.getElem?_cons_succ] at e0 e1 e2 e3 e4 e5; go_simp; clear e0 e1 e2 e3 e4 e5 f0 f1 f2 f3 f4 f5 hlp; obtain ⟨W1, e, z, hf, hb, hr⟩ := put6 kp (.int .i64 0) (.int .i64 qq.fa) (.int .i64 qq.fp) (.int .i64 qq.ta) (.int .i64 qq.tp) (.slice D' 0 dc'); rw [e]; clear e; replace k0 := hf k0 (by omega); replace k7 := hf k7 (by omega); replace k9 := hf k9 (by omega); replace kg := hf kg (Ne.symm hne); replace B := hb B (by omega); replace B0 := hb B0 (by omega); replace hTab := (hr (base := 0)).2 hTab hT11; replace hCon := (hr (base := 0)).2 hCon hC11; replace kp := z; clear z hf hb hr
        refine hK.out _ _ ?_ (fun hHeld => ?_)
        · (try dsimp only); exact ⟨k0.cell 0, k0.cell 1, k0.cell 2, k0.cell 3, k0.cell 4, k0.cell 5, k0.cell 6, k0.cell 7, k7.cell 0, k7.cell 1, k9.cell 0, k9.cell 1⟩
        clear hK K
        try simp only [Act.put, List.setIfInBounds_toArray, List.set_cons_zero, List.set_cons_succ]
        refine wpAnyH_ready (rs := [15]) (by kernel_rfl) (by simp) ?_
        refine AllReadyH.cons (arr_at rfl) (fun K hK => ?_) AllReadyH.nil
        have e0 := kg.cell 0; have e1 := kg.cell 1; have e2 := kg.cell 2; have e3 := kg.cell 3; have e4 := kg.cell 4; have e5 := kg.cell 5; have e6 := kg.cell 6; have e7 := kg.cell 7; have f0 := kg.frozen 0; have f1 := kg.frozen 1; have f2 := kg.frozen 2; have f3 := kg.frozen 3; have f4 := kg.frozen 4; have f5 := kg.frozen 5; have f6 := kg.frozen 6; have f7 := kg.frozen 7; have hlp := kg.lt; simp only [List.getElem?_toArray, List.getElem?_cons_zero, List.getElem?_cons_succ] at e0 e1 e2 e3 e4 e5 e6 e7; go_simp; clear e0 e1 e2 e3 e4 e5 e6 e7 f0 f1 f2 f3 f4 f5 f6 f7 hlp; obtain ⟨W2, e, z, hf, hb, hr⟩ := put8 kg (.int .i64 gg.ba) (.int .i64 gg.bi) (.int .i64 gg.ou) (.slice A' n' c') (.slice C' m' d') (.int .i64 gg.fi) (.int .i64 gg.ho) (.int .i64 gg.no); rw [e]; clear e; replace k0 := hf k0 (by omega); replace k7 := hf k7 (by omega); replace k9 := hf k9 (by omega); replace kp := hf kp (hne); replace B := hb B (by omega); replace B0 := hb B0 (by omega); replace hTab := (hr (base := 0)).2 hTab hT12; replace hCon := (hr (base := 0)).2 hCon hC12; replace kg := z; clear z hf hb hr
        refine hK.out _ _ ?_ (fun hHeld => ?_)
        · (try dsimp only); exact ⟨k0.cell 0, k0.cell 1, k0.cell 2, k0.cell 3, k0.cell 4, k0.cell 5, k0.cell 6, k0.cell 7, k7.cell 0, k7.cell 1, k9.cell 0, k9.cell 1⟩
        clear hK K
        try simp only [Act.put, List.setIfInBounds_toArray, List.set_cons_zero, List.set_cons_succ]
        refine wpAnyH_take (i := 16) (v := ?_) (arr_at rfl) (by kernel_rfl) (by kernel_rfl) (by kernel_rfl) (fun _ _ _ h => h) ?_ (by assumption) ?_
        rotate_left
        · first | (refine Or.inr ⟨by rfl, ?_⟩; with_reducible rfl) | (refine Or.inl ⟨by rfl, ?_⟩; intro w hSw; (try dsimp only at hSw); go_simp; first | done | with_reducible rfl)
        try simp only [Act.put, List.setIfInBounds_toArray, List.set_cons_zero, List.set_cons_succ]
        refine wpAnyH_done (by kernel_rfl) ?_ _
        go_wp2_with fail
        go_meet
        exact ⟨b11, b12, ok, qq, gg, D', dc', A', n', c', C', m', d', rfl, rfl, rfl, k0, kp, kg, HO, hn', hc', hFr, hTab, hm', hd', hFc, hCon, B, B0, hg11, hg12⟩
    · go_simp
      obtain ⟨wg, b12, ex, eb, hq, kgn⟩ := allocB B #[.int .i64 0, .int .i64 0, .int .i64 0, .slice none 0 0, .slice none 0 0, .int .i64 0, .int .i64 0, .int .i64 0] 44; rw [ex, eb]; have hg12 := k0.lt; have h712 := k7.lt; have h912 := k9.lt; rw [eb] at hg12 h712 h912; have hw12 := B.size; rw [eb] at hw12; (first | (have hT12 := near_apart hTab eb; have hC12 := near_apart hCon eb) | skip); (first | (have hne := kp.lt; rw [eb] at hne; replace hne : b11 ≠ b12 := (by omega)) | skip); clear ex eb; replace k0 := k0.to hq; replace k7 := k7.to hq; replace k9 := k9.to hq; replace B := Bl.then B hq; replace B0 := Bl.then B0 hq; (first | (replace kp := Blk.to kp hq) | skip); (first | (replace kg := Blk.to kg hq) | skip); (first | (replace hTab := Rd.to hTab hq; replace hCon := Rd.to hCon hq) | skip); clear hq; have kg := kgn; clear kgn
      refine hK.out _ _ ?_ (fun hHeld => ?_)
      · (try dsimp only); exact ⟨k0.cell 0, k0.cell 1, k0.cell 2, k0.cell 3, k0.cell 4, k0.cell 5, k0.cell 6, k0.cell 7, k7.cell 0, k7.cell 1, k9.cell 0, k9.cell 1⟩
      clear hK K
      try simp only [Act.put, List.setIfInBounds_toArray, List.set_cons_zero, List.set_cons_succ]
      refine wpAnyH_ready (rs := [7, 12]) (by kernel_rfl) (by simp) ?_
      refine AllReadyH.cons (arr_at rfl) (fun K hK => ?_) (AllReadyH.cons (arr_at rfl) (fun K hK => ?_) AllReadyH.nil)
      · go_simp
        go_at_call 50; refine (c_sForward g ⟨a1, a2, b1, b2⟩ A n c C m d none 0 _ HV.out HPK.out HN.out (HA.out _ B) HM.out (HC.out _ B)).mono ?_; rintro e wF ⟨hq, qq, gg, D', dc', A', n', c', C', m', d', ok, rfl, HO, hn', hc', hFr, hTab, hm', hd', hFc, hCon⟩; (first | (have hT11 := fr_apart (vs := mapCs gg.tb) hFr kp.lt; have hC11 := fr_apart (vs := conCs gg.cs) hFc kp.lt) | skip); (first | (have hT12 := fr_apart (vs := mapCs gg.tb) hFr kg.lt; have hC12 := fr_apart (vs := conCs gg.cs) hFc kg.lt) | skip); replace hFr := hFr.low (c := w.heap.size) B.size; replace hFc := hFc.low (c := w.heap.size) B.size; have hq9 := hq; replace hTab : TM wF A' gg.tb := hTab; replace k0 := k0.to hq; replace k7 := k7.to hq; replace k9 := k9.to hq; replace B := Bl.then B hq; replace B0 := Bl.then B0 hq; (first | (replace kp := Blk.to kp hq) | skip); (first | (replace kg := Blk.to kg hq) | skip); clear hq hq9
        refine hK.out _ _ ?_ (fun hHeld => ?_)
        · (try dsimp only); exact ⟨k0.cell 0, k0.cell 1, k0.cell 2, k0.cell 3, k0.cell 4, k0.cell 5, k0.cell 6, k0.cell 7, k7.cell 0, k7.cell 1, k9.cell 0, k9.cell 1⟩
        clear hK K
        try simp only [Act.put, List.setIfInBounds_toArray, List.set_cons_zero, List.set_cons_succ]
        refine wpAnyH_take (i := 8) (v := ?_) (arr_at rfl) (by kernel_rfl) (by kernel_rfl) (by kernel_rfl) (fun _ _ _ h => h) ?_ (by assumption) ?_
        rotate_left
        · first | (refine Or.inr ⟨by rfl, ?_⟩; with_reducible rfl) | (refine Or.inl ⟨by rfl, ?_⟩; intro w hSw; (try dsimp only at hSw); go_simp; first | done | with_reducible rfl)
        try simp only [Act.put, List.setIfInBounds_toArray, List.set_cons_zero, List.set_cons_succ]
        refine wpAnyH_take (i := 9) (v := ?_) (arr_at rfl) (by kernel_rfl) (by kernel_rfl) (by kernel_rfl) (fun _ _ _ h => h) ?_ (by assumption) ?_
        rotate_left
        · first | (refine Or.inr ⟨by rfl, ?_⟩; with_reducible rfl) | (refine Or.inl ⟨by rfl, ?_⟩; intro w hSw; (try dsimp only at hSw); go_simp; first | done | with_reducible rfl)
        try simp only [Act.put, List.setIfInBounds_toArray, List.set_cons_zero, List.set_cons_succ]
        refine wpAnyH_take (i := 10) (v := ?_) (arr_at rfl) (by kernel_rfl) (by kernel_rfl) (by kernel_rfl) (fun _ _ _ h => h) ?_ (by assumption) ?_
        rotate_left
        · first | (refine Or.inr ⟨by rfl, ?_⟩; with_reducible rfl) | (refine Or.inl ⟨by rfl, ?_⟩; intro w hSw; (try dsimp only at hSw); go_simp; first | done | with_reducible rfl)
        try simp only [Act.put, List.setIfInBounds_toArray, List.set_cons_zero, List.set_cons_succ]
        refine wpAnyH_take (i := 11) (v := ?_) (arr_at rfl) (by kernel_rfl) (by kernel_rfl) (by kernel_rfl) (fun _ _ _ h => h) ?_ (by assumption) ?_
        rotate_left
        · first | (refine Or.inr ⟨by rfl, ?_⟩; with_reducible rfl) | (refine Or.inl ⟨by rfl, ?_⟩; intro w hSw; (try dsimp only at hSw); go_simp; first | done | with_reducible rfl)
        try simp only [Act.put, List.setIfInBounds_toArray, List.set_cons_zero, List.set_cons_succ]
        refine wpAnyH_ready (rs := [12]) (by kernel_rfl) (by simp) ?_
        refine AllReadyH.cons (arr_at rfl) (fun K hK => ?_) AllReadyH.nil
        go_simp
        obtain ⟨wp, b11, ex, eb, hq, kpn⟩ := allocB B #[.int .i64 0, .int .i64 0, .int .i64 0, .int .i64 0, .int .i64 0, .slice none 0 0] 74; rw [ex, eb]; have hg11 := k0.lt; have h711 := k7.lt; have h911 := k9.lt; rw [eb] at hg11 h711 h911; have hw11 := B.size; rw [eb] at hw11; (first | (have hT11 := near_apart hTab eb; have hC11 := near_apart hCon eb) | skip); (first | (have hne := kg.lt; rw [eb] at hne; replace hne : b11 ≠ b12 := (by omega)) | skip); clear ex eb; replace k0 := k0.to hq; replace k7 := k7.to hq; replace k9 := k9.to hq; replace B := Bl.then B hq; replace B0 := Bl.then B0 hq; (first | (replace kp := Blk.to kp hq) | skip); (first | (replace kg := Blk.to kg hq) | skip); (first | (replace hTab := Rd.to hTab hq; replace hCon := Rd.to hCon hq) | skip); clear hq; have kp := kpn; clear kpn
        refine hK.out _ _ ?_ (fun hHeld => ?_)
        · (try dsimp only); exact ⟨k0.cell 0, k0.cell 1, k0.cell 2, k0.cell 3, k0.cell 4, k0.cell 5, k0.cell 6, k0.cell 7, k7.cell 0, k7.cell 1, k9.cell 0, k9.cell 1⟩
        clear hK K
        try simp only [Act.put, List.setIfInBounds_toArray, List.set_cons_zero, List.set_cons_succ]
        refine wpAnyH_ready (rs := [14]) (by kernel_rfl) (by simp) ?_
        refine AllReadyH.cons (arr_at rfl) (fun K hK => ?_) AllReadyH.nil
        have e0 := kp.cell 0; have e1 := kp.cell 1; have e2 := kp.cell 2; have e3 := kp.cell 3; have e4 := kp.cell 4; have e5 := kp.cell 5; have f0 := kp.frozen 0; have f1 := kp.frozen 1; have f2 := kp.frozen 2; have f3 := kp.frozen 3; have f4 := kp.frozen 4; have f5 := kp.frozen 5; have hlp := kp.lt; simp only [List.getElem?_toArray, List.getElem?_cons_zero, List.getElem?_cons_succ] at e0 e1 e2 e3 e4 e5; go_simp; clear e0 e1 e2 e3 e4 e5 f0 f1 f2 f3 f4 f5 hlp; obtain ⟨W1, e, z, hf, hb, hr⟩ := put6 kp (.int .i64 0) (.int .i64 qq.fa) (.int .i64 qq.fp) (.int .i64 qq.ta) (.int .i64 qq.tp) (.slice D' 0 dc'); rw [e]; clear e; replace k0 := hf k0 (by omega); replace k7 := hf k7 (by omega); replace k9 := hf k9 (by omega); replace kg := hf kg (Ne.symm hne); replace B := hb B (by omega); replace B0 := hb B0 (by omega); replace hTab := (hr (base := 0)).2 hTab hT11; replace hCon := (hr (base := 0)).2 hCon hC11; replace kp := z; clear z hf hb hr
        refine hK.out _ _ ?_ (fun hHeld => ?_)
        · (try dsimp only); exact ⟨k0.cell 0, k0.cell 1, k0.cell 2, k0.cell 3, k0.cell 4, k0.cell 5, k0.cell 6, k0.cell 7, k7.cell 0, k7.cell 1, k9.cell 0, k9.cell 1⟩
        clear hK K
        try simp only [Act.put, List.setIfInBounds_toArray, List.set_cons_zero, List.set_cons_succ]
        refine wpAnyH_ready (rs := [15]) (by kernel_rfl) (by simp) ?_
        refine AllReadyH.cons (arr_at rfl) (fun K hK => ?_) AllReadyH.nil
        have e0 := kg.cell 0; have e1 := kg.cell 1; have e2 := kg.cell 2; have e3 := kg.cell 3; have e4 := kg.cell 4; have e5 := kg.cell 5; have e6 := kg.cell 6; have e7 := kg.cell 7; have f0 := kg.frozen 0; have f1 := kg.frozen 1; have f2 := kg.frozen 2; have f3 := kg.frozen 3; have f4 := kg.frozen 4; have f5 := kg.frozen 5; have f6 := kg.frozen 6; have f7 := kg.frozen 7; have hlp := kg.lt; simp only [List.getElem?_toArray, List.getElem?_cons_zero, List.getElem?_cons_succ] at e0 e1 e2 e3 e4 e5 e6 e7; go_simp; clear e0 e1 e2 e3 e4 e5 e6 e7 f0 f1 f2 f3 f4 f5 f6 f7 hlp; obtain ⟨W2, e, z, hf, hb, hr⟩ := put8 kg (.int .i64 gg.ba) (.int .i64 gg.bi) (.int .i64 gg.ou) (.slice A' n' c') (.slice C' m' d') (.int .i64 gg.fi) (.int .i64 gg.ho) (.int .i64 gg.no); rw [e]; clear e; replace k0 := hf k0 (by omega); replace k7 := hf k7 (by omega); replace k9 := hf k9 (by omega); replace kp := hf kp (hne); replace B := hb B (by omega); replace B0 := hb B0 (by omega); replace hTab := (hr (base := 0)).2 hTab hT12; replace hCon := (hr (base := 0)).2 hCon hC12; replace kg := z; clear z hf hb hr
        refine hK.out _ _ ?_ (fun hHeld => ?_)
        · (try dsimp only); exact ⟨k0.cell 0, k0.cell 1, k0.cell 2, k0.cell 3, k0.cell 4, k0.cell 5, k0.cell 6, k0.cell 7, k7.cell 0, k7.cell 1, k9.cell 0, k9.cell 1⟩
        clear hK K
        try simp only [Act.put, List.setIfInBounds_toArray, List.set_cons_zero, List.set_cons_succ]
        refine wpAnyH_take (i := 16) (v := ?_) (arr_at rfl) (by kernel_rfl) (by kernel_rfl) (by kernel_rfl) (fun _ _ _ h => h) ?_ (by assumption) ?_
        rotate_left
        · first | (refine Or.inr ⟨by rfl, ?_⟩; with_reducible rfl) | (refine Or.inl ⟨by rfl, ?_⟩; intro w hSw; (try dsimp only at hSw); go_simp; first | done | with_reducible rfl)
        try simp only [Act.put, List.setIfInBounds_toArray, List.set_cons_zero, List.set_cons_succ]
        refine wpAnyH_done (by kernel_rfl) ?_ _
        go_wp2_with fail
        go_meet
        exact ⟨b11, b12, ok, qq, gg, D', dc', A', n', c', C', m', d', rfl, rfl, rfl, k0, kp, kg, HO, hn', hc', hFr, hTab, hm', hd', hFc, hCon, B, B0, hg11, hg12⟩
      · go_simp
        obtain ⟨wp, b11, ex, eb, hq, kpn⟩ := allocB B #[.int .i64 0, .int .i64 0, .int .i64 0, .int .i64 0, .int .i64 0, .slice none 0 0] 74; rw [ex, eb]; have hg11 := k0.lt; have h711 := k7.lt; have h911 := k9.lt; rw [eb] at hg11 h711 h911; have hw11 := B.size; rw [eb] at hw11; (first | (have hT11 := near_apart hTab eb; have hC11 := near_apart hCon eb) | skip); (first | (have hne := kg.lt; rw [eb] at hne; replace hne : b11 ≠ b12 := (by omega)) | skip); clear ex eb; replace k0 := k0.to hq; replace k7 := k7.to hq; replace k9 := k9.to hq; replace B := Bl.then B hq; replace B0 := Bl.then B0 hq; (first | (replace kp := Blk.to kp hq) | skip); (first | (replace kg := Blk.to kg hq) | skip); (first | (replace hTab := Rd.to hTab hq; replace hCon := Rd.to hCon hq) | skip); clear hq; have kp := kpn; clear kpn
        refine hK.out _ _ ?_ (fun hHeld => ?_)
        · (try dsimp only); exact ⟨k0.cell 0, k0.cell 1, k0.cell 2, k0.cell 3, k0.cell 4, k0.cell 5, k0.cell 6, k0.cell 7, k7.cell 0, k7.cell 1, k9.cell 0, k9.cell 1⟩
        clear hK K
        try simp only [Act.put, List.setIfInBounds_toArray, List.set_cons_zero, List.set_cons_succ]
        refine wpAnyH_ready (rs := [7]) (by kernel_rfl) (by simp) ?_
        refine AllReadyH.cons (arr_at rfl) (fun K hK => ?_) AllReadyH.nil
        go_simp
        go_at_call 50; refine (c_sForward g ⟨a1, a2, b1, b2⟩ A n c C m d none 0 _ HV.out HPK.out HN.out (HA.out _ B) HM.out (HC.out _ B)).mono ?_; rintro e wF ⟨hq, qq, gg, D', dc', A', n', c', C', m', d', ok, rfl, HO, hn', hc', hFr, hTab, hm', hd', hFc, hCon⟩; (first | (have hT11 := fr_apart (vs := mapCs gg.tb) hFr kp.lt; have hC11 := fr_apart (vs := conCs gg.cs) hFc kp.lt) | skip); (first | (have hT12 := fr_apart (vs := mapCs gg.tb) hFr kg.lt; have hC12 := fr_apart (vs := conCs gg.cs) hFc kg.lt) | skip); replace hFr := hFr.low (c := w.heap.size) B.size; replace hFc := hFc.low (c := w.heap.size) B.size; have hq9 := hq; replace hTab : TM wF A' gg.tb := hTab; replace k0 := k0.to hq; replace k7 := k7.to hq; replace k9 := k9.to hq; replace B := Bl.then B hq; replace B0 := Bl.then B0 hq; (first | (replace kp := Blk.to kp hq) | skip); (first | (replace kg := Blk.to kg hq) | skip); clear hq hq9
        refine hK.out _ _ ?_ (fun hHeld => ?_)
        · (try dsimp only); exact ⟨k0.cell 0, k0.cell 1, k0.cell 2, k0.cell 3, k0.cell 4, k0.cell 5, k0.cell 6, k0.cell 7, k7.cell 0, k7.cell 1, k9.cell 0, k9.cell 1⟩
        clear hK K
        try simp only [Act.put, List.setIfInBounds_toArray, List.set_cons_zero, List.set_cons_succ]
        refine wpAnyH_take (i := 8) (v := ?_) (arr_at rfl) (by kernel_rfl) (by kernel_rfl) (by kernel_rfl) (fun _ _ _ h => h) ?_ (by assumption) ?_
        rotate_left
        · first | (refine Or.inr ⟨by rfl, ?_⟩; with_reducible rfl) | (refine Or.inl ⟨by rfl, ?_⟩; intro w hSw; (try dsimp only at hSw); go_simp; first | done | with_reducible rfl)
        try simp only [Act.put, List.setIfInBounds_toArray, List.set_cons_zero, List.set_cons_succ]
        refine wpAnyH_take (i := 9) (v := ?_) (arr_at rfl) (by kernel_rfl) (by kernel_rfl) (by kernel_rfl) (fun _ _ _ h => h) ?_ (by assumption) ?_
        rotate_left
        · first | (refine Or.inr ⟨by rfl, ?_⟩; with_reducible rfl) | (refine Or.inl ⟨by rfl, ?_⟩; intro w hSw; (try dsimp only at hSw); go_simp; first | done | with_reducible rfl)
        try simp only [Act.put, List.setIfInBounds_toArray, List.set_cons_zero, List.set_cons_succ]
        refine wpAnyH_take (i := 10) (v := ?_) (arr_at rfl) (by kernel_rfl) (by kernel_rfl) (by kernel_rfl) (fun _ _ _ h => h) ?_ (by assumption) ?_
        rotate_left
        · first | (refine Or.inr ⟨by rfl, ?_⟩; with_reducible rfl) | (refine Or.inl ⟨by rfl, ?_⟩; intro w hSw; (try dsimp only at hSw); go_simp; first | done | with_reducible rfl)
        try simp only [Act.put, List.setIfInBounds_toArray, List.set_cons_zero, List.set_cons_succ]
        refine wpAnyH_take (i := 11) (v := ?_) (arr_at rfl) (by kernel_rfl) (by kernel_rfl) (by kernel_rfl) (fun _ _ _ h => h) ?_ (by assumption) ?_
        rotate_left
        · first | (refine Or.inr ⟨by rfl, ?_⟩; with_reducible rfl) | (refine Or.inl ⟨by rfl, ?_⟩; intro w hSw; (try dsimp only at hSw); go_simp; first | done | with_reducible rfl)
        try simp only [Act.put, List.setIfInBounds_toArray, List.set_cons_zero, List.set_cons_succ]
        refine wpAnyH_ready (rs := [14]) (by kernel_rfl) (by simp) ?_
        refine AllReadyH.cons (arr_at rfl) (fun K hK => ?_) AllReadyH.nil
        have e0 := kp.cell 0; have e1 := kp.cell 1; have e2 := kp.cell 2; have e3 := kp.cell 3; have e4 := kp.cell 4; have e5 := kp.cell 5; have f0 := kp.frozen 0; have f1 := kp.frozen 1; have f2 := kp.frozen 2; have f3 := kp.frozen 3; have f4 := kp.frozen 4; have f5 := kp.frozen 5; have hlp := kp.lt; simp only [List.getElem?_toArray, List.getElem?_cons_zero, List.getElem?_cons_succ] at e0 e1 e2 e3 e4 e5; go_simp; clear e0 e1 e2 e3 e4 e5 f0 f1 f2 f3 f4 f5 hlp; obtain ⟨W1, e, z, hf, hb, hr⟩ := put6 kp (.int .i64 0) (.int .i64 qq.fa) (.int .i64 qq.fp) (.int .i64 qq.ta) (.int .i64 qq.tp) (.slice D' 0 dc'); rw [e]; clear e; replace k0 := hf k0 (by omega); replace k7 := hf k7 (by omega); replace k9 := hf k9 (by omega); replace kg := hf kg (Ne.symm hne); replace B := hb B (by omega); replace B0 := hb B0 (by omega); replace hTab := (hr (base := 0)).2 hTab hT11; replace hCon := (hr (base := 0)).2 hCon hC11; replace kp := z; clear z hf hb hr
        refine hK.out _ _ ?_ (fun hHeld => ?_)
        · (try dsimp only); exact ⟨k0.cell 0, k0.cell 1, k0.cell 2, k0.cell 3, k0.cell 4, k0.cell 5, k0.cell 6, k0.cell 7, k7.cell 0, k7.cell 1, k9.cell 0, k9.cell 1⟩
        clear hK K
        try simp only [Act.put, List.setIfInBounds_toArray, List.set_cons_zero, List.set_cons_succ]
        refine wpAnyH_ready (rs := [15]) (by kernel_rfl) (by simp) ?_
        refine AllReadyH.cons (arr_at rfl) (fun K hK => ?_) AllReadyH.nil
        have e0 := kg.cell 0; have e1 := kg.cell 1; have e2 := kg.cell 2; have e3 := kg.cell 3; have e4 := kg.cell 4; have e5 := kg.cell 5; have e6 := kg.cell 6; have e7 := kg.cell 7; have f0 := kg.frozen 0; have f1 := kg.frozen 1; have f2 := kg.frozen 2; have f3 := kg.frozen 3; have f4 := kg.frozen 4; have f5 := kg.frozen 5; have f6 := kg.frozen 6; have f7 := kg.frozen 7; have hlp := kg.lt; simp only [List.getElem?_toArray, List.getElem?_cons_zero, List.getElem?_cons_succ] at e0 e1 e2 e3 e4 e5 e6 e7; go_simp; clear e0 e1 e2 e3 e4 e5 e6 e7 f0 f1 f2 f3 f4 f5 f6 f7 hlp; obtain ⟨W2, e, z, hf, hb, hr⟩ := put8 kg (.int .i64 gg.ba) (.int .i64 gg.bi) (.int .i64 gg.ou) (.slice A' n' c') (.slice C' m' d') (.int .i64 gg.fi) (.int .i64 gg.ho) (.int .i64 gg.no); rw [e]; clear e; replace k0 := hf k0 (by omega); replace k7 := hf k7 (by omega); replace k9 := hf k9 (by omega); replace kp := hf kp (hne); replace B := hb B (by omega); replace B0 := hb B0 (by omega); replace hTab := (hr (base := 0)).2 hTab hT12; replace hCon := (hr (base := 0)).2 hCon hC12; replace kg := z; clear z hf hb hr
        refine hK.out _ _ ?_ (fun hHeld => ?_)
        · (try dsimp only); exact ⟨k0.cell 0, k0.cell 1, k0.cell 2, k0.cell 3, k0.cell 4, k0.cell 5, k0.cell 6, k0.cell 7, k7.cell 0, k7.cell 1, k9.cell 0, k9.cell 1⟩
        clear hK K
        try simp only [Act.put, List.setIfInBounds_toArray, List.set_cons_zero, List.set_cons_succ]
        refine wpAnyH_take (i := 16) (v := ?_) (arr_at rfl) (by kernel_rfl) (by kernel_rfl) (by kernel_rfl) (fun _ _ _ h => h) ?_ (by assumption) ?_
        rotate_left
        · first | (refine Or.inr ⟨by rfl, ?_⟩; with_reducible rfl) | (refine Or.inl ⟨by rfl, ?_⟩; intro w hSw; (try dsimp only at hSw); go_simp; first | done | with_reducible rfl)
        try simp only [Act.put, List.setIfInBounds_toArray, List.set_cons_zero, List.set_cons_succ]
        refine wpAnyH_done (by kernel_rfl) ?_ _
        go_wp2_with fail
        go_meet
        exact ⟨b11, b12, ok, qq, gg, D', dc', A', n', c', C', m', d', rfl, rfl, rfl, k0, kp, kg, HO, hn', hc', hFr, hTab, hm', hd', hFc, hCon, B, B0, hg11, hg12⟩
  case rest =>
    clear k0 k7 k9 B B0
    obtain ⟨b11, b12, ok, qq, gg, D', dc', A', n', c', C', m', d', rfl, rfl, rfl, HH⟩ := hcut
    obtain ⟨k0, kp, kg, HO, hn', hc', hFr, hTab, hm', hd', hFc, hCon, B, B0, hg11, hg12⟩ := HH.out
    clear HH
    cases ok
    · skip
      have HZ := Lib.hid (sendL_no (g := g) (x := x.data.toList) (y := y.data.toList) (r := (qq, gg)) H12.out.1 H12.out.2 (fun _ _ => HO) (.inr (.inr rfl)))
      go_wp2
      go_ret
      exact ⟨by rw [HZ.out]; rfl, by rw [HZ.out]; exact (HGA.out.to B).inl, grown_of_below B _⟩
    have HZ := Lib.hid (sendL_ok (g := g) (g' := gg) (x := x.data.toList) (y := y.data.toList) H12.out.1 H12.out.2 HO)
    have HF := Lib.hid (And.intro hn' (And.intro hc' (And.intro hm' hd')))
    clear HO hn' hc' hm' hd'
    have e0 := kg.cell 0
    have e1 := kg.cell 1
    have e2 := kg.cell 2
    have e3 := kg.cell 3
    have e4 := kg.cell 4
    have e5 := kg.cell 5
    have e6 := kg.cell 6
    have e7 := kg.cell 7
    have y0 := k0.cell 0
    have f0 := k0.frozen 0
    have y1 := k0.cell 1
    have f1 := k0.frozen 1
    have y2 := k0.cell 2
    have f2 := k0.frozen 2
    have y3 := k0.cell 3
    have f3 := k0.frozen 3
    have y4 := k0.cell 4
    have f4 := k0.frozen 4
    have y5 := k0.cell 5
    have f5 := k0.frozen 5
    have y6 := k0.cell 6
    have f6 := k0.frozen 6
    have y7 := k0.cell 7
    have f7 := k0.frozen 7
    have l1 := k0.lt
    have l2 := kg.lt
    simp only [List.getElem?_toArray, List.getElem?_cons_zero, List.getElem?_cons_succ] at e0 e1 e2 e3 e4 e5 e6 e7 y0 y1 y2 y3 y4 y5 y6 y7
    go_upto_region 9 with fail
    clear e0 e1 e2 e3 e4 e5 e6 e7 y0 y1 y2 y3 y4 y5 y6 y7 f0 f1 f2 f3 f4 f5 f6 f7 l1 l2
    have hgr := put8g wc gb (.int .i64 gg.ba) (.int .i64 gg.bi) (.int .i64 gg.ou) (.slice A' n' c') (.slice C' m' d') (.int .i64 gg.fi) (.int .i64 gg.ho) (.int .i64 gg.no)
    obtain ⟨W9, e, z, hf, hb, hr⟩ := put8 k0 (.int .i64 gg.ba) (.int .i64 gg.bi) (.int .i64 gg.ou) (.slice A' n' c') (.slice C' m' d') (.int .i64 gg.fi) (.int .i64 gg.ho) (.int .i64 gg.no)
    rw [e] at hgr ⊢
    have HGR := Lib.hid (grown_trans (grown_of_below B (some gb)) hgr)
    replace kp := hf kp (by omega)
    replace B0 := hb B0 hgb
    replace hTab := hr.1 hTab hFr hgl
    replace hCon := hr.1 hCon hFc hgl
    have HG9 : Hid (GA W9 gb 56 (fun k => P k ∨ w.heap.size ≤ k) gg) := ⟨A', n', c', C', m', d', z, HF.out.1, HF.out.2.1, hTab, HF.out.2.2.1, HF.out.2.2.2, hCon, fr_both hFr hgl, fr_both hFc hgl⟩
    clear z hf hb hr e hgr hTab hCon hFr hFc kg k0 B
    have B9 : Below W9.heap.size W9 W9.drew := Bl.of_drewN W9 1
    replace kp := kp.to B9
    have hz1 := fmtEnd_sz qq.fa qq.fp
    have hz2 := fmtEnd_sz qq.ta qq.tp
    have hs1 : ¬ (9223372036854775807 < (fmtEnd qq.fa qq.fp).size + 1) := by omega
    have hs2 : ¬ (9223372036854775807 < (fmtEnd qq.fa qq.fp).size + 1 + (fmtEnd qq.ta qq.tp).size) := by omega
    replace B0 := Bl.then B0 B9
    go_wp2_with fail
    refine wp_region_held_drew (S := (fun w' => w'.cell? ⟨b11, 0, none⟩ = some (.int .i64 0) ∧ w'.cell? ⟨b11, 1, none⟩ = some (.int .i64 qq.fa) ∧ w'.cell? ⟨b11, 2, none⟩ = some (.int .i64 qq.fp) ∧ w'.cell? ⟨b11, 3, none⟩ = some (.int .i64 qq.ta) ∧ w'.cell? ⟨b11, 4, none⟩ = some (.int .i64 qq.tp))) (by kernel_rfl) ?_ (fun hHeld => ?_)
    · (try dsimp only); exact ⟨kp.cell 0, kp.cell 1, kp.cell 2, kp.cell 3, kp.cell 4⟩
    refine wpAnyH_take (i := 0) (v := ?_) (arr_at rfl) (by kernel_rfl) (by kernel_rfl) (by kernel_rfl) (fun _ _ _ h => h) ?_ (by assumption) ?_
    rotate_left
    · first | (refine Or.inr ⟨by rfl, ?_⟩; with_reducible rfl) | (refine Or.inl ⟨by rfl, ?_⟩; intro w hSw; (try dsimp only at hSw); go_simp; first | done | with_reducible rfl)
    try simp only [Act.put, List.setIfInBounds_toArray, List.set_cons_zero, List.set_cons_succ]
    refine wpAnyH_take (i := 1) (v := ?_) (arr_at rfl) (by kernel_rfl) (by kernel_rfl) (by kernel_rfl) (fun _ _ _ h => h) ?_ (by assumption) ?_
    rotate_left
    · first | (refine Or.inr ⟨by rfl, ?_⟩; with_reducible rfl) | (refine Or.inl ⟨by rfl, ?_⟩; intro w hSw; (try dsimp only at hSw); go_simp; first | done | with_reducible rfl)
    try simp only [Act.put, List.setIfInBounds_toArray, List.set_cons_zero, List.set_cons_succ]
    refine wpAnyH_take (i := 4) (v := ?_) (arr_at rfl) (by kernel_rfl) (by kernel_rfl) (by kernel_rfl) (fun _ _ _ h => h) ?_ (by assumption) ?_
    rotate_left
    · first | (refine Or.inr ⟨by rfl, ?_⟩; with_reducible rfl) | (refine Or.inl ⟨by rfl, ?_⟩; intro w hSw; (try dsimp only at hSw); go_simp; first | done | with_reducible rfl)
    try simp only [Act.put, List.setIfInBounds_toArray, List.set_cons_zero, List.set_cons_succ]
    refine wpAnyH_take (i := 5) (v := ?_) (arr_at rfl) (by kernel_rfl) (by kernel_rfl) (by kernel_rfl) (fun _ _ _ h => h) ?_ (by assumption) ?_
    rotate_left
    · first | (refine Or.inr ⟨by rfl, ?_⟩; with_reducible rfl) | (refine Or.inl ⟨by rfl, ?_⟩; intro w hSw; (try dsimp only at hSw); go_simp; first | done | with_reducible rfl)
    try simp only [Act.put, List.setIfInBounds_toArray, List.set_cons_zero, List.set_cons_succ]
    refine wpAnyH_ready (rs := [2]) (by kernel_rfl) (by simp) ?_
    refine AllReadyH.cons (arr_at rfl) (fun K hK => ?_) AllReadyH.nil
    go_simp
    go_at_call 51; refine (c_sFormatEnd _ _ _).mono ?_; rintro e wA ⟨rfl, hq⟩; replace kp := kp.to hq; replace B9 := Bl.then B9 hq; replace B0 := Bl.then B0 hq; clear hq
    refine hK.out _ _ ?_ (fun hHeld => ?_)
    · (try dsimp only); exact ⟨kp.cell 0, kp.cell 1, kp.cell 2, kp.cell 3, kp.cell 4⟩
    clear hK K
    try simp only [Act.put, List.setIfInBounds_toArray, List.set_cons_zero, List.set_cons_succ]
    refine wpAnyH_take (i := 3) (v := ?_) (arr_at rfl) (by kernel_rfl) (by kernel_rfl) (by kernel_rfl) (fun _ _ _ h => h) ?_ (by assumption) ?_
    rotate_left
    · first | (refine Or.inr ⟨by rfl, ?_⟩; with_reducible rfl) | (refine Or.inl ⟨by rfl, ?_⟩; intro w hSw; (try dsimp only at hSw); go_simp; first | done | with_reducible rfl)
    try simp only [Act.put, List.setIfInBounds_toArray, List.set_cons_zero, List.set_cons_succ]
    refine wpAnyH_ready (rs := [6]) (by kernel_rfl) (by simp) ?_
    refine AllReadyH.cons (arr_at rfl) (fun K hK => ?_) AllReadyH.nil
    go_simp
    go_at_call 51; refine (c_sFormatEnd _ _ _).mono ?_; rintro e wB ⟨rfl, hq⟩; replace kp := kp.to hq; replace B9 := Bl.then B9 hq; replace B0 := Bl.then B0 hq; clear hq
    refine hK.out _ _ ?_ (fun hHeld => ?_)
    · (try dsimp only); exact ⟨kp.cell 0, kp.cell 1, kp.cell 2, kp.cell 3, kp.cell 4⟩
    clear hK K
    try simp only [Act.put, List.setIfInBounds_toArray, List.set_cons_zero, List.set_cons_succ]
    refine wpAnyH_take (i := 7) (v := ?_) (arr_at rfl) (by kernel_rfl) (by kernel_rfl) (by kernel_rfl) (fun _ _ _ h => h) ?_ (by assumption) ?_
    rotate_left
    · first | (refine Or.inr ⟨by rfl, ?_⟩; with_reducible rfl) | (refine Or.inl ⟨by rfl, ?_⟩; intro w hSw; (try dsimp only at hSw); go_simp; first | done | with_reducible rfl)
    try simp only [Act.put, List.setIfInBounds_toArray, List.set_cons_zero, List.set_cons_succ]
    refine wpAnyH_take (i := 8) (v := ?_) (arr_at rfl) (by kernel_rfl) (by kernel_rfl) (by kernel_rfl) (fun _ _ _ h => h) ?_ (by assumption) ?_
    rotate_left
    · first | (refine Or.inr ⟨by rfl, ?_⟩; with_reducible rfl) | (refine Or.inl ⟨by rfl, ?_⟩; intro w hSw; (try dsimp only at hSw); go_simp; first | done | with_reducible rfl)
    try simp only [Act.put, List.setIfInBounds_toArray, List.set_cons_zero, List.set_cons_succ]
    refine wpAnyH_done (by kernel_rfl) ?_ _
    go_wp2
    go_ret
    exact ⟨by rw [HZ.out]; exact ret_strB (sp_join _ _), by rw [HZ.out]; exact HG9.out.to B9, grown_trans HGR.out (grown_of_below B9 _)⟩
end Go.Proofs.YtjflfhjnbccpmaaGreatDoor
