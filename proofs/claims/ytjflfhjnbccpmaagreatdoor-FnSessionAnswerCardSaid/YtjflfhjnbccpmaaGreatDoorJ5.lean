/- Joined: W4, W8, W5, T11, W6. -/
import Derived.Test.YtjflfhjnbccpmaaGreatDoorJ4
import Derived.Deep.RegionLaw
import Derived.ArgAppend
set_option linter.unusedVariables false
set_option linter.unusedSimpArgs false
namespace Go.Proofs.YtjflfhjnbccpmaaGreatDoor
open Go.RowKit
/-- What lies at A is no older than base. -/
def Fr (A : Option Addr) (base : Nat) : Prop := ∀ a, A = some a → base ≤ a.block
theorem Fr.low {A : Option Addr} {b c : Nat} (h : Fr A b) (hc : c ≤ b) : Fr A c := fun a ha => Nat.le_trans hc (h a ha)
theorem Fr.none (b : Nat) : Fr none b := fun _ h => by cases h
theorem Rd.far {w : World} {A : Option Addr} {vs : List Value} {base : Nat} (h : Rd w A vs) (hf : Fr A base) {p : Addr} (hp : p.block < base) (v : Value) : Rd (w.setCell p v) A vs := fun k u hk => by
  obtain ⟨b, off, rfl, hb, hc⟩ := h k u hk
  refine ⟨b, off, rfl, by simpa using hb, ?_⟩
  rw [World.cell?_setCell_other _ _ _ _ (by intro e; have := hf _ rfl; rw [e] at hp; simp at this hp; omega)]
  exact hc
theorem Rd.apart {w : World} {A : Option Addr} {vs : List Value} (h : Rd w A vs) {p : Addr} (hf : ∀ a, A = some a → vs ≠ [] → a.block ≠ p.block) (v : Value) : Rd (w.setCell p v) A vs := fun k u hk => by
  obtain ⟨b, off, rfl, hb, hc⟩ := h k u hk
  have hne : vs ≠ [] := by rintro rfl; simp at hk
  refine ⟨b, off, rfl, by simpa using hb, ?_⟩
  rw [World.cell?_setCell_other _ _ _ _ (by intro e; have := hf _ rfl hne; rw [e] at this; simp at this)]
  exact hc
theorem Rd.near {w : World} {A : Option Addr} {vs : List Value} (h : Rd w A vs) : ∀ a, A = some a → vs ≠ [] → a.block < w.heap.size := fun a ha hne => by
  cases vs with
  | nil => exact absurd rfl hne
  | cons v vs =>
    obtain ⟨b, off, e, hb, _⟩ := h 0 v rfl
    rw [ha] at e
    cases e
    exact hb
theorem own_fr {w : World} {base : Nat} {e : TypeId} {size n c : Nat} {A : Option Addr} {xs : List Value} (h : w.ownsRow base e size (.slice A n c) n xs) : Fr A base := by
  obtain ⟨A', c', he, _, _, hf⟩ := own_slice h
  cases he
  exact fun a ha => (hf a ha).1
/-- 8 cells are stored. -/
theorem put8 {w : World} {b : Nat} {t : TypeId} {o0 o1 o2 o3 o4 o5 o6 o7 : Value} (k : Blk w b t #[o0, o1, o2, o3, o4, o5, o6, o7]) (v0 v1 v2 v3 v4 v5 v6 v7 : Value) :
    ∃ W, ((((((((w.setCell ⟨b, 0, none⟩ v0).setCell ⟨b, 1, none⟩ v1).setCell ⟨b, 2, none⟩ v2).setCell ⟨b, 3, none⟩ v3).setCell ⟨b, 4, none⟩ v4).setCell ⟨b, 5, none⟩ v5).setCell ⟨b, 6, none⟩ v6).setCell ⟨b, 7, none⟩ v7) = W ∧ Blk W b t #[v0, v1, v2, v3, v4, v5, v6, v7] ∧ (∀ {g : Nat} {t' : TypeId} {cs : Array Value}, Blk w g t' cs → g ≠ b → Blk W g t' cs) ∧
      (∀ {B : Nat} {w0 : World}, Below B w0 w → B ≤ b → Below B w0 W) ∧ ∀ {A : Option Addr} {vs : List Value} {base : Nat}, (Rd w A vs → Fr A base → b < base → Rd W A vs) ∧ (Rd w A vs → (∀ a, A = some a → vs ≠ [] → a.block ≠ b) → Rd W A vs) := by
  have k1 : Blk (w.setCell ⟨b, 0, none⟩ v0) b t #[v0, o1, o2, o3, o4, o5, o6, o7] := k.set_ 0 v0
  have k2 : Blk ((w.setCell ⟨b, 0, none⟩ v0).setCell ⟨b, 1, none⟩ v1) b t #[v0, v1, o2, o3, o4, o5, o6, o7] := k1.set_ 1 v1
  have k3 : Blk (((w.setCell ⟨b, 0, none⟩ v0).setCell ⟨b, 1, none⟩ v1).setCell ⟨b, 2, none⟩ v2) b t #[v0, v1, v2, o3, o4, o5, o6, o7] := k2.set_ 2 v2
  have k4 : Blk ((((w.setCell ⟨b, 0, none⟩ v0).setCell ⟨b, 1, none⟩ v1).setCell ⟨b, 2, none⟩ v2).setCell ⟨b, 3, none⟩ v3) b t #[v0, v1, v2, v3, o4, o5, o6, o7] := k3.set_ 3 v3
  have k5 : Blk (((((w.setCell ⟨b, 0, none⟩ v0).setCell ⟨b, 1, none⟩ v1).setCell ⟨b, 2, none⟩ v2).setCell ⟨b, 3, none⟩ v3).setCell ⟨b, 4, none⟩ v4) b t #[v0, v1, v2, v3, v4, o5, o6, o7] := k4.set_ 4 v4
  have k6 : Blk ((((((w.setCell ⟨b, 0, none⟩ v0).setCell ⟨b, 1, none⟩ v1).setCell ⟨b, 2, none⟩ v2).setCell ⟨b, 3, none⟩ v3).setCell ⟨b, 4, none⟩ v4).setCell ⟨b, 5, none⟩ v5) b t #[v0, v1, v2, v3, v4, v5, o6, o7] := k5.set_ 5 v5
  have k7 : Blk (((((((w.setCell ⟨b, 0, none⟩ v0).setCell ⟨b, 1, none⟩ v1).setCell ⟨b, 2, none⟩ v2).setCell ⟨b, 3, none⟩ v3).setCell ⟨b, 4, none⟩ v4).setCell ⟨b, 5, none⟩ v5).setCell ⟨b, 6, none⟩ v6) b t #[v0, v1, v2, v3, v4, v5, v6, o7] := k6.set_ 6 v6
  have k8 : Blk ((((((((w.setCell ⟨b, 0, none⟩ v0).setCell ⟨b, 1, none⟩ v1).setCell ⟨b, 2, none⟩ v2).setCell ⟨b, 3, none⟩ v3).setCell ⟨b, 4, none⟩ v4).setCell ⟨b, 5, none⟩ v5).setCell ⟨b, 6, none⟩ v6).setCell ⟨b, 7, none⟩ v7) b t #[v0, v1, v2, v3, v4, v5, v6, v7] := k7.set_ 7 v7
  refine ⟨_, rfl, k8, ?_, ?_, ?_⟩
  · intro g t' cs h hne
    have h1 := h.far (p := ⟨b, 0, none⟩) hne v0
    have h2 := h1.far (p := ⟨b, 1, none⟩) hne v1
    have h3 := h2.far (p := ⟨b, 2, none⟩) hne v2
    have h4 := h3.far (p := ⟨b, 3, none⟩) hne v3
    have h5 := h4.far (p := ⟨b, 4, none⟩) hne v4
    have h6 := h5.far (p := ⟨b, 5, none⟩) hne v5
    have h7 := h6.far (p := ⟨b, 6, none⟩) hne v6
    have h8 := h7.far (p := ⟨b, 7, none⟩) hne v7
    exact h8
  · intro B w0 h hb
    have h1 := h.setCell (p := ⟨b, 0, none⟩) hb v0
    have h2 := h1.setCell (p := ⟨b, 1, none⟩) hb v1
    have h3 := h2.setCell (p := ⟨b, 2, none⟩) hb v2
    have h4 := h3.setCell (p := ⟨b, 3, none⟩) hb v3
    have h5 := h4.setCell (p := ⟨b, 4, none⟩) hb v4
    have h6 := h5.setCell (p := ⟨b, 5, none⟩) hb v5
    have h7 := h6.setCell (p := ⟨b, 6, none⟩) hb v6
    have h8 := h7.setCell (p := ⟨b, 7, none⟩) hb v7
    exact h8
  · intro A vs base
    refine ⟨fun h hf hb => ?_, fun h hf => ?_⟩
    · skip
      have h1 := h.far hf (p := ⟨b, 0, none⟩) hb v0
      have h2 := h1.far hf (p := ⟨b, 1, none⟩) hb v1
      have h3 := h2.far hf (p := ⟨b, 2, none⟩) hb v2
      have h4 := h3.far hf (p := ⟨b, 3, none⟩) hb v3
      have h5 := h4.far hf (p := ⟨b, 4, none⟩) hb v4
      have h6 := h5.far hf (p := ⟨b, 5, none⟩) hb v5
      have h7 := h6.far hf (p := ⟨b, 6, none⟩) hb v6
      have h8 := h7.far hf (p := ⟨b, 7, none⟩) hb v7
      exact h8
    · skip
      have h1 := h.apart (p := ⟨b, 0, none⟩) hf v0
      have h2 := h1.apart (p := ⟨b, 1, none⟩) hf v1
      have h3 := h2.apart (p := ⟨b, 2, none⟩) hf v2
      have h4 := h3.apart (p := ⟨b, 3, none⟩) hf v3
      have h5 := h4.apart (p := ⟨b, 4, none⟩) hf v4
      have h6 := h5.apart (p := ⟨b, 5, none⟩) hf v5
      have h7 := h6.apart (p := ⟨b, 6, none⟩) hf v6
      have h8 := h7.apart (p := ⟨b, 7, none⟩) hf v7
      exact h8
/-- 6 cells are stored. -/
theorem put6 {w : World} {b : Nat} {t : TypeId} {o0 o1 o2 o3 o4 o5 : Value} (k : Blk w b t #[o0, o1, o2, o3, o4, o5]) (v0 v1 v2 v3 v4 v5 : Value) :
    ∃ W, ((((((w.setCell ⟨b, 0, none⟩ v0).setCell ⟨b, 1, none⟩ v1).setCell ⟨b, 2, none⟩ v2).setCell ⟨b, 3, none⟩ v3).setCell ⟨b, 4, none⟩ v4).setCell ⟨b, 5, none⟩ v5) = W ∧ Blk W b t #[v0, v1, v2, v3, v4, v5] ∧ (∀ {g : Nat} {t' : TypeId} {cs : Array Value}, Blk w g t' cs → g ≠ b → Blk W g t' cs) ∧
      (∀ {B : Nat} {w0 : World}, Below B w0 w → B ≤ b → Below B w0 W) ∧ ∀ {A : Option Addr} {vs : List Value} {base : Nat}, (Rd w A vs → Fr A base → b < base → Rd W A vs) ∧ (Rd w A vs → (∀ a, A = some a → vs ≠ [] → a.block ≠ b) → Rd W A vs) := by
  have k1 : Blk (w.setCell ⟨b, 0, none⟩ v0) b t #[v0, o1, o2, o3, o4, o5] := k.set_ 0 v0
  have k2 : Blk ((w.setCell ⟨b, 0, none⟩ v0).setCell ⟨b, 1, none⟩ v1) b t #[v0, v1, o2, o3, o4, o5] := k1.set_ 1 v1
  have k3 : Blk (((w.setCell ⟨b, 0, none⟩ v0).setCell ⟨b, 1, none⟩ v1).setCell ⟨b, 2, none⟩ v2) b t #[v0, v1, v2, o3, o4, o5] := k2.set_ 2 v2
  have k4 : Blk ((((w.setCell ⟨b, 0, none⟩ v0).setCell ⟨b, 1, none⟩ v1).setCell ⟨b, 2, none⟩ v2).setCell ⟨b, 3, none⟩ v3) b t #[v0, v1, v2, v3, o4, o5] := k3.set_ 3 v3
  have k5 : Blk (((((w.setCell ⟨b, 0, none⟩ v0).setCell ⟨b, 1, none⟩ v1).setCell ⟨b, 2, none⟩ v2).setCell ⟨b, 3, none⟩ v3).setCell ⟨b, 4, none⟩ v4) b t #[v0, v1, v2, v3, v4, o5] := k4.set_ 4 v4
  have k6 : Blk ((((((w.setCell ⟨b, 0, none⟩ v0).setCell ⟨b, 1, none⟩ v1).setCell ⟨b, 2, none⟩ v2).setCell ⟨b, 3, none⟩ v3).setCell ⟨b, 4, none⟩ v4).setCell ⟨b, 5, none⟩ v5) b t #[v0, v1, v2, v3, v4, v5] := k5.set_ 5 v5
  refine ⟨_, rfl, k6, ?_, ?_, ?_⟩
  · intro g t' cs h hne
    have h1 := h.far (p := ⟨b, 0, none⟩) hne v0
    have h2 := h1.far (p := ⟨b, 1, none⟩) hne v1
    have h3 := h2.far (p := ⟨b, 2, none⟩) hne v2
    have h4 := h3.far (p := ⟨b, 3, none⟩) hne v3
    have h5 := h4.far (p := ⟨b, 4, none⟩) hne v4
    have h6 := h5.far (p := ⟨b, 5, none⟩) hne v5
    exact h6
  · intro B w0 h hb
    have h1 := h.setCell (p := ⟨b, 0, none⟩) hb v0
    have h2 := h1.setCell (p := ⟨b, 1, none⟩) hb v1
    have h3 := h2.setCell (p := ⟨b, 2, none⟩) hb v2
    have h4 := h3.setCell (p := ⟨b, 3, none⟩) hb v3
    have h5 := h4.setCell (p := ⟨b, 4, none⟩) hb v4
    have h6 := h5.setCell (p := ⟨b, 5, none⟩) hb v5
    exact h6
  · intro A vs base
    refine ⟨fun h hf hb => ?_, fun h hf => ?_⟩
    · skip
      have h1 := h.far hf (p := ⟨b, 0, none⟩) hb v0
      have h2 := h1.far hf (p := ⟨b, 1, none⟩) hb v1
      have h3 := h2.far hf (p := ⟨b, 2, none⟩) hb v2
      have h4 := h3.far hf (p := ⟨b, 3, none⟩) hb v3
      have h5 := h4.far hf (p := ⟨b, 4, none⟩) hb v4
      have h6 := h5.far hf (p := ⟨b, 5, none⟩) hb v5
      exact h6
    · skip
      have h1 := h.apart (p := ⟨b, 0, none⟩) hf v0
      have h2 := h1.apart (p := ⟨b, 1, none⟩) hf v1
      have h3 := h2.apart (p := ⟨b, 2, none⟩) hf v2
      have h4 := h3.apart (p := ⟨b, 3, none⟩) hf v3
      have h5 := h4.apart (p := ⟨b, 4, none⟩) hf v4
      have h6 := h5.apart (p := ⟨b, 5, none⟩) hf v5
      exact h6
theorem c_cloneM (A : Option Addr) (n c : Nat) (l : List Mpg) (w : World) (hn : l.length = n) (h : TM w A l) (hl : n ≤ 1099511627) :
    Calls Tryz.prog 116 #[.slice A n c] w fun e w' => ∃ A' c', e = .returned (.slice A' n n) ∧ n ≤ c' ∧ w'.ownsRow w.heap.size 84 4 (.slice A' n c') n (mapCs l) ∧ Below w.heap.size w w' := by
  have J := Lib.hid (c_CloneM A n c l w hn h hl)
  clear hn h
  go_enter Tryz.func116, Tryz.ntmps116
  go_wp2_with fail
  refine J.out.mono ?_
  rintro e w1 ⟨A1, c1, rfl, hc1, hm1, ho, hq⟩
  go_wp2_with fail
  refine (c_ClipM _ _ _ _ hc1 hm1).mono ?_
  rintro e w' ⟨rfl, rfl⟩
  go_wp2
  go_ret
  exact ⟨A1, c1, rfl, hc1, ho, hq⟩
theorem c_cloneK (A : Option Addr) (n c : Nat) (l : List Con) (w : World) (hn : l.length = n) (h : TK w A l) (hl : n ≤ 1099511627) :
    Calls Tryz.prog 117 #[.slice A n c] w fun e w' => ∃ A' c', e = .returned (.slice A' n n) ∧ n ≤ c' ∧ w'.ownsRow w.heap.size 129 3 (.slice A' n c') n (conCs l) ∧ Below w.heap.size w w' := by
  have J := Lib.hid (c_CloneK A n c l w hn h hl)
  clear hn h
  go_enter Tryz.func117, Tryz.ntmps117
  go_wp2_with fail
  refine J.out.mono ?_
  rintro e w1 ⟨A1, c1, rfl, hc1, hm1, ho, hq⟩
  go_wp2_with fail
  refine (c_ClipK _ _ _ _ hc1 hm1).mono ?_
  rintro e w' ⟨rfl, rfl⟩
  go_wp2
  go_ret
  exact ⟨A1, c1, rfl, hc1, ho, hq⟩
theorem c_clone0 (A : Option Addr) (c : Nat) (w : World) :
    Calls Tryz.prog 164 #[.slice A 0 c] w fun e w' => ∃ A', e = .returned (.slice A' 0 0) ∧ Below w.heap.size w w' := by
  go_enter Tryz.func164, Tryz.ntmps164
  go_wp2_with fail
  refine (c_Clone A 0 c [] _ rfl (RI.nil _ _) (by omega)).mono ?_
  rintro e w1 ⟨A1, c1, rfl, hm1, -, hq⟩
  go_wp2_with fail
  refine (c_Clip _ _ _ _ (Nat.zero_le _) hm1).mono ?_
  rintro e w' ⟨rfl, rfl⟩
  go_wp2
  go_ret
  exact ⟨A1, rfl, hq⟩
/-- The copy of a packet. -/
theorem c_PcopyOf (p : Pk) (D : Option Addr) (dc : Nat) (w : World) :
    Calls Tryz.prog 105 #[.agg #[.int .i64 0, .int .i64 p.fa, .int .i64 p.fp, .int .i64 p.ta, .int .i64 p.tp, .slice D 0 dc]] w fun e w' => ∃ D', e = .returned (.agg #[.int .i64 0, .int .i64 p.fa, .int .i64 p.fp, .int .i64 p.ta, .int .i64 p.tp, .slice D' 0 0]) ∧ Below w.heap.size w w' := by
  have k0 := (Blk.new w 74 #[.int .i64 0, .int .i64 p.fa, .int .i64 p.fp, .int .i64 p.ta, .int .i64 p.tp, .slice D 0 dc]).alloc (.cells #[.int .i64 0, .int .i64 0, .int .i64 0, .int .i64 0, .int .i64 0, .slice none 0 0] 74)
  have k1 := Blk.new (w.alloc (.cells #[.int .i64 0, .int .i64 p.fa, .int .i64 p.fp, .int .i64 p.ta, .int .i64 p.tp, .slice D 0 dc] 74)) 74 #[.int .i64 0, .int .i64 0, .int .i64 0, .int .i64 0, .int .i64 0, .slice none 0 0]
  have B : Below w.heap.size w ((w.alloc (.cells #[.int .i64 0, .int .i64 p.fa, .int .i64 p.fp, .int .i64 p.ta, .int .i64 p.tp, .slice D 0 dc] 74)).alloc (.cells #[.int .i64 0, .int .i64 0, .int .i64 0, .int .i64 0, .int .i64 0, .slice none 0 0] 74)) := ((Below.refl _ _).alloc (Nat.le_refl _) _).alloc (by simp) _
  simp only [World.size_alloc] at k1
  have y0 := k0.cell 0; have y1 := k0.cell 1; have y2 := k0.cell 2; have y3 := k0.cell 3; have y4 := k0.cell 4; have y5 := k0.cell 5; have f5 := k0.frozen 5; have hlt := k0.lt; simp only [List.getElem?_toArray, List.getElem?_cons_zero, List.getElem?_cons_succ] at y0 y1 y2 y3 y4 y5
  go_enter Tryz.func105, Tryz.ntmps105
  go_wp2_with fail
  refine (c_clone0 _ _ _).mono ?_
  rintro e w1 ⟨D', rfl, hq⟩
  replace k0 := k0.to hq
  replace k1 := k1.to hq
  replace B := Bl.then B hq
  clear hq y0 y1 y2 y3 y4 y5 f5 hlt
  have y0 := k0.cell 0; have y1 := k0.cell 1; have y2 := k0.cell 2; have y3 := k0.cell 3; have y4 := k0.cell 4; have y5 := k0.cell 5; have f5 := k0.frozen 5; have hlt := k0.lt; simp only [List.getElem?_toArray, List.getElem?_cons_zero, List.getElem?_cons_succ] at y0 y1 y2 y3 y4 y5
  have z0 := k1.cell 0; have z1 := k1.cell 1; have z2 := k1.cell 2; have z3 := k1.cell 3; have z4 := k1.cell 4; have z5 := k1.cell 5; simp only [List.getElem?_toArray, List.getElem?_cons_zero, List.getElem?_cons_succ] at z0 z1 z2 z3 z4 z5
  have g0 := k1.frozen 0; have g1 := k1.frozen 1; have g2 := k1.frozen 2; have g3 := k1.frozen 3; have g4 := k1.frozen 4; have g5 := k1.frozen 5; have hlt1 := k1.lt
  have hne : w.heap.size + 1 ≠ w.heap.size := by omega
  go_wp2
  have k0' := k0.set_ 5 (.slice D' 0 0)
  have k1' := k1.far (p := ⟨w.heap.size, 5, none⟩) hne (.slice D' 0 0)
  obtain ⟨W, e, z, _, hb, _⟩ := put6 k1' (.int .i64 0) (.int .i64 p.fa) (.int .i64 p.fp) (.int .i64 p.ta) (.int .i64 p.tp) (.slice D' 0 0)
  rw [e]
  clear k1 z0 z1 z2 z3 z4 z5
  have k1 := z
  clear z
  have z0 := k1.cell 0; have z1 := k1.cell 1; have z2 := k1.cell 2; have z3 := k1.cell 3; have z4 := k1.cell 4; have z5 := k1.cell 5; simp only [List.getElem?_toArray, List.getElem?_cons_zero, List.getElem?_cons_succ] at z0 z1 z2 z3 z4 z5
  refine bodyPost_ret (v := .agg #[.int .i64 0, .int .i64 p.fa, .int .i64 p.fp, .int .i64 p.ta, .int .i64 p.tp, .slice D' 0 0]) (by simp [results, Tryz.results105, go_sem, z0, z1, z2, z3, z4, z5]) rfl ?_
  exact ⟨D', rfl, hb (B.setCell (Nat.le_refl _) _) (Nat.le_succ _)⟩
/-- The copy of a gate. -/
theorem c_GcopyOf (g : Gt) (A : Option Addr) (n c : Nat) (C : Option Addr) (m d : Nat) (w : World) (hn : g.tb.length = n) (h : TM w A g.tb) (hm : g.cs.length = m) (h' : TK w C g.cs) (hl : n ≤ 1000) (hl' : m ≤ 1000) :
    Calls Tryz.prog 70 #[.agg #[.int .i64 g.ba, .int .i64 g.bi, .int .i64 g.ou, .slice A n c, .slice C m d, .int .i64 g.fi, .int .i64 g.ho, .int .i64 g.no]] w fun e w' => ∃ T T2, e = .returned (.agg #[.int .i64 g.ba, .int .i64 g.bi, .int .i64 g.ou, .slice T n n, .slice T2 m m, .int .i64 g.fi, .int .i64 g.ho, .int .i64 g.no]) ∧
      Fr T w.heap.size ∧ TM w' T g.tb ∧ Fr T2 w.heap.size ∧ TK w' T2 g.cs ∧ Below w.heap.size w w' := by
  have HN := Lib.hid hn
  have HM := Lib.hid hm
  have HA : Hid (∀ W, Below w.heap.size w W → TM W A g.tb) := fun W b => h.to b
  have HC : Hid (∀ W, Below w.heap.size w W → TK W C g.cs) := fun W b => h'.to b
  clear hn hm h h'
  have k0 : Blk (((w.alloc (.cells #[.int .i64 g.ba, .int .i64 g.bi, .int .i64 g.ou, .slice A n c, .slice C m d, .int .i64 g.fi, .int .i64 g.ho, .int .i64 g.no] 44)).alloc (.cells #[.int .i64 0, .int .i64 0, .int .i64 0, .slice none 0 0, .slice none 0 0, .int .i64 0, .int .i64 0, .int .i64 0] 44)).drew) w.heap.size 44 #[.int .i64 g.ba, .int .i64 g.bi, .int .i64 g.ou, .slice A n c, .slice C m d, .int .i64 g.fi, .int .i64 g.ho, .int .i64 g.no] := (Blk.new w 44 _).alloc (.cells #[.int .i64 0, .int .i64 0, .int .i64 0, .slice none 0 0, .slice none 0 0, .int .i64 0, .int .i64 0, .int .i64 0] 44)
  have k1 : Blk (((w.alloc (.cells #[.int .i64 g.ba, .int .i64 g.bi, .int .i64 g.ou, .slice A n c, .slice C m d, .int .i64 g.fi, .int .i64 g.ho, .int .i64 g.no] 44)).alloc (.cells #[.int .i64 0, .int .i64 0, .int .i64 0, .slice none 0 0, .slice none 0 0, .int .i64 0, .int .i64 0, .int .i64 0] 44)).drew) (w.heap.size + 1) 44 #[.int .i64 0, .int .i64 0, .int .i64 0, .slice none 0 0, .slice none 0 0, .int .i64 0, .int .i64 0, .int .i64 0] := (by
    have := Blk.new (w.alloc (.cells #[.int .i64 g.ba, .int .i64 g.bi, .int .i64 g.ou, .slice A n c, .slice C m d, .int .i64 g.fi, .int .i64 g.ho, .int .i64 g.no] 44)) 44 #[.int .i64 0, .int .i64 0, .int .i64 0, .slice none 0 0, .slice none 0 0, .int .i64 0, .int .i64 0, .int .i64 0]
    simp only [World.size_alloc] at this
    exact this)
  have B : Below w.heap.size w (((w.alloc (.cells #[.int .i64 g.ba, .int .i64 g.bi, .int .i64 g.ou, .slice A n c, .slice C m d, .int .i64 g.fi, .int .i64 g.ho, .int .i64 g.no] 44)).alloc (.cells #[.int .i64 0, .int .i64 0, .int .i64 0, .slice none 0 0, .slice none 0 0, .int .i64 0, .int .i64 0, .int .i64 0] 44)).drew) := Bl.drewN (((Below.refl _ _).alloc (Nat.le_refl _) _).alloc (by simp) _) 1
  go_enter Tryz.func70, Tryz.ntmps70
  go_wp2
  have y0 := k0.cell 0; have y1 := k0.cell 1; have y2 := k0.cell 2; have y3 := k0.cell 3; have y4 := k0.cell 4; have y5 := k0.cell 5; have y6 := k0.cell 6; have y7 := k0.cell 7; have f3 := k0.frozen 3; have f4 := k0.frozen 4; have hlt := k0.lt; simp only [List.getElem?_toArray, List.getElem?_cons_zero, List.getElem?_cons_succ] at y0 y1 y2 y3 y4 y5 y6 y7
  go_region_law (first | (go_simp; go_at_call 116; refine (c_cloneM A n c g.tb _ HN.out (HA.out _ B) (by omega)).mono ?_; rintro e w1 ⟨T, c1, rfl, hc1, ho1, hq⟩; replace k0 := k0.to hq; replace k1 := k1.to hq; replace B := Bl.then B hq; have HT := Lib.hid (And.intro (Rd.of_ownS ho1) ((own_fr ho1).low (c := w.heap.size + 2) (by simp))); clear hq ho1); clear y0 y1 y2 y3 y4 y5 y6 y7 f3 f4 hlt; have y0 := k0.cell 0; have y1 := k0.cell 1; have y2 := k0.cell 2; have y3 := k0.cell 3; have y4 := k0.cell 4; have y5 := k0.cell 5; have y6 := k0.cell 6; have y7 := k0.cell 7; have f3 := k0.frozen 3; have f4 := k0.frozen 4; have hlt := k0.lt; simp only [List.getElem?_toArray, List.getElem?_cons_zero, List.getElem?_cons_succ] at y0 y1 y2 y3 y4 y5 y6 y7 | (go_simp; go_at_call 117; refine (c_cloneK C m d g.cs _ HM.out (HC.out _ B) (by omega)).mono ?_; rintro e w2 ⟨T2, c2, rfl, hc2, ho2, hq⟩; have hl1 := k1.lt; replace k0 := k0.to hq; replace k1 := k1.to hq; replace B := Bl.then B hq; have HK := Lib.hid (And.intro (Rd.of_ownS ho2) ((own_fr ho2).low (c := w.heap.size + 2) (by omega))); have HT := Lib.hid (And.intro (Rd.to HT.out.1 hq) HT.out.2); clear hq ho2); clear y0 y1 y2 y3 y4 y5 y6 y7 f3 f4 hlt; have y0 := k0.cell 0; have y1 := k0.cell 1; have y2 := k0.cell 2; have y3 := k0.cell 3; have y4 := k0.cell 4; have y5 := k0.cell 5; have y6 := k0.cell 6; have y7 := k0.cell 7; have f3 := k0.frozen 3; have f4 := k0.frozen 4; have hlt := k0.lt; simp only [List.getElem?_toArray, List.getElem?_cons_zero, List.getElem?_cons_succ] at y0 y1 y2 y3 y4 y5 y6 y7)
  all_goals
    have hne : w.heap.size + 1 ≠ w.heap.size := by omega
    clear y0 y1 y2 y3 y4 y5 y6 y7 f3 f4 hlt
    have k0' : Blk _ _ 44 #[.int .i64 g.ba, .int .i64 g.bi, .int .i64 g.ou, .slice T n n, .slice T2 m m, .int .i64 g.fi, .int .i64 g.ho, .int .i64 g.no] := (k0.set_ 3 (.slice T n n)).set_ 4 (.slice T2 m m)
    have k1' := (k1.far (p := ⟨w.heap.size, 3, none⟩) hne (.slice T n n)).far (p := ⟨w.heap.size, 4, none⟩) hne (.slice T2 m m)
    have B' := (B.setCell (p := ⟨w.heap.size, 3, none⟩) (Nat.le_refl _) (.slice T n n)).setCell (p := ⟨w.heap.size, 4, none⟩) (Nat.le_refl _) (.slice T2 m m)
    have hT' := (Rd.far HT.out.1 HT.out.2 (p := ⟨w.heap.size, 3, none⟩) (by show w.heap.size < _; omega) (.slice T n n)).far HT.out.2 (p := ⟨w.heap.size, 4, none⟩) (by show w.heap.size < _; omega) (.slice T2 m m)
    have hK' := (Rd.far HK.out.1 HK.out.2 (p := ⟨w.heap.size, 3, none⟩) (by show w.heap.size < _; omega) (.slice T n n)).far HK.out.2 (p := ⟨w.heap.size, 4, none⟩) (by show w.heap.size < _; omega) (.slice T2 m m)
    generalize hw3 : World.setCell (World.setCell w2 _ _) _ _ = w3 at k0' k1' B' hT' hK' ⊢
    have hfT' := HT.out.2
    have hfK' := HK.out.2
    have hfT := hfT'.low (c := w.heap.size) (by omega)
    have hfK := hfK'.low (c := w.heap.size) (by omega)
    clear hw3 k0 k1 B HT HK
    have k0 := k0'
    have k1 := k1'
    clear k0' k1'
    have y0 := k0.cell 0; have y1 := k0.cell 1; have y2 := k0.cell 2; have y3 := k0.cell 3; have y4 := k0.cell 4; have y5 := k0.cell 5; have y6 := k0.cell 6; have y7 := k0.cell 7; have f3 := k0.frozen 3; have f4 := k0.frozen 4; have hlt := k0.lt; simp only [List.getElem?_toArray, List.getElem?_cons_zero, List.getElem?_cons_succ] at y0 y1 y2 y3 y4 y5 y6 y7
    have z0 := k1.cell 0; have z1 := k1.cell 1; have z2 := k1.cell 2; have z3 := k1.cell 3; have z4 := k1.cell 4; have z5 := k1.cell 5; have z6 := k1.cell 6; have z7 := k1.cell 7; simp only [List.getElem?_toArray, List.getElem?_cons_zero, List.getElem?_cons_succ] at z0 z1 z2 z3 z4 z5 z6 z7
    have g0 := k1.frozen 0; have g1 := k1.frozen 1; have g2 := k1.frozen 2; have g3 := k1.frozen 3; have g4 := k1.frozen 4; have g5 := k1.frozen 5; have g6 := k1.frozen 6; have g7 := k1.frozen 7; have hlt1 := k1.lt
    go_wp2
    obtain ⟨W, e, z, _, hb, hrr⟩ := put8 k1 (.int .i64 g.ba) (.int .i64 g.bi) (.int .i64 g.ou) (.slice T n n) (.slice T2 m m) (.int .i64 g.fi) (.int .i64 g.ho) (.int .i64 g.no)
    rw [e]
    clear k1 z0 z1 z2 z3 z4 z5 z6 z7
    have k1 := z
    clear z
    have z0 := k1.cell 0; have z1 := k1.cell 1; have z2 := k1.cell 2; have z3 := k1.cell 3; have z4 := k1.cell 4; have z5 := k1.cell 5; have z6 := k1.cell 6; have z7 := k1.cell 7; simp only [List.getElem?_toArray, List.getElem?_cons_zero, List.getElem?_cons_succ] at z0 z1 z2 z3 z4 z5 z6 z7
    refine bodyPost_ret (v := .agg #[.int .i64 g.ba, .int .i64 g.bi, .int .i64 g.ou, .slice T n n, .slice T2 m m, .int .i64 g.fi, .int .i64 g.ho, .int .i64 g.no]) (by simp [results, Tryz.results70, go_sem, z0, z1, z2, z3, z4, z5, z6, z7]) rfl ?_
    exact ⟨T, T2, rfl, hfT, hrr.1 hT' hfT' (by omega), hfK, hrr.1 hK' hfK' (by omega), hb B' (by omega)⟩
end Go.Proofs.YtjflfhjnbccpmaaGreatDoor
namespace Go.Proofs.YtjflfhjnbccpmaaGreatDoor
open Go.RowKit
/-- NoteContact's predicate. -/
theorem p_note (b : Nat) (x : Con) (w0 : World) (hk : Blk w0 b 129 #[.int .i64 x.po, .int .i64 x.ad, .int .i64 x.ep]) : PredK 185 #[.pointer (some ⟨b, 0, none⟩)] (fun d => decide (d = x)) w0 := by
  intro W y hW
  have hK := hk.to hW
  have y0 := hK.cell 0
  have y1 := hK.cell 1
  have y2 := hK.cell 2
  have hlt := hK.lt
  simp only [List.getElem?_toArray, List.getElem?_cons_zero, List.getElem?_cons_succ] at y0 y1 y2
  have heql := eql_con
  have hgd := guard_con
  clear hk hW hK
  go_enter Tryz.func185, Tryz.ntmps185
  go_wp2
  go_ret
  exact ⟨ret_bool (by rw [← eqK_dec]), (Below.refl _ _).alloc (Nat.le_refl _) _⟩
theorem TK.drop1 {w : World} {b off : Nat} {l : List Con} (h : TK w (some ⟨b, off, none⟩) l) : TK w (some ⟨b, off + 3, none⟩) (l.drop 1) := by
  cases l with
  | nil => exact TK.nil _ _
  | cons r l =>
    intro i v hi
    have e : conCs (r :: l) = conC r ++ conCs l := by unfold conCs; rw [List.flatMap_cons]
    obtain ⟨b', off', e', hb, hc⟩ := h (i + 3) v (by rw [e, List.getElem?_append_right (by rw [conC_len]; omega), conC_len]; exact hi)
    cases e'
    exact ⟨b, off + 3, rfl, hb, by rw [show off + 3 + i = off + (i + 3) by omega]; exact hc⟩
theorem noteC_short {l : List Con} {x : Con} {m : Nat} (h : (l.filter (fun d => !decide (d = x))).length = m) (hm : m + 1 ≤ 10) : noteC l x = l.filter (fun d => !decide (d = x)) ++ [x] := by
  unfold noteC
  rw [List.length_append, h, show m + [x].length - 10 = 0 by simp; omega, List.drop_zero]
theorem noteC_long {l : List Con} {x : Con} (h : (l.filter (fun d => !decide (d = x))).length = 10) : noteC l x = (l.filter (fun d => !decide (d = x)) ++ [x]).drop 1 := by
  unfold noteC
  rw [List.length_append, h]
  rfl
set_option maxHeartbeats 1600000 in
theorem c_NoteContact (A : Option Addr) (n c : Nat) (l : List Con) (x : Con) (w : World) (hn : l.length = n) (hc : n ≤ c) (h : TK w A l) (hv : vCon l = true) (hx : okC x = true) :
    Calls Tryz.prog 162 #[.slice A n c, .agg #[.int .i64 x.po, .int .i64 x.ad, .int .i64 x.ep]] w fun e w' => ∃ A' k, e = .returned (.tuple #[.slice A' k k, .bool true]) ∧ (noteC l x).length = k ∧ Fr A' w.heap.size ∧ TK w' A' (noteC l x) ∧ Below w.heap.size w w' := by
  have HN := Lib.hid hn
  have HC : Hid (∀ W, Below w.heap.size w W → TK W A l) := fun W b => h.to b
  have hn10 : n ≤ 10 := hn ▸ con_len hv
  have HV := Lib.hid hv
  have HX := Lib.hid hx
  clear hn h hv hx
  have k0 := Blk.new w 129 #[.int .i64 x.po, .int .i64 x.ad, .int .i64 x.ep]
  have B : Below w.heap.size w (w.alloc (.cells #[.int .i64 x.po, .int .i64 x.ad, .int .i64 x.ep] 129)) := (Below.refl _ _).alloc (Nat.le_refl _) _
  go_enter Tryz.func162, Tryz.ntmps162
  go_wp2_with fail
  refine (c_iValidContacts A n c l _ HN.out hc (HC.out _ B) (by omega)).mono ?_
  rw [HV.out]
  rintro e w1 ⟨rfl, hq⟩
  replace k0 := k0.to hq
  replace B := Bl.then B hq
  have y0 := k0.cell 0
  have y1 := k0.cell 1
  have y2 := k0.cell 2
  have hlt := k0.lt
  simp only [List.getElem?_toArray, List.getElem?_cons_zero, List.getElem?_cons_succ] at y0 y1 y2
  clear hq
  go_wp2_with fail
  refine (c_conValid x _).mono ?_
  rw [HX.out]
  rintro e wv ⟨rfl, hq⟩
  have k0' : Blk wv w.heap.size 129 #[.int .i64 x.po, .int .i64 x.ad, .int .i64 x.ep] := k0.to hq
  replace k0 : Blk wv.drew w.heap.size 129 #[.int .i64 x.po, .int .i64 x.ad, .int .i64 x.ep] := k0'
  replace B : Below w.heap.size w wv.drew := Bl.drewN (Bl.then B hq) 1
  clear hq y0 y1 y2 hlt k0'
  go_wp2_with fail
  refine wp_region_held_drew (S := (fun w' => w'.cell? ⟨w.heap.size, 0, none⟩ = some (.int .i64 x.po) ∧ w'.cell? ⟨w.heap.size, 1, none⟩ = some (.int .i64 x.ad) ∧ w'.cell? ⟨w.heap.size, 2, none⟩ = some (.int .i64 x.ep))) (by kernel_rfl) ?_ (fun hHeld => ?_)
  · (try dsimp only); exact ⟨k0.cell 0, k0.cell 1, k0.cell 2⟩
  generalize World.drew wv = w1 at *; have HP := Lib.hid (p_note w.heap.size x w1 k0); have BW : Below w1.heap.size w1 w1 := Below.refl _ _; have HB1 := Lib.hid B; have K1 := Lib.hid k0
  refine wpAnyH_take (i := 0) (v := ?_) (arr_at rfl) (by kernel_rfl) (by kernel_rfl) (by kernel_rfl) (fun _ _ _ h => h) ?_ (by assumption) ?_
  rotate_left
  · first | (refine Or.inr ⟨by rfl, ?_⟩; with_reducible rfl) | (refine Or.inl ⟨by rfl, ?_⟩; intro w hSw; (try dsimp only at hSw); go_simp; first | done | with_reducible rfl)
  try simp only [Act.put, List.setIfInBounds_toArray, List.set_cons_zero, List.set_cons_succ]
  refine wpAnyH_take (i := 2) (v := ?_) (arr_at rfl) (by kernel_rfl) (by kernel_rfl) (by kernel_rfl) (fun _ _ _ h => h) ?_ (by assumption) ?_
  rotate_left
  · first | (refine Or.inr ⟨by rfl, ?_⟩; with_reducible rfl) | (refine Or.inl ⟨by rfl, ?_⟩; intro w hSw; (try dsimp only at hSw); go_simp; first | done | with_reducible rfl)
  try simp only [Act.put, List.setIfInBounds_toArray, List.set_cons_zero, List.set_cons_succ]
  refine wpAnyH_take (i := 4) (v := ?_) (arr_at rfl) (by kernel_rfl) (by kernel_rfl) (by kernel_rfl) (fun _ _ _ h => h) ?_ (by assumption) ?_
  rotate_left
  · first | (refine Or.inr ⟨by rfl, ?_⟩; with_reducible rfl) | (refine Or.inl ⟨by rfl, ?_⟩; intro w hSw; (try dsimp only at hSw); go_simp; first | done | with_reducible rfl)
  try simp only [Act.put, List.setIfInBounds_toArray, List.set_cons_zero, List.set_cons_succ]
  refine wpAnyH_ready (rs := [1, 5]) (by kernel_rfl) (by simp) ?_
  refine AllReadyH.cons (arr_at rfl) (fun K hK => ?_) (AllReadyH.cons (arr_at rfl) (fun K hK => ?_) AllReadyH.nil)
  · go_simp
    go_at_call 121; refine (c_CloneK A n c l _ HN.out (HC.out _ B) (by omega)).mono ?_; rintro e w2 ⟨A1, c1, rfl, hc1, hm1, ho, hq⟩; have hfa := own_fr ho; replace ho := own_base ho BW.size; clear hfa; replace k0 := k0.to hq; replace B := Bl.then B hq; replace BW := Bl.then BW hq; clear hq
    refine hK.out _ _ ?_ (fun hHeld => ?_)
    · (try dsimp only); exact ⟨k0.cell 0, k0.cell 1, k0.cell 2⟩
    clear hK K
    try simp only [Act.put, List.setIfInBounds_toArray, List.set_cons_zero, List.set_cons_succ]
    refine wpAnyH_ready (rs := [3, 5]) (by kernel_rfl) (by simp) ?_
    refine AllReadyH.cons (arr_at rfl) (fun K hK => ?_) (AllReadyH.cons (arr_at rfl) (fun K hK => ?_) AllReadyH.nil)
    · go_simp
      go_at_call 120; refine (c_DeleteK 185 _ (fun d => decide (d = x)) _ (enters_of Tryz.func185 (by kernel_rfl) rfl) A1 _ n c1 l _ HP.out BW (Nat.le_refl _) ho HN.out (by omega) hm1).mono ?_; rintro e w3 ⟨m, rfl, hlm, ho2, hb2⟩; replace k0 := K1.out.below hb2 K1.out.lt; replace B := Bl.then HB1.out hb2; replace BW := hb2; clear hb2 ho
      refine hK.out _ _ ?_ (fun hHeld => ?_)
      · (try dsimp only); exact ⟨k0.cell 0, k0.cell 1, k0.cell 2⟩
      clear hK K
      try simp only [Act.put, List.setIfInBounds_toArray, List.set_cons_zero, List.set_cons_succ]
      refine wpAnyH_ready (rs := [5]) (by kernel_rfl) (by simp) ?_
      refine AllReadyH.cons (arr_at rfl) (fun K hK => ?_) AllReadyH.nil
      go_simp
      obtain ⟨bl, hbl⟩ : ∃ b, b = w3.heap.size := ⟨_, rfl⟩; rw [← hbl]; have kl := Blk.new w3 129 #[.int .i64 x.po, .int .i64 x.ad, .int .i64 x.ep]; rw [← hbl] at kl; replace k0 := k0.alloc (.cells #[.int .i64 x.po, .int .i64 x.ad, .int .i64 x.ep] 129); replace ho2 := World.ownsRow.alloc ho2 (.cells #[.int .i64 x.po, .int .i64 x.ad, .int .i64 x.ep] 129); replace B := B.alloc B.size (.cells #[.int .i64 x.po, .int .i64 x.ad, .int .i64 x.ep] 129); replace BW := BW.alloc BW.size (.cells #[.int .i64 x.po, .int .i64 x.ad, .int .i64 x.ep] 129); clear hbl; generalize w3.alloc (.cells #[.int .i64 x.po, .int .i64 x.ad, .int .i64 x.ep] 129) = w5 at *
      refine hK.out _ _ ?_ (fun hHeld => ?_)
      · (try dsimp only); exact ⟨k0.cell 0, k0.cell 1, k0.cell 2⟩
      clear hK K
      try simp only [Act.put, List.setIfInBounds_toArray, List.set_cons_zero, List.set_cons_succ]
      refine wpAnyH_ready (rs := [6]) (by kernel_rfl) (by simp) ?_
      refine AllReadyH.cons (arr_at rfl) (fun K hK => ?_) AllReadyH.nil
      obtain ⟨i0, hi, hz0, hz1, hz2⟩ := info_parts conT_info; have hL : Rd _ _ (conCs [x]) := kl.rd; have hml : m ≤ n := (by rw [← hlm, ← HN.out]; exact List.length_filter_le _ _); have hnl := conCs_len [x]; have hnc := conCs_one [x]; generalize hnle : conCs [x] = nl at hL hnl hnc; have HNL := Lib.hid hnle; clear hnle; refine wp_append_rd _ _ _ 42 rfl w1.heap.size 129 i0 _ 3 24 Tryz.underlying42 hi hz0 hz1 hz2 rfl (by omega) _ m (conCs (l.filter (fun d => !decide (d = x)))) rfl ho2 (some ⟨bl, 0, none⟩) 1 1 nl rfl hL hnl hnc (by unfold maxLen; omega) (by omega) BW.size ?_; intro v1 w6 ho3 hg hat; replace B := B.grown hg B.size (fun j hj => Nat.le_trans HB1.out.size (World.ownsRow.lt ho2 j hj).1); have hk0' := K1.out.below (BW.grown hg BW.size (fun j hj => (World.ownsRow.lt ho2 j hj).1)) K1.out.lt; replace k0 := hk0'; clear hk0' hg hat hi hz0 hz1 hz2 kl hL BW
      refine hK.out _ _ ?_ (fun hHeld => ?_)
      · (try dsimp only); exact ⟨k0.cell 0, k0.cell 1, k0.cell 2⟩
      clear hK K
      try simp only [Act.put, List.setIfInBounds_toArray, List.set_cons_zero, List.set_cons_succ]
      refine wpAnyH_take (i := 7) (v := ?_) (arr_at rfl) (by kernel_rfl) (by kernel_rfl) (by kernel_rfl) (fun _ _ _ h => h) ?_ (by assumption) ?_
      rotate_left
      · first | (refine Or.inr ⟨by rfl, ?_⟩; with_reducible rfl) | (refine Or.inl ⟨by rfl, ?_⟩; intro w hSw; (try dsimp only at hSw); go_simp; first | done | with_reducible rfl)
      try simp only [Act.put, List.setIfInBounds_toArray, List.set_cons_zero, List.set_cons_succ]
      refine wpAnyH_done (by kernel_rfl) ?_ _
      obtain ⟨q, hqm⟩ : ∃ q, m + 1 = q := ⟨_, rfl⟩
      rw [hqm] at ho3
      obtain ⟨g, cap, rfl, hgb, hgl⟩ := World.ownsRow.form ho3 (by omega)
      obtain ⟨A9, c9, e9, hcq, hcm, -⟩ := own_slice ho3
      cases e9
      have hT : TK w6 (some ⟨g, 0, none⟩) (l.filter (fun d => !decide (d = x)) ++ [x]) := (by
        have := Rd.of_ownS ho3
        rw [← HNL.out, ← conCs_app] at this
        exact this)
      have HLM := Lib.hid hlm
      clear hlm k0 ho3 HP K1
      have hsz := HB1.out.size
      by_cases hm9 : q ≤ 10
      · have t1 : decide ((10 : Int) < (q : Int)) = false := by rw [decide_eq_false_iff_not]; omega
        go_wp2_with fail
        refine (c_cloneK (some ⟨g, 0, none⟩) q cap (l.filter (fun d => !decide (d = x)) ++ [x]) _ (by rw [List.length_append, HLM.out]; exact hqm) hT (by omega)).mono ?_
        rintro e w7 ⟨A7, c7, rfl, hc7, ho7, hq⟩
        have hF := (own_fr ho7).low B.size
        have hR := Rd.of_ownS ho7
        rw [← noteC_short HLM.out (by omega)] at hR
        have HR := Lib.hid hR
        have HF := Lib.hid hF
        clear hT ho7 hR hF
        go_wp2
        go_ret2
        exact ⟨A7, q, rfl, by rw [noteC_short HLM.out (by omega), List.length_append, HLM.out]; exact hqm, HF.out, HR.out, Bl.then B hq⟩
      · have t1 : decide ((10 : Int) < (q : Int)) = true := by rw [decide_eq_true_eq]; omega
        have hmq : m = 10 := by omega
        subst hmq
        have hq11 : q = 11 := by omega
        subst hq11
        have hT1 := hT.drop1
        go_wp2_with fail
        refine (c_cloneK _ 10 _ ((l.filter (fun d => !decide (d = x)) ++ [x]).drop 1) _ (by rw [List.length_drop, List.length_append, HLM.out]; rfl) hT1 (by omega)).mono ?_
        rintro e w7 ⟨A7, c7, rfl, hc7, ho7, hq⟩
        have hF := (own_fr ho7).low B.size
        have hR := Rd.of_ownS ho7
        rw [← noteC_long HLM.out] at hR
        have HR := Lib.hid hR
        have HF := Lib.hid hF
        clear hT hT1 ho7 hR hF
        go_wp2
        go_ret2
        exact ⟨A7, 10, rfl, by rw [noteC_long HLM.out, List.length_drop, List.length_append, HLM.out]; rfl, HF.out, HR.out, Bl.then B hq⟩
    · go_simp
      obtain ⟨bl, hbl⟩ : ∃ b, b = w2.heap.size := ⟨_, rfl⟩; rw [← hbl]; have kl := Blk.new w2 129 #[.int .i64 x.po, .int .i64 x.ad, .int .i64 x.ep]; rw [← hbl] at kl; have hfa : ∀ a, A1 = some a → a.block ≠ bl := (fun a ha => by obtain ⟨A', c', he, _, _, hf⟩ := own_slice ho; cases he; have := (hf a ha).2; omega); replace k0 := k0.alloc (.cells #[.int .i64 x.po, .int .i64 x.ad, .int .i64 x.ep] 129); replace ho := World.ownsRow.alloc ho (.cells #[.int .i64 x.po, .int .i64 x.ad, .int .i64 x.ep] 129); replace B := B.alloc B.size (.cells #[.int .i64 x.po, .int .i64 x.ad, .int .i64 x.ep] 129); replace BW := BW.alloc BW.size (.cells #[.int .i64 x.po, .int .i64 x.ad, .int .i64 x.ep] 129); clear hbl; generalize w2.alloc (.cells #[.int .i64 x.po, .int .i64 x.ad, .int .i64 x.ep] 129) = w5 at *
      refine hK.out _ _ ?_ (fun hHeld => ?_)
      · (try dsimp only); exact ⟨k0.cell 0, k0.cell 1, k0.cell 2⟩
      clear hK K
      try simp only [Act.put, List.setIfInBounds_toArray, List.set_cons_zero, List.set_cons_succ]
      refine wpAnyH_ready (rs := [3]) (by kernel_rfl) (by simp) ?_
      refine AllReadyH.cons (arr_at rfl) (fun K hK => ?_) AllReadyH.nil
      go_simp
      go_at_call 120; refine (c_DeleteKk 185 _ (fun d => decide (d = x)) _ (enters_of Tryz.func185 (by kernel_rfl) rfl) A1 _ n c1 l _ HP.out BW (Nat.le_refl _) ho HN.out (by omega) hm1 bl _ _ kl hfa).mono ?_; rintro e w3 ⟨m, rfl, hlm, ho2, hb2, kl⟩; replace k0 := K1.out.below hb2 K1.out.lt; replace B := Bl.then HB1.out hb2; replace BW := hb2; clear hb2 ho hfa
      refine hK.out _ _ ?_ (fun hHeld => ?_)
      · (try dsimp only); exact ⟨k0.cell 0, k0.cell 1, k0.cell 2⟩
      clear hK K
      try simp only [Act.put, List.setIfInBounds_toArray, List.set_cons_zero, List.set_cons_succ]
      refine wpAnyH_ready (rs := [6]) (by kernel_rfl) (by simp) ?_
      refine AllReadyH.cons (arr_at rfl) (fun K hK => ?_) AllReadyH.nil
      obtain ⟨i0, hi, hz0, hz1, hz2⟩ := info_parts conT_info; have hL : Rd _ _ (conCs [x]) := kl.rd; have hml : m ≤ n := (by rw [← hlm, ← HN.out]; exact List.length_filter_le _ _); have hnl := conCs_len [x]; have hnc := conCs_one [x]; generalize hnle : conCs [x] = nl at hL hnl hnc; have HNL := Lib.hid hnle; clear hnle; refine wp_append_rd _ _ _ 42 rfl w1.heap.size 129 i0 _ 3 24 Tryz.underlying42 hi hz0 hz1 hz2 rfl (by omega) _ m (conCs (l.filter (fun d => !decide (d = x)))) rfl ho2 (some ⟨bl, 0, none⟩) 1 1 nl rfl hL hnl hnc (by unfold maxLen; omega) (by omega) BW.size ?_; intro v1 w6 ho3 hg hat; replace B := B.grown hg B.size (fun j hj => Nat.le_trans HB1.out.size (World.ownsRow.lt ho2 j hj).1); have hk0' := K1.out.below (BW.grown hg BW.size (fun j hj => (World.ownsRow.lt ho2 j hj).1)) K1.out.lt; replace k0 := hk0'; clear hk0' hg hat hi hz0 hz1 hz2 kl hL BW
      refine hK.out _ _ ?_ (fun hHeld => ?_)
      · (try dsimp only); exact ⟨k0.cell 0, k0.cell 1, k0.cell 2⟩
      clear hK K
      try simp only [Act.put, List.setIfInBounds_toArray, List.set_cons_zero, List.set_cons_succ]
      refine wpAnyH_take (i := 7) (v := ?_) (arr_at rfl) (by kernel_rfl) (by kernel_rfl) (by kernel_rfl) (fun _ _ _ h => h) ?_ (by assumption) ?_
      rotate_left
      · first | (refine Or.inr ⟨by rfl, ?_⟩; with_reducible rfl) | (refine Or.inl ⟨by rfl, ?_⟩; intro w hSw; (try dsimp only at hSw); go_simp; first | done | with_reducible rfl)
      try simp only [Act.put, List.setIfInBounds_toArray, List.set_cons_zero, List.set_cons_succ]
      refine wpAnyH_done (by kernel_rfl) ?_ _
      obtain ⟨q, hqm⟩ : ∃ q, m + 1 = q := ⟨_, rfl⟩
      rw [hqm] at ho3
      obtain ⟨g, cap, rfl, hgb, hgl⟩ := World.ownsRow.form ho3 (by omega)
      obtain ⟨A9, c9, e9, hcq, hcm, -⟩ := own_slice ho3
      cases e9
      have hT : TK w6 (some ⟨g, 0, none⟩) (l.filter (fun d => !decide (d = x)) ++ [x]) := (by
        have := Rd.of_ownS ho3
        rw [← HNL.out, ← conCs_app] at this
        exact this)
      have HLM := Lib.hid hlm
      clear hlm k0 ho3 HP K1
      have hsz := HB1.out.size
      by_cases hm9 : q ≤ 10
      · have t1 : decide ((10 : Int) < (q : Int)) = false := by rw [decide_eq_false_iff_not]; omega
        go_wp2_with fail
        refine (c_cloneK (some ⟨g, 0, none⟩) q cap (l.filter (fun d => !decide (d = x)) ++ [x]) _ (by rw [List.length_append, HLM.out]; exact hqm) hT (by omega)).mono ?_
        rintro e w7 ⟨A7, c7, rfl, hc7, ho7, hq⟩
        have hF := (own_fr ho7).low B.size
        have hR := Rd.of_ownS ho7
        rw [← noteC_short HLM.out (by omega)] at hR
        have HR := Lib.hid hR
        have HF := Lib.hid hF
        clear hT ho7 hR hF
        go_wp2
        go_ret2
        exact ⟨A7, q, rfl, by rw [noteC_short HLM.out (by omega), List.length_append, HLM.out]; exact hqm, HF.out, HR.out, Bl.then B hq⟩
      · have t1 : decide ((10 : Int) < (q : Int)) = true := by rw [decide_eq_true_eq]; omega
        have hmq : m = 10 := by omega
        subst hmq
        have hq11 : q = 11 := by omega
        subst hq11
        have hT1 := hT.drop1
        go_wp2_with fail
        refine (c_cloneK _ 10 _ ((l.filter (fun d => !decide (d = x)) ++ [x]).drop 1) _ (by rw [List.length_drop, List.length_append, HLM.out]; rfl) hT1 (by omega)).mono ?_
        rintro e w7 ⟨A7, c7, rfl, hc7, ho7, hq⟩
        have hF := (own_fr ho7).low B.size
        have hR := Rd.of_ownS ho7
        rw [← noteC_long HLM.out] at hR
        have HR := Lib.hid hR
        have HF := Lib.hid hF
        clear hT hT1 ho7 hR hF
        go_wp2
        go_ret2
        exact ⟨A7, 10, rfl, by rw [noteC_long HLM.out, List.length_drop, List.length_append, HLM.out]; rfl, HF.out, HR.out, Bl.then B hq⟩
  · go_simp
    obtain ⟨bl, hbl⟩ : ∃ b, b = w1.heap.size := ⟨_, rfl⟩; rw [← hbl]; have kl := Blk.new w1 129 #[.int .i64 x.po, .int .i64 x.ad, .int .i64 x.ep]; rw [← hbl] at kl; replace k0 := k0.alloc (.cells #[.int .i64 x.po, .int .i64 x.ad, .int .i64 x.ep] 129); replace B := B.alloc B.size (.cells #[.int .i64 x.po, .int .i64 x.ad, .int .i64 x.ep] 129); replace BW := BW.alloc BW.size (.cells #[.int .i64 x.po, .int .i64 x.ad, .int .i64 x.ep] 129); clear hbl; generalize w1.alloc (.cells #[.int .i64 x.po, .int .i64 x.ad, .int .i64 x.ep] 129) = w5 at *
    refine hK.out _ _ ?_ (fun hHeld => ?_)
    · (try dsimp only); exact ⟨k0.cell 0, k0.cell 1, k0.cell 2⟩
    clear hK K
    try simp only [Act.put, List.setIfInBounds_toArray, List.set_cons_zero, List.set_cons_succ]
    refine wpAnyH_ready (rs := [1]) (by kernel_rfl) (by simp) ?_
    refine AllReadyH.cons (arr_at rfl) (fun K hK => ?_) AllReadyH.nil
    go_simp
    go_at_call 121; refine (c_CloneK A n c l _ HN.out (HC.out _ B) (by omega)).mono ?_; rintro e w2 ⟨A1, c1, rfl, hc1, hm1, ho, hq⟩; have hfa := own_fr ho; replace ho := own_base ho BW.size; replace hfa : ∀ a, A1 = some a → a.block ≠ bl := (fun a ha => by have := hfa a ha; have := kl.lt; omega); replace kl := kl.to hq; replace k0 := k0.to hq; replace B := Bl.then B hq; replace BW := Bl.then BW hq; clear hq
    refine hK.out _ _ ?_ (fun hHeld => ?_)
    · (try dsimp only); exact ⟨k0.cell 0, k0.cell 1, k0.cell 2⟩
    clear hK K
    try simp only [Act.put, List.setIfInBounds_toArray, List.set_cons_zero, List.set_cons_succ]
    refine wpAnyH_ready (rs := [3]) (by kernel_rfl) (by simp) ?_
    refine AllReadyH.cons (arr_at rfl) (fun K hK => ?_) AllReadyH.nil
    go_simp
    go_at_call 120; refine (c_DeleteKk 185 _ (fun d => decide (d = x)) _ (enters_of Tryz.func185 (by kernel_rfl) rfl) A1 _ n c1 l _ HP.out BW (Nat.le_refl _) ho HN.out (by omega) hm1 bl _ _ kl hfa).mono ?_; rintro e w3 ⟨m, rfl, hlm, ho2, hb2, kl⟩; replace k0 := K1.out.below hb2 K1.out.lt; replace B := Bl.then HB1.out hb2; replace BW := hb2; clear hb2 ho hfa
    refine hK.out _ _ ?_ (fun hHeld => ?_)
    · (try dsimp only); exact ⟨k0.cell 0, k0.cell 1, k0.cell 2⟩
    clear hK K
    try simp only [Act.put, List.setIfInBounds_toArray, List.set_cons_zero, List.set_cons_succ]
    refine wpAnyH_ready (rs := [6]) (by kernel_rfl) (by simp) ?_
    refine AllReadyH.cons (arr_at rfl) (fun K hK => ?_) AllReadyH.nil
    obtain ⟨i0, hi, hz0, hz1, hz2⟩ := info_parts conT_info; have hL : Rd _ _ (conCs [x]) := kl.rd; have hml : m ≤ n := (by rw [← hlm, ← HN.out]; exact List.length_filter_le _ _); have hnl := conCs_len [x]; have hnc := conCs_one [x]; generalize hnle : conCs [x] = nl at hL hnl hnc; have HNL := Lib.hid hnle; clear hnle; refine wp_append_rd _ _ _ 42 rfl w1.heap.size 129 i0 _ 3 24 Tryz.underlying42 hi hz0 hz1 hz2 rfl (by omega) _ m (conCs (l.filter (fun d => !decide (d = x)))) rfl ho2 (some ⟨bl, 0, none⟩) 1 1 nl rfl hL hnl hnc (by unfold maxLen; omega) (by omega) BW.size ?_; intro v1 w6 ho3 hg hat; replace B := B.grown hg B.size (fun j hj => Nat.le_trans HB1.out.size (World.ownsRow.lt ho2 j hj).1); have hk0' := K1.out.below (BW.grown hg BW.size (fun j hj => (World.ownsRow.lt ho2 j hj).1)) K1.out.lt; replace k0 := hk0'; clear hk0' hg hat hi hz0 hz1 hz2 kl hL BW
    refine hK.out _ _ ?_ (fun hHeld => ?_)
    · (try dsimp only); exact ⟨k0.cell 0, k0.cell 1, k0.cell 2⟩
    clear hK K
    try simp only [Act.put, List.setIfInBounds_toArray, List.set_cons_zero, List.set_cons_succ]
    refine wpAnyH_take (i := 7) (v := ?_) (arr_at rfl) (by kernel_rfl) (by kernel_rfl) (by kernel_rfl) (fun _ _ _ h => h) ?_ (by assumption) ?_
    rotate_left
    · first | (refine Or.inr ⟨by rfl, ?_⟩; with_reducible rfl) | (refine Or.inl ⟨by rfl, ?_⟩; intro w hSw; (try dsimp only at hSw); go_simp; first | done | with_reducible rfl)
    try simp only [Act.put, List.setIfInBounds_toArray, List.set_cons_zero, List.set_cons_succ]
    refine wpAnyH_done (by kernel_rfl) ?_ _
    obtain ⟨q, hqm⟩ : ∃ q, m + 1 = q := ⟨_, rfl⟩
    rw [hqm] at ho3
    obtain ⟨g, cap, rfl, hgb, hgl⟩ := World.ownsRow.form ho3 (by omega)
    obtain ⟨A9, c9, e9, hcq, hcm, -⟩ := own_slice ho3
    cases e9
    have hT : TK w6 (some ⟨g, 0, none⟩) (l.filter (fun d => !decide (d = x)) ++ [x]) := (by
      have := Rd.of_ownS ho3
      rw [← HNL.out, ← conCs_app] at this
      exact this)
    have HLM := Lib.hid hlm
    clear hlm k0 ho3 HP K1
    have hsz := HB1.out.size
    by_cases hm9 : q ≤ 10
    · have t1 : decide ((10 : Int) < (q : Int)) = false := by rw [decide_eq_false_iff_not]; omega
      go_wp2_with fail
      refine (c_cloneK (some ⟨g, 0, none⟩) q cap (l.filter (fun d => !decide (d = x)) ++ [x]) _ (by rw [List.length_append, HLM.out]; exact hqm) hT (by omega)).mono ?_
      rintro e w7 ⟨A7, c7, rfl, hc7, ho7, hq⟩
      have hF := (own_fr ho7).low B.size
      have hR := Rd.of_ownS ho7
      rw [← noteC_short HLM.out (by omega)] at hR
      have HR := Lib.hid hR
      have HF := Lib.hid hF
      clear hT ho7 hR hF
      go_wp2
      go_ret2
      exact ⟨A7, q, rfl, by rw [noteC_short HLM.out (by omega), List.length_append, HLM.out]; exact hqm, HF.out, HR.out, Bl.then B hq⟩
    · have t1 : decide ((10 : Int) < (q : Int)) = true := by rw [decide_eq_true_eq]; omega
      have hmq : m = 10 := by omega
      subst hmq
      have hq11 : q = 11 := by omega
      subst hq11
      have hT1 := hT.drop1
      go_wp2_with fail
      refine (c_cloneK _ 10 _ ((l.filter (fun d => !decide (d = x)) ++ [x]).drop 1) _ (by rw [List.length_drop, List.length_append, HLM.out]; rfl) hT1 (by omega)).mono ?_
      rintro e w7 ⟨A7, c7, rfl, hc7, ho7, hq⟩
      have hF := (own_fr ho7).low B.size
      have hR := Rd.of_ownS ho7
      rw [← noteC_long HLM.out] at hR
      have HR := Lib.hid hR
      have HF := Lib.hid hF
      clear hT hT1 ho7 hR hF
      go_wp2
      go_ret2
      exact ⟨A7, 10, rfl, by rw [noteC_long HLM.out, List.length_drop, List.length_append, HLM.out]; rfl, HF.out, HR.out, Bl.then B hq⟩
end Go.Proofs.YtjflfhjnbccpmaaGreatDoor
namespace Go.Proofs.YtjflfhjnbccpmaaGreatDoor
open Go.RowKit
structure IdxStep (P : Nat → Bool) (k : Nat) : Prop where
  one : 0 ≤ idx P k → idx P (k + 1) = idx P k
  two : ¬ 0 ≤ idx P k → P k = true → idx P (k + 1) = k
  three : P k = false → idx P (k + 1) = idx P k
theorem idx_step (P : Nat → Bool) (k : Nat) : IdxStep P k := by
  rcases idx_cases P k with ⟨j, hj, h1, h2, e⟩ | ⟨h1, e⟩
  · have e' : idx P (k + 1) = j := idx_some (by omega) h1 h2
    exact ⟨fun _ => by rw [e', e], fun h => absurd (by rw [e]; omega) h, fun _ => by rw [e', e]⟩
  · refine ⟨fun h => absurd h (by rw [e]; decide), fun _ h => idx_some (by omega) h h1, fun h => ?_⟩
    rw [e]
    exact idx_none (fun j hj => by
      rcases Nat.lt_or_ge j k with h3 | h3
      · exact h1 j h3
      · obtain rfl : j = k := by omega
        exact h)
theorem p_free (b : Nat) (A : Option Addr) (n c : Nat) (l : List Mpg) (w0 : World) (hn : l.length = n) (h : TM w0 A l) (hl : n ≤ 1099511627776) (hk : Blk w0 b 41 #[.slice A n c]) (p : Int) (W : World) (hW : Below w0.heap.size w0 W) :
    Calls Tryz.prog 190 #[.int .i64 p, .pointer (some ⟨b, 0, none⟩)] W fun e w' => e = .returned (.bool (decide (byP l p n < 0))) ∧ Below W.heap.size W w' := by
  have hK := hk.to hW
  have y0 := hK.cell 0
  have hlt := hK.lt
  simp only [List.getElem?_toArray, List.getElem?_cons_zero] at y0
  have HN := Lib.hid hn
  have hT := h.to hW
  clear hn hk hW h hK
  go_enter Tryz.func190, Tryz.ntmps190
  go_wp2_with fail
  refine (c_byPort _ _ _ l _ _ HN.out hT hl).mono ?_
  rintro e w1 ⟨rfl, hq⟩
  go_wp2
  go_ret
  exact ⟨rfl, hq⟩
set_option maxHeartbeats 1600000 in
theorem c_ifreePort (A : Option Addr) (n c : Nat) (l : List Mpg) (want : Int) (w : World) (hn : l.length = n) (h : TM w A l) (hl : n ≤ 1099511627776) (h0 : 0 ≤ want) :
    Calls Tryz.prog 184 #[.slice A n c, .int .i64 want] w fun e w' => e = .returned (.int .i64 (fpt l n want)) ∧ Below w.heap.size w w' := by
  have HP : Hid (∀ (p : Int) (W : World), Below (w.alloc (.cells #[.slice A n c] 41)).heap.size (w.alloc (.cells #[.slice A n c] 41)) W → Calls Tryz.prog 190 #[.int .i64 p, .pointer (some ⟨w.heap.size, 0, none⟩)] W fun e w' => e = .returned (.bool (decide (byP l p n < 0))) ∧ Below W.heap.size W w') :=
    fun p W hW => p_free w.heap.size A n c l _ hn (h.alloc _) hl (Blk.new w _ _) p W hW
  have eg := enters_of Tryz.func190 (by kernel_rfl) rfl
  have B : Below w.heap.size w (w.alloc (.cells #[.slice A n c] 41)) := (Below.refl _ _).alloc (Nat.le_refl _) _
  have B1 : Below (w.alloc (.cells #[.slice A n c] 41)).heap.size (w.alloc (.cells #[.slice A n c] 41)) (w.alloc (.cells #[.slice A n c] 41)) := Below.refl _ _
  clear hn h
  generalize hw0 : w.alloc (.cells #[.slice A n c] 41) = w0 at HP B B1
  go_enter Tryz.func184, Tryz.ntmps184
  go_wp2_with fail
  refine (c_isOutside _ _).mono ?_
  rintro e w' ⟨rfl, rfl⟩
  cases h1 : inB want 1000 1007
  · have HF1 : Hid (∀ {k : Nat}, idx (fpP l n want) 8 = k → fpt l n want = 1000 + k) := fun {k} e => fpt_par (by rw [h1]; rfl) e
    have HF0 : Hid (idx (fpP l n want) 8 = -1 → fpt l n want = if 0 ≤ idx (fpQ l n) 8 then 1000 + idx (fpQ l n) 8 else -1) := fun e => fpt_any (by rw [h1]; rfl) e
    go_wp2
    go_loopw [6, 7] (fun o i wr => ∃ (k : Nat) (zz : Int), k ≤ 8 ∧ i = .int .i64 ((1000 : Int) + k) ∧ o = .int .i64 zz ∧ Hid (zz = if 0 ≤ idx (fpQ l n) k then 1000 + idx (fpQ l n) k else -1) ∧ Hid (∀ j, j < k → fpP l n want j = false) ∧ Hid (Below w.heap.size w wr ∧ Below w0.heap.size w0 wr)) (fun _ i _ => 1008 - (intOf i).toNat)
    case atStart => exact ⟨0, -1, by omega, rfl, rfl, rfl, fun j hj => absurd hj (by omega), B, B1⟩
    case round =>
      clear B B1
      obtain ⟨k, zz, hk, rfl, rfl, HZZ, hF, HB⟩ := hrel
      obtain ⟨B, B1⟩ := HB.out
      clear HB
      by_cases hk8 : k < 8
      · have t9 : decide ((1000 : Int) + k ≤ 1007) = true := by rw [decide_eq_true_eq]; omega
        have e1 : IntKind.i64.wrap ((1000 : Int) + k + 1) = 1000 + k + 1 := IntWalk.i64_in _ (by omega)
        have hp : fpP l n want k = ((((1000 : Int) + k) % 2 == want % 2) && decide (byP l ((1000 : Int) + k) n < 0)) := rfl
        have hq2 : fpQ l n k = decide (byP l ((1000 : Int) + k) n < 0) := rfl
        have HPP := Lib.hid hp
        have HQQ := Lib.hid hq2
        have HIS := Lib.hid (idx_step (fpQ l n) k)
        clear hp hq2
        go_wp2_with fail
        refine (HP.out _ _ B1).mono ?_
        rintro e w1 ⟨rfl, hq⟩
        replace B := Bl.then B hq
        replace B1 := Bl.then B1 hq
        clear hq
        generalize byP l ((1000 : Int) + k) n = z at HPP HQQ ⊢
        by_cases hz : z < 0
        · have tz : decide (z < 0) = true := by rw [decide_eq_true_eq]; exact hz
          have HZ := Lib.hid tz
          cases tq : (((1000 : Int) + k) % 2 == want % 2)
          · have HT := Lib.hid tq
            by_cases h0i : 0 ≤ zz
            · have t7 : decide (zz < 0) = false := by rw [decide_eq_false_iff_not]; omega
              have HS : Hid (zz = if 0 ≤ idx (fpQ l n) (k + 1) then 1000 + idx (fpQ l n) (k + 1) else -1) := (by
                have h2 := HZZ.out
                by_cases h3 : 0 ≤ idx (fpQ l n) k
                · rw [HIS.out.one h3]; exact h2
                · rw [if_neg h3] at h2; omega)
              go_wp2
              go_roundw
              case rel => exact ⟨k + 1, zz, by omega, by go_num, rfl, HS, upTo_succ hF.out (by rw [HPP.out, HT.out]; rfl), B, B1⟩
              case measure => simp [intOf]; omega
            · have t7 : decide (zz < 0) = true := by rw [decide_eq_true_eq]; omega
              have HS : Hid ((1000 : Int) + k = if 0 ≤ idx (fpQ l n) (k + 1) then 1000 + idx (fpQ l n) (k + 1) else -1) := (by
                have h2 := HZZ.out
                by_cases h3 : 0 ≤ idx (fpQ l n) k
                · rw [if_pos h3] at h2; omega
                · rw [HIS.out.two h3 (by rw [HQQ.out, HZ.out]), if_pos (by omega)]; rfl)
              go_wp2
              go_roundw
              case rel => exact ⟨k + 1, (1000 : Int) + k, by omega, by go_num, rfl, HS, upTo_succ hF.out (by rw [HPP.out, HT.out]; rfl), B, B1⟩
              case measure => simp [intOf]; omega
          · have HT := Lib.hid tq
            go_wp2
            go_ret
            exact ⟨ret_int (by rw [HF1.out (k := k) (idx_some hk8 (by rw [HPP.out, HT.out, HZ.out]; rfl) hF.out)]), B⟩
        · have tz : decide (z < 0) = false := by rw [decide_eq_false_iff_not]; exact hz
          have HZ := Lib.hid tz
          have HS : Hid (zz = if 0 ≤ idx (fpQ l n) (k + 1) then 1000 + idx (fpQ l n) (k + 1) else -1) := (by rw [HIS.out.three (by rw [HQQ.out, tz])]; exact HZZ.out)
          go_wp2
          go_roundw
          case rel => exact ⟨k + 1, zz, by omega, by go_num, rfl, HS, upTo_succ hF.out (by rw [HPP.out, HZ.out, Bool.and_false]), B, B1⟩
          case measure => simp [intOf]; omega
      · obtain rfl : k = 8 := by omega
        go_wp2
        go_ret
        exact ⟨ret_int (by rw [HF0.out (idx_none hF.out)]; exact HZZ.out), B⟩
  · have HB1 := Lib.hid h1
    go_wp2_with fail
    refine (HP.out _ _ B1).mono ?_
    rintro e w1 ⟨rfl, hq⟩
    replace B := Bl.then B hq
    replace B1 := Bl.then B1 hq
    clear hq
    generalize hx0 : byP l want n = x
    have HX0 := Lib.hid hx0
    clear hx0
    by_cases hx : x < 0
    · have t0 : decide (x < 0) = true := by rw [decide_eq_true_eq]; exact hx
      have HT0 := Lib.hid t0
      go_wp2
      go_ret
      exact ⟨ret_int (by rw [fpt_own (by rw [HB1.out, HX0.out, HT0.out]; rfl)]), B⟩
    · have t0 : decide (x < 0) = false := by rw [decide_eq_false_iff_not]; exact hx
      have HF1 : Hid (∀ {k : Nat}, idx (fpP l n want) 8 = k → fpt l n want = 1000 + k) := fun {k} e => fpt_par (by rw [HX0.out, t0]; simp) e
      have HF0 : Hid (idx (fpP l n want) 8 = -1 → fpt l n want = if 0 ≤ idx (fpQ l n) 8 then 1000 + idx (fpQ l n) 8 else -1) := fun e => fpt_any (by rw [HX0.out, t0]; simp) e
      go_wp2
      go_loopw [6, 7] (fun o i wr => ∃ (k : Nat) (zz : Int), k ≤ 8 ∧ i = .int .i64 ((1000 : Int) + k) ∧ o = .int .i64 zz ∧ Hid (zz = if 0 ≤ idx (fpQ l n) k then 1000 + idx (fpQ l n) k else -1) ∧ Hid (∀ j, j < k → fpP l n want j = false) ∧ Hid (Below w.heap.size w wr ∧ Below w0.heap.size w0 wr)) (fun _ i _ => 1008 - (intOf i).toNat)
      case atStart => exact ⟨0, -1, by omega, rfl, rfl, rfl, fun j hj => absurd hj (by omega), B, B1⟩
      case round =>
        clear B B1
        obtain ⟨k, zz, hk, rfl, rfl, HZZ, hF, HB⟩ := hrel
        obtain ⟨B, B1⟩ := HB.out
        clear HB
        by_cases hk8 : k < 8
        · have t9 : decide ((1000 : Int) + k ≤ 1007) = true := by rw [decide_eq_true_eq]; omega
          have e1 : IntKind.i64.wrap ((1000 : Int) + k + 1) = 1000 + k + 1 := IntWalk.i64_in _ (by omega)
          have hp : fpP l n want k = ((((1000 : Int) + k) % 2 == want % 2) && decide (byP l ((1000 : Int) + k) n < 0)) := rfl
          have hq2 : fpQ l n k = decide (byP l ((1000 : Int) + k) n < 0) := rfl
          have HPP := Lib.hid hp
          have HQQ := Lib.hid hq2
          have HIS := Lib.hid (idx_step (fpQ l n) k)
          clear hp hq2
          go_wp2_with fail
          refine (HP.out _ _ B1).mono ?_
          rintro e w1 ⟨rfl, hq⟩
          replace B := Bl.then B hq
          replace B1 := Bl.then B1 hq
          clear hq
          generalize byP l ((1000 : Int) + k) n = z at HPP HQQ ⊢
          by_cases hz : z < 0
          · have tz : decide (z < 0) = true := by rw [decide_eq_true_eq]; exact hz
            have HZ := Lib.hid tz
            cases tq : (((1000 : Int) + k) % 2 == want % 2)
            · have HT := Lib.hid tq
              by_cases h0i : 0 ≤ zz
              · have t7 : decide (zz < 0) = false := by rw [decide_eq_false_iff_not]; omega
                have HS : Hid (zz = if 0 ≤ idx (fpQ l n) (k + 1) then 1000 + idx (fpQ l n) (k + 1) else -1) := (by
                  have h2 := HZZ.out
                  by_cases h3 : 0 ≤ idx (fpQ l n) k
                  · rw [HIS.out.one h3]; exact h2
                  · rw [if_neg h3] at h2; omega)
                go_wp2
                go_roundw
                case rel => exact ⟨k + 1, zz, by omega, by go_num, rfl, HS, upTo_succ hF.out (by rw [HPP.out, HT.out]; rfl), B, B1⟩
                case measure => simp [intOf]; omega
              · have t7 : decide (zz < 0) = true := by rw [decide_eq_true_eq]; omega
                have HS : Hid ((1000 : Int) + k = if 0 ≤ idx (fpQ l n) (k + 1) then 1000 + idx (fpQ l n) (k + 1) else -1) := (by
                  have h2 := HZZ.out
                  by_cases h3 : 0 ≤ idx (fpQ l n) k
                  · rw [if_pos h3] at h2; omega
                  · rw [HIS.out.two h3 (by rw [HQQ.out, HZ.out]), if_pos (by omega)]; rfl)
                go_wp2
                go_roundw
                case rel => exact ⟨k + 1, (1000 : Int) + k, by omega, by go_num, rfl, HS, upTo_succ hF.out (by rw [HPP.out, HT.out]; rfl), B, B1⟩
                case measure => simp [intOf]; omega
            · have HT := Lib.hid tq
              go_wp2
              go_ret
              exact ⟨ret_int (by rw [HF1.out (k := k) (idx_some hk8 (by rw [HPP.out, HT.out, HZ.out]; rfl) hF.out)]), B⟩
          · have tz : decide (z < 0) = false := by rw [decide_eq_false_iff_not]; exact hz
            have HZ := Lib.hid tz
            have HS : Hid (zz = if 0 ≤ idx (fpQ l n) (k + 1) then 1000 + idx (fpQ l n) (k + 1) else -1) := (by rw [HIS.out.three (by rw [HQQ.out, tz])]; exact HZZ.out)
            go_wp2
            go_roundw
            case rel => exact ⟨k + 1, zz, by omega, by go_num, rfl, HS, upTo_succ hF.out (by rw [HPP.out, HZ.out, Bool.and_false]), B, B1⟩
            case measure => simp [intOf]; omega
        · obtain rfl : k = 8 := by omega
          go_wp2
          go_ret
          exact ⟨ret_int (by rw [HF0.out (idx_none hF.out)]; exact HZZ.out), B⟩
end Go.Proofs.YtjflfhjnbccpmaaGreatDoor
namespace Go.Proofs.YtjflfhjnbccpmaaGreatDoor
open Go.RowKit
set_option maxHeartbeats 1600000 in
theorem c_mapEnd (A : Option Addr) (n c : Nat) (l : List Mpg) (x y now : Int) (w : World) (hn : l.length = n) (h : TM w A l) (hl : n ≤ 1048576) (hy : 0 ≤ y) :
    Calls Tryz.prog 140 #[.slice A n c, .agg #[.int .i64 x, .int .i64 y], .int .i64 now] w (EndM (mapT l n x y now) w) := by
  have HN := Lib.hid hn
  have HA : Hid (∀ W, Below w.heap.size w W → TM W A l) := fun W b => h.to b
  clear hn h
  have k0 := (Blk.new w 70 #[.int .i64 x, .int .i64 y]).alloc (.cells #[] 84)
  have ho : MO ((w.alloc (.cells #[.int .i64 x, .int .i64 y] 70)).alloc (.cells #[] 84)) w.heap.size (.slice (some ⟨w.heap.size + 1, 0, none⟩) 0 0) [] := MO.empty (by simp) (by simp)
  have B0 : Below w.heap.size w ((w.alloc (.cells #[.int .i64 x, .int .i64 y] 70)).alloc (.cells #[] 84)) := ((Below.refl _ _).alloc (Nat.le_refl _) _).alloc (by simp) _
  have hT := HA.out _ B0
  have hnl := mapCs_len l
  rw [HN.out] at hnl
  have hnc := mapCs_one l
  unfold TM at hT
  generalize hnle : mapCs l = nl at hnl hnc hT
  have HNL := Lib.hid hnle
  clear hnle
  have hoR : ((w.alloc (.cells #[.int .i64 x, .int .i64 y] 70)).alloc (.cells #[] 84)).ownsRow w.heap.size 84 4 (.slice (some ⟨w.heap.size + 1, 0, none⟩) 0 0) 0 [] := ho
  clear ho
  go_enter Tryz.func140, Tryz.ntmps140
  go_wp2_with (at_builtin; go_must (obtain ⟨i0, hi, hz0, hz1, hz2⟩ := info_parts mapT_info; refine wpList_append_rd _ rfl _ _ 41 rfl w.heap.size 84 i0 _ 4 32 Tryz.underlying41 hi hz0 hz1 hz2 rfl (by omega) _ 0 [] rfl hoR A n c nl rfl hT hnl hnc (by unfold maxLen; omega) (by omega) (by simp; omega) ?_; intro v1 w5 ho5 hg5 hat5; have k5 := k0.grown hg5 (by intro e; injection e with e; simp at e); have x0 := k5.cell 0; have x1 := k5.cell 1; have xl := k5.lt; simp only [List.getElem?_toArray, List.getElem?_cons_zero, List.getElem?_cons_succ] at x0 x1; clear hi hz0 hz1 hz2 hat5))
  have B5 := B0.grown hg5 (by simp; omega) (fun j hj => (World.ownsRow.lt hoR j hj).1)
  have ho5' : MO w5 w.heap.size v1 l := by
    unfold MO
    rw [HNL.out, HN.out]
    simpa using ho5
  clear ho5 hoR k0 B0 hT hg5
  have hT5 : TM w5 A l := HA.out _ B5
  refine (c_byInside _ _ _ l x y _ HN.out hT5 (by omega)).mono ?_
  rintro e w6 ⟨rfl, hq⟩
  have k6 := k5.to hq
  have ho6 := ho5'.to hq
  have B6 := Bl.then B5 hq
  have hT6 := hT5.to hq
  clear hq k5 ho5' B5 hT5
  have hbd := idx_bd (fun k => isE (mn l k) x y) n
  change -1 ≤ byE l x y n ∧ byE l x y n < n at hbd
  generalize hpl : byE l x y n = at' at hbd
  have HPL := Lib.hid hpl
  clear hpl
  by_cases hneg : at' < 0
  · have t0 : decide (0 ≤ at') = false := by rw [decide_eq_false_iff_not]; omega
    have y1 := k6.cell 1
    simp only [List.getElem?_toArray, List.getElem?_cons_zero, List.getElem?_cons_succ] at y1
    have hlt := k6.lt
    go_wp2_with fail
    refine (c_freePort _ _ _ l y _ HN.out hT6 (by omega) hy).mono ?_
    rintro e w' ⟨rfl, rfl⟩
    have hfb := fpt_bd l n y
    generalize hp : fpt l n y = p at hfb
    have HP := Lib.hid hp
    clear hp
    by_cases hpn : p < 0
    · have t1 : decide (p < 0) = true := by rw [decide_eq_true_eq]; exact hpn
      have HN1 := Lib.hid (And.intro hneg hpn)
      clear hneg hpn
      go_wp2
      go_ret3
      refine ⟨B6, ?_⟩
      unfold mapT
      rw [HPL.out, if_neg (by have := HN1.out.1; omega), HP.out, if_pos HN1.out.2]
      rfl
    · have t1 : decide (p < 0) = false := by rw [decide_eq_false_iff_not]; exact hpn
      have HN1 := Lib.hid (And.intro hneg hpn)
      clear hneg hpn
      have y0 := k6.cell 0
      simp only [List.getElem?_toArray, List.getElem?_cons_zero] at y0
      have hL : TM (w6.alloc (.cells #[.int .i64 x, .int .i64 y, .int .i64 p, .int .i64 now] 84)) (some ⟨w6.heap.size, 0, none⟩) [⟨x, y, p, now⟩] := lit_map (w := w6) ⟨x, y, p, now⟩ rfl rfl
      have hoR : (w6.alloc (.cells #[.int .i64 x, .int .i64 y, .int .i64 p, .int .i64 now] 84)).ownsRow w.heap.size 84 4 v1 l.length (mapCs l) := World.ownsRow.alloc ho6 _
      have hnl2 := mapCs_len [(⟨x, y, p, now⟩ : Mpg)]
      have hnc2 := mapCs_one [(⟨x, y, p, now⟩ : Mpg)]
      unfold TM at hL
      generalize hnle2 : mapCs [(⟨x, y, p, now⟩ : Mpg)] = nl2 at hnl2 hnc2 hL
      have HNL2 := Lib.hid hnle2
      clear hnle2
      have s6 := B6.size
      rw [HN.out] at hoR
      go_wp2_with (at_builtin; go_must (obtain ⟨i0, hi, hz0, hz1, hz2⟩ := info_parts mapT_info; refine wpList_append_rd _ rfl _ _ 41 rfl w.heap.size 84 i0 _ 4 32 Tryz.underlying41 hi hz0 hz1 hz2 rfl (by omega) _ n (mapCs l) rfl hoR (some ⟨w6.heap.size, 0, none⟩) 1 1 nl2 rfl hL hnl2 hnc2 (by unfold maxLen; omega) (by omega) (by simp; omega) ?_; intro v2 w7 ho7 hg7 hat7; clear hi hz0 hz1 hz2 hat7))
      have B7 := (B6.alloc B6.size (.cells #[.int .i64 x, .int .i64 y, .int .i64 p, .int .i64 now] 84)).grown hg7 (by have := B6.size; simp; omega) (fun j hj => (World.ownsRow.lt hoR j hj).1)
      go_ret3
      refine ⟨B7, ?_⟩
      unfold mapT
      rw [HPL.out, if_neg (by have := HN1.out.1; omega), HP.out, if_neg (by have := HN1.out.2; omega)]
      refine ⟨v2, rfl, ?_⟩
      unfold MO
      rw [mapCs_app, HNL2.out, List.length_append, HN.out]
      exact ho7
  · have t0 : decide (0 ≤ at') = true := by rw [decide_eq_true_eq]; omega
    obtain ⟨k, rfl⟩ := Int.eq_ofNat_of_zero_le (show 0 ≤ at' by omega)
    have hkn : k < n := by omega
    have hkl : Hid (k < l.length) := Lib.hid (by rw [HN.out]; exact hkn)
    have e2 : 0 ≤ (k : Int) ∧ (k : Int) < n := by omega
    have hoR : w6.ownsRow w.heap.size 84 4 v1 n (mapCs l) := by have := ho6; unfold MO at this; rwa [HN.out] at this
    obtain ⟨g, cap, rfl, hgb, hgl⟩ := World.ownsRow.form hoR (by omega)
    have y3 : w6.cell? ⟨g, k * 4 + 3, none⟩ = some (.int .i64 (mn l k).la) := by rw [World.ownsRow.cellAt hoR _ (by omega), mapCs_at hkl.out (by omega)]; rfl
    have f3 := World.ownsRow.frozenAt hoR (k * 4 + 3)
    have hF : Hid (∀ z : Int, (w6.setCell ⟨g, k * 4 + 3, none⟩ (.int .i64 z)).cell? ⟨g, k * 4 + 2, none⟩ = some (.int .i64 (mn l k).po)) := fun z => by
      rw [World.cell?_setCell_other _ _ _ _ (by intro e; injection e with _ e2; omega)]
      rw [World.ownsRow.cellAt hoR _ (by omega), mapCs_at hkl.out (by omega)]; rfl
    have hQ : Hid (∀ (z : Int), max (mn l k).la now = z → ∀ q, EndM (mapT l n x y now) w (.returned (.tuple #[.slice (some ⟨g, 0, none⟩) n cap, .int .i64 (mn l k).po, .bool true])) ((w6.setCell ⟨g, k * 4 + 3, none⟩ (.int .i64 z)).drewN q)) := fun z hz q => by
      obtain ⟨st, gr⟩ := World.ownsRow.stored hoR (k * 4 + 3) (.int .i64 z)
      refine ⟨Bl.drewN (B6.setCell hgb _) q, ?_⟩
      unfold mapT
      rw [HPL.out, if_pos (by omega), Int.toNat_natCast, hz]
      refine ⟨_, rfl, ?_⟩
      refine MO.drewN ?_ q
      unfold MO
      rw [← mapCs_set hkl.out, List.length_set, HN.out]
      exact st
    clear hneg ho6 hoR
    go_wp2
    all_goals first
      | (have c2 := hF.out (max (mn l k).la now); generalize hw7 : w6.setCell ⟨g, k * 4 + 3, none⟩ (.int .i64 (max (mn l k).la now)) = w7 at *; go_quiet (fail); go_wp2; go_ret3; rw [← hw7]; exact hQ.out _ (rfl) _)
      | (have c2 := hF.out (now); generalize hw7 : w6.setCell ⟨g, k * 4 + 3, none⟩ (.int .i64 (now)) = w7 at *; go_quiet (fail); go_wp2; go_ret3; rw [← hw7]; exact hQ.out _ (by omega) _)
      | (have c2 := hF.out ((mn l k).la); generalize hw7 : w6.setCell ⟨g, k * 4 + 3, none⟩ (.int .i64 ((mn l k).la)) = w7 at *; go_quiet (fail); go_wp2; go_ret3; rw [← hw7]; exact hQ.out _ (by omega) _)
theorem EndM.none {w w' : World} {q : Option (List Mpg × Int)} (h : q = none) (hb : Below w.heap.size w w') : EndM q w (.returned (.tuple #[.slice none 0 0, .int .i64 (-1), .bool false])) w' := by
  subst h
  exact ⟨hb, rfl⟩
end Go.Proofs.YtjflfhjnbccpmaaGreatDoor
namespace Go.Proofs.YtjflfhjnbccpmaaGreatDoor
open Go.RowKit
/-- What MapEnd hands back. -/
def EndI (q : Option (List Mpg × Int)) (w : World) (e : Ending) (w' : World) : Prop :=
  Below w.heap.size w w' ∧ match q with
    | none => e = .returned (.tuple #[.slice none 0 0, .int .i64 (-1), .bool false])
    | some (l', p) => ∃ A' m, e = .returned (.tuple #[.slice A' m m, .int .i64 p, .bool true]) ∧ l'.length = m ∧ Fr A' w.heap.size ∧ TM w' A' l'
theorem own_none {w : World} {base e size n c : Nat} {A : Option Addr} {xs : List Value} (h : w.ownsRow base e size (.slice A n c) n xs) (hA : A = none) : n = 0 := by
  subst hA
  rcases h.2 with ⟨h1, h0⟩ | ⟨g, cap, cur, hv, _⟩
  · exact h0
  · injection hv with hA; cases hA
set_option maxHeartbeats 1600000 in
theorem c_iMapEnd (A : Option Addr) (n c : Nat) (l : List Mpg) (x y now : Int) (w : World) (hn : l.length = n) (hc : n ≤ c) (h : TM w A l) (hl : n ≤ 1000) (hv : vTab l = true) (hx : inB x 0 65535 = true) (hy : inB y 0 65535 = true) (ht : inB now 0 10000 = true) :
    Calls Tryz.prog 161 #[.slice A n c, .agg #[.int .i64 x, .int .i64 y], .int .i64 now] w (EndI (mapT l n x y now) w) := by
  have HN := Lib.hid hn
  have HA : Hid (∀ W, Below w.heap.size w W → TM W A l) := fun W b => h.to b
  have HV := Lib.hid hv
  have hy0 : 0 ≤ y := (inB_true hy).1
  have HXY : Hid ((inB x 0 65535 && inB y 0 65535) = true) := by rw [hx, hy]; rfl
  have HT := Lib.hid ht
  clear hn h hv hx hy ht
  have k0 := Blk.new w 70 #[.int .i64 x, .int .i64 y]
  have B : Below w.heap.size w (w.alloc (.cells #[.int .i64 x, .int .i64 y] 70)) := (Below.refl _ _).alloc (Nat.le_refl _) _
  have y0 := k0.cell 0; have y1 := k0.cell 1; have hlt := k0.lt; simp only [List.getElem?_toArray, List.getElem?_cons_zero, List.getElem?_cons_succ] at y0 y1
  go_enter Tryz.func161, Tryz.ntmps161
  go_wp2_with fail
  refine (c_iValidTable A n c l _ HN.out hc (HA.out _ B) (by omega)).mono ?_
  rw [HV.out]
  rintro e w1 ⟨rfl, hq⟩
  replace k0 := k0.to hq; replace B := Bl.then B hq; clear y0 y1 hlt hq
  have y0 := k0.cell 0; have y1 := k0.cell 1; have hlt := k0.lt; simp only [List.getElem?_toArray, List.getElem?_cons_zero, List.getElem?_cons_succ] at y0 y1
  go_wp2_with fail
  refine (c_endValid _ _ _).mono ?_
  rw [HXY.out]
  rintro e w2 ⟨rfl, hq⟩
  replace k0 := k0.to hq; replace B := Bl.then B hq; clear y0 y1 hlt hq
  have y0 := k0.cell 0; have y1 := k0.cell 1; have hlt := k0.lt; simp only [List.getElem?_toArray, List.getElem?_cons_zero, List.getElem?_cons_succ] at y0 y1
  go_wp2_with fail
  refine (c_isTime _ _).mono ?_
  rw [HT.out]
  rintro e w' ⟨rfl, rfl⟩
  go_wp2_with fail
  refine (c_cloneM A n c l _ HN.out (HA.out _ B) (by omega)).mono ?_
  rintro e w3 ⟨A1, c1, rfl, hc1, ho1, hq⟩
  have ho := own_base ho1 B.size
  clear ho1
  replace k0 := k0.to hq; replace B := Bl.then B hq; clear y0 y1 hlt hq
  have y0 := k0.cell 0; have y1 := k0.cell 1; have hlt := k0.lt; simp only [List.getElem?_toArray, List.getElem?_cons_zero, List.getElem?_cons_succ] at y0 y1
  go_wp2_with fail
  refine (c_byEnd A n c l x y _ HN.out (HA.out _ B) (by omega)).mono ?_
  rintro e w4 ⟨rfl, hq⟩
  have hoR := own_to ho hq (Nat.le_refl _)
  clear ho
  replace k0 := k0.to hq; replace B := Bl.then B hq; clear y0 y1 hlt hq
  have hbd := idx_bd (fun k => isE (mn l k) x y) n
  change -1 ≤ byE l x y n ∧ byE l x y n < n at hbd
  generalize hpl : byE l x y n = at' at hbd
  have HPL := Lib.hid hpl
  clear hpl
  by_cases hneg : at' < 0
  · have t0 : decide (0 ≤ at') = false := by rw [decide_eq_false_iff_not]; omega
    have y0 := k0.cell 0; have y1 := k0.cell 1; have hlt := k0.lt; simp only [List.getElem?_toArray, List.getElem?_cons_zero, List.getElem?_cons_succ] at y0 y1
    go_wp2_with fail
    refine (c_ifreePort A n c l y _ HN.out (HA.out _ B) (by omega) hy0).mono ?_
    rintro e w5 ⟨rfl, hq⟩
    replace hoR := own_to hoR hq (Nat.le_refl _)
    replace k0 := k0.to hq; replace B := Bl.then B hq; clear y0 y1 hlt hq
    have hfb := fpt_bd l n y
    generalize hp : fpt l n y = p at hfb
    have HP := Lib.hid hp
    clear hp
    by_cases hpn : p < 0
    · have t1 : decide (p < 0) = true := by rw [decide_eq_true_eq]; exact hpn
      have HN1 := Lib.hid (And.intro hneg hpn)
      clear hneg hpn hoR
      go_wp2
      go_ret3
      refine ⟨B, ?_⟩
      unfold mapT
      rw [HPL.out, if_neg (by have := HN1.out.1; omega), HP.out, if_pos HN1.out.2]
      rfl
    · have t1 : decide (p < 0) = false := by rw [decide_eq_false_iff_not]; exact hpn
      have HN1 := Lib.hid (And.intro hneg hpn)
      clear hneg hpn
      have y0 := k0.cell 0; have y1 := k0.cell 1; have hlt := k0.lt; simp only [List.getElem?_toArray, List.getElem?_cons_zero, List.getElem?_cons_succ] at y0 y1
      have hL : TM (w5.alloc (.cells #[.int .i64 x, .int .i64 y, .int .i64 p, .int .i64 now] 84)) (some ⟨w5.heap.size, 0, none⟩) [⟨x, y, p, now⟩] := lit_map (w := w5) ⟨x, y, p, now⟩ rfl rfl
      have hLn := Rd.news hL
      have hA1 := own_none hoR
      have hRd := Rd.alloc (Rd.of_ownS hoR) (.cells #[.int .i64 x, .int .i64 y, .int .i64 p, .int .i64 now] 84)
      have hnl := mapCs_len l
      rw [HN.out] at hnl
      have hnl2 := mapCs_len [(⟨x, y, p, now⟩ : Mpg)]
      have hnc2 := mapCs_one [(⟨x, y, p, now⟩ : Mpg)]
      generalize hnle2 : mapCs [(⟨x, y, p, now⟩ : Mpg)] = nl2 at hnl2 hnc2 hLn
      have HNL2 := Lib.hid hnle2
      have HRD : Hid (∀ b, A1 = some b → ∀ (j : Nat) (u : Value), (mapCs l)[j]? = some u → (w5.alloc (.cells #[.int .i64 x, .int .i64 y, .int .i64 p, .int .i64 now] 84)).cell? (b.add j) = some u) := fun b hb => Rd.news (by rw [← hb]; exact hRd)
      clear hnle2 hL hRd hoR
      have s6 := B.size
      go_wp2_with (at_builtin; go_must (obtain ⟨i0, hi, hz0, hz1, hz2⟩ := info_parts mapT_info; refine wpList_append_grows _ rfl _ _ 41 rfl 84 i0 _ 4 32 Tryz.underlying41 hi hz0 hz1 hz2 rfl (by omega) A1 n n (mapCs l) rfl (fun hh => ⟨hA1 hh, hA1 hh⟩) hnl HRD.out ⟨w5.heap.size, 0, none⟩ 1 1 nl2 rfl hnl2 hLn hnc2 (by omega) (by unfold maxLen; omega) (by omega) ?_; intro v2 w7 ho7 hg7; clear hi hz0 hz1 hz2))
      have B7 := (B.alloc B.size (.cells #[.int .i64 x, .int .i64 y, .int .i64 p, .int .i64 now] 84)).grown hg7 (by have := B.size; simp; omega) (fun j hj => by cases hj)
      obtain ⟨A2, c2, rfl, hc2, hm2, -⟩ := own_slice ho7
      have hF2 := own_fr ho7
      have HR2 : Hid (TM w7 A2 (l ++ [⟨x, y, p, now⟩])) := by
        have := Rd.of_ownS ho7
        rw [← HNL2.out, ← mapCs_app] at this
        exact this
      have HF2 : Hid (Fr A2 w.heap.size) := hF2.low (by simp; omega)
      clear hF2 ho7 hg7 hLn
      refine (c_ClipM _ _ _ _ hc2 hm2).mono ?_
      rintro e w' ⟨rfl, rfl⟩
      go_wp2
      go_ret3
      refine ⟨B7, ?_⟩
      unfold mapT
      rw [HPL.out, if_neg (by have := HN1.out.1; omega), HP.out, if_neg (by have := HN1.out.2; omega)]
      exact ⟨A2, n + 1, rfl, by rw [List.length_append, HN.out]; rfl, HF2.out, HR2.out⟩
  · have t0 : decide (0 ≤ at') = true := by rw [decide_eq_true_eq]; omega
    obtain ⟨k, rfl⟩ := Int.eq_ofNat_of_zero_le (show 0 ≤ at' by omega)
    have hkn : k < n := by omega
    have hkl : Hid (k < l.length) := Lib.hid (by rw [HN.out]; exact hkn)
    have e2 : 0 ≤ (k : Int) ∧ (k : Int) < n := by omega
    obtain ⟨g, cap, e9, hgb, hgl⟩ := World.ownsRow.form hoR (by omega)
    injection e9 with e9 _ e10
    subst e9 e10
    have y3 : w4.cell? ⟨g, k * 4 + 3, none⟩ = some (.int .i64 (mn l k).la) := by rw [World.ownsRow.cellAt hoR _ (by omega), mapCs_at hkl.out (by omega)]; rfl
    have f3 := World.ownsRow.frozenAt hoR (k * 4 + 3)
    have hF : Hid (∀ z : Int, (w4.setCell ⟨g, k * 4 + 3, none⟩ (.int .i64 z)).cell? ⟨g, k * 4 + 2, none⟩ = some (.int .i64 (mn l k).po)) := fun z => by
      rw [World.cell?_setCell_other _ _ _ _ (by intro e; injection e with _ e2; omega)]
      rw [World.ownsRow.cellAt hoR _ (by omega), mapCs_at hkl.out (by omega)]; rfl
    have hQ : Hid (∀ (z : Int), max (mn l k).la now = z → ∀ q, EndI (mapT l n x y now) w (.returned (.tuple #[.slice (some ⟨g, 0, none⟩) n n, .int .i64 (mn l k).po, .bool true])) ((w4.setCell ⟨g, k * 4 + 3, none⟩ (.int .i64 z)).drewN q)) := fun z hz q => by
      obtain ⟨st, gr⟩ := World.ownsRow.stored hoR (k * 4 + 3) (.int .i64 z)
      refine ⟨Bl.drewN (B.setCell hgb _) q, ?_⟩
      unfold mapT
      rw [HPL.out, if_pos (by omega), Int.toNat_natCast, hz]
      refine ⟨_, n, rfl, by rw [List.length_set, HN.out], fun a ha => by cases ha; exact hgb, ?_⟩
      refine TM.to ?_ (Bl.of_drewN _ q)
      rw [mapCs_set hkl.out] at st
      exact Rd.of_ownS st
    clear hneg hoR
    go_wp2
    have c2 := hF.out (max (mn l k).la now)
    generalize hw7 : w4.setCell ⟨g, k * 4 + 3, none⟩ (.int .i64 (max (mn l k).la now)) = w7 at *
    go_quiet (fail)
    go_wp2
    go_ret3
    rw [← hw7]
    exact hQ.out _ rfl _
end Go.Proofs.YtjflfhjnbccpmaaGreatDoor
