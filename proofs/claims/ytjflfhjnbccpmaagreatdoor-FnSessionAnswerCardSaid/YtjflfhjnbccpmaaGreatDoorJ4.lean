/- Joined: UD, W7, UQ, U2, U3, U4, U5, U6, U7, UY, W1, W2, C3, C4, C6, C7. -/
import Derived.Test.YtjflfhjnbccpmaaGreatDoorJ3
import Derived.Deep.RegionHeld3
import Derived.Lib.SliceRun
import Derived.Shelf.Abstract
set_option linter.unusedVariables false
set_option linter.unusedSimpArgs false
namespace Go.Proofs.YtjflfhjnbccpmaaGreatDoor
open Go.RowKit
theorem take_of {cs : Array Value} {L : List Value} {m : Nat} (hL : L.length = m) (h : ∀ t, t < m → cs[t]? = L[t]?) : cs.toList.take m = L := by
  apply List.ext_getElem?
  intro t
  rw [List.getElem?_take]
  split
  · rename_i h1
    rw [Array.getElem?_toList]; exact h t h1
  · rename_i h1
    rw [List.getElem?_eq_none (by omega)]
set_option maxHeartbeats 3200000 in
theorem c_DeleteM (g : Nat) (lb : Array Value) (p : Mpg → Bool) (w0 : World) (eg : ∀ args w, (callFunc g args).run Tryz.prog w = .ok (.enter g args) w) (A : Option Addr) (base n c : Nat) (l : List Mpg) (w : World)
    (hP : PredM g lb p w0) (hw : Below w0.heap.size w0 w) (h0 : w0.heap.size ≤ base) (ho : w.ownsRow base 84 4 (.slice A n c) n (mapCs l)) (hn : l.length = n) (hnm : n ≤ 1099511627) (hcm : c ≤ maxLen) :
    Calls Tryz.prog 124 #[.slice A n c, .func (.func g) #[] lb] w fun e w' => ∃ m, e = .returned (.slice A m c) ∧ (l.filter (fun x => !p x)).length = m ∧ w'.ownsRow base 84 4 (.slice A m c) m (mapCs (l.filter (fun x => !p x))) ∧ Below w0.heap.size w0 w' := by
  unfold maxLen at hcm
  have hT : TM w A l := Rd.of_ownS ho
  have hIF := c_IndexM g lb p w0 eg A n c l w hP hw hn hT (by omega)
  have hne : ∀ j (hj : j < l.length), mn l j = l[j] := fun j hj => by simp [mn, hj]
  rcases idx_cases (fun k => p (mn l k)) n with ⟨k0, hk0, hp0, hF, hi0⟩ | ⟨hF, hi0⟩
  · obtain ⟨gg, cap, cur, hv, hgb, hh, hnc, hcm2, hcs, htk⟩ := ho.2.resolve_left (fun h => by omega)
    injection hv with hA _ hcc
    subst hA hcc
    rw [hi0] at hIF
    have hIF' := Lib.hid hIF
    have hb : Blk w gg 84 cur := hh
    have hne1 : ((k0 : Int) == -1) = false := beq_eq_false_iff_ne.2 (by omega)
    have HN := Lib.hid hn
    have HC : Hid (∀ W x, Below w0.heap.size w0 W → Calls Tryz.prog g (#[.agg #[.int .i64 x.ad, .int .i64 x.ep, .int .i64 x.po, .int .i64 x.la]] ++ lb) W fun e w' => e = .returned (.bool (p x)) ∧ Below W.heap.size W w') := hP
    have hst : Hid (∀ t, t < n * 4 → cur[t]? = (mapCs l)[t]?) := fun t ht => by
      rw [← htk, List.getElem?_take, if_pos ht, Array.getElem?_toList]
    have hK0 : keptG p l (k0 + 1) = l.take k0 := by
      rw [keptG_succ (by omega), ← hne k0 (by omega), if_pos hp0, keptG_all (by omega) (fun j hj hj2 => by rw [← hne j hj]; exact hF j hj2)]
    have HK := Lib.hid hK0
    have HKS : Hid (∀ j, j < n → keptG p l (j + 1) = if p (mn l j) then keptG p l j else keptG p l j ++ [mn l j]) := fun j hj => by
      rw [keptG_succ (by omega), hne j (by omega)]
    have hlow : w0.heap.size ≤ gg := by omega
    have HCS : Hid (cur.size = c * 4) := hcs
    clear hIF hi0 hF hp0 hT ho hP hne hh htk hn hK0 hcs
    go_enter Tryz.func124, Tryz.ntmps124
    go_wp2_with fail
    refine hIF'.out.mono ?_
    rintro e w1 ⟨rfl, hq⟩
    have hb1 := hb.to hq
    have hw1 := hw.trans (hq.mono hw.size)
    clear hb hw hq
    go_wp2
    go_loopw [5, 6] (fun s5 s6 wr => ∃ (i j : Nat) (cs : Array Value), s5 = .int .i64 i ∧ s6 = .int .i64 j ∧ i < j ∧ j ≤ n ∧ Hid ((keptG p l j).length = i) ∧ Hid (cs.size = cur.size) ∧ Hid (Blk wr gg 84 cs) ∧
      Hid (∀ t, t < i * 4 → cs[t]? = (mapCs (keptG p l j))[t]?) ∧ Hid (∀ t, j * 4 ≤ t → t < n * 4 → cs[t]? = (mapCs l)[t]?) ∧ Hid (Below w0.heap.size w0 wr)) (fun _ s6 _ => n - (intOf s6).toNat)
    case atStart =>
      refine ⟨k0, k0 + 1, cur, rfl, by go_num, by omega, by omega, ?_, rfl, hb1, fun t ht => ?_, fun t _ ht => hst.out t ht, hw1⟩
      · show _ = _
        rw [HK.out, List.length_take, HN.out]; omega
      · rw [hst.out t (by omega), HK.out]
        have e : mapCs l = mapCs (l.take k0) ++ mapCs (l.drop k0) := by rw [← mapCs_app, List.take_append_drop]
        rw [e, List.getElem?_append_left (by rw [mapCs_len, List.length_take, HN.out]; omega)]
    case round =>
      obtain ⟨i, j, cs, rfl, rfl, hij, hjn, HL, HS, HB, H1, H2, HG⟩ := hrel
      have kb := HB.out
      have hsz : cs.size = c * 4 := HS.out.trans HCS.out
      by_cases hlt : j < n
      · have hcx : ∀ r v, r < 4 → (mapC (mn l j))[r]? = some v → wr.cell? ⟨gg, j * 4 + r, none⟩ = some v := fun r v hr hv => (kb.cell _).trans ((H2.out _ (by omega) (by omega)).trans ((mapCs_at (by rw [HN.out]; exact hlt) hr).trans hv))
        generalize hx : mn l j = x at hcx
        have HX := Lib.hid hx
        clear hx
        have c0 : wr.cell? ⟨gg, j * 4, none⟩ = some (.int .i64 x.ad) := by simpa using hcx 0 _ (by omega) rfl
        have c1 : wr.cell? ⟨gg, j * 4 + 1, none⟩ = some (.int .i64 x.ep) := by simpa using hcx 1 _ (by omega) rfl
        have c2 : wr.cell? ⟨gg, j * 4 + 2, none⟩ = some (.int .i64 x.po) := by simpa using hcx 2 _ (by omega) rfl
        have c3 : wr.cell? ⟨gg, j * 4 + 3, none⟩ = some (.int .i64 x.la) := by simpa using hcx 3 _ (by omega) rfl
        have kx := Blk.new wr 84 #[.int .i64 x.ad, .int .i64 x.ep, .int .i64 x.po, .int .i64 x.la]
        have HBB := HG.out.alloc HG.out.size (.cells #[.int .i64 x.ad, .int .i64 x.ep, .int .i64 x.po, .int .i64 x.la] 84)
        have hcall := HC.out _ x HBB
        have kb2 := kb.alloc (.cells #[.int .i64 x.ad, .int .i64 x.ep, .int .i64 x.po, .int .i64 x.la] 84)
        have hgl := kb.lt
        clear hcx
        cases hp : p x
        · rw [hp] at hcall
          have hold : ∀ r, r < 4 → ∃ v, cs[i * 4 + r]? = some v := fun r hr => ⟨_, Array.getElem?_eq_getElem (by omega)⟩
          obtain ⟨v0, ho0⟩ := hold 0 (by omega)
          obtain ⟨v1, ho1⟩ := hold 1 (by omega)
          obtain ⟨v2, ho2⟩ := hold 2 (by omega)
          obtain ⟨v3, ho3⟩ := hold 3 (by omega)
          clear hold
          go_wp2_with (go_at_fn g; refine hcall.mono ?_; rintro e w' ⟨rfl, hq⟩; replace kb2 := kb2.to hq; replace kx := kx.to hq; replace HBB := Bl.then HBB hq; clear hq; have y0 := kx.cell 0; have y1 := kx.cell 1; have y2 := kx.cell 2; have y3 := kx.cell 3; simp only [List.getElem?_toArray, List.getElem?_cons_zero, List.getElem?_cons_succ] at y0 y1 y2 y3; have z0 := (kb2.cell (i * 4)).trans (by simpa using ho0); have f0 := kb2.frozen (i * 4); have z1 := (kb2.cell (i * 4 + 1)).trans (by simpa using ho1); have f1 := kb2.frozen (i * 4 + 1); have z2 := (kb2.cell (i * 4 + 2)).trans (by simpa using ho2); have f2 := kb2.frozen (i * 4 + 2); have z3 := (kb2.cell (i * 4 + 3)).trans (by simpa using ho3); have f3 := kb2.frozen (i * 4 + 3); have hlt2 := kx.lt)
          go_roundw
          case rel =>
            have hk1 : keptG p l (j + 1) = keptG p l j ++ [x] := by rw [HKS.out j hlt, HX.out, hp]; rfl
            have hl := HL.out
            refine ⟨i + 1, j + 1, _, by go_num, by go_num, by omega, by omega, by rw [hk1]; simp [Hid, hl], by simpa [Hid] using HS.out, ((((kb2.set_ (i * 4) _).set_ (i * 4 + 1) _).set_ (i * 4 + 2) _).set_ (i * 4 + 3) _), ?_, ?_, ((((HBB.setCell hlow _).setCell hlow _).setCell hlow _).setCell hlow _)⟩
            · intro t ht
              rw [hk1, mapCs_app]
              exact sets4 (by rw [mapCs_len, hl]) (by omega) H1.out t ht
            · intro t ht1 ht2
              rw [far4 (by omega)]
              exact H2.out t (by omega) ht2
          case measure => simp [intOf]; omega
        · rw [hp] at hcall
          go_wp2_with (go_at_fn g; refine hcall.mono ?_; rintro e w' ⟨rfl, hq⟩; replace kb2 := kb2.to hq; replace HBB := Bl.then HBB hq; clear hq)
          go_roundw
          case rel =>
            have hk1 : keptG p l (j + 1) = keptG p l j := by rw [HKS.out j hlt, HX.out, hp]; rfl
            exact ⟨i, j + 1, cs, rfl, by go_num, by omega, by omega, by rw [hk1]; exact HL.out, HS.out, kb2, by rw [hk1]; exact H1.out, fun t h1 h2 => H2.out t (by omega) h2, HBB⟩
          case measure => simp [intOf]; omega
      · obtain hjn' : j = n := by omega
        subst hjn'
        have hz1 := zero_one (zs := #[.int .i64 0, .int .i64 0, .int .i64 0, .int .i64 0]) (n := j - i) (by simp [Value.oneCell']) (by simp)
        have hzl := zero_len #[.int .i64 0, .int .i64 0, .int .i64 0, .int .i64 0] (j - i)
        have hclear := fun ty => run_clear_k (P := Tryz.prog) wr 41 84 ty #[.int .i64 0, .int .i64 0, .int .i64 0, .int .i64 0] Tryz.underlying41 (fun _ => by kernel_rfl) gg (i * 4) (j - i) (c - i) hz1 (by omega)
          (fun t ht => by rw [kb.cell, Array.getElem?_eq_getElem (by rw [hzl] at ht; simp at ht; omega)]; rfl) (fun t ht => kb.frozen _)
        generalize (Builtin.zeroCells #[.int .i64 0, .int .i64 0, .int .i64 0, .int .i64 0] (j - i)).toList = zz at hclear
        clear hz1 hzl
        go_wp2
        go_ret
        obtain ⟨cur', q1, q2, q3, q4⟩ := Blk.setsK (vs := zz) (o := i * 4) kb
        have hl := HL.out
        have he : keptG p l j = l.filter (fun x => !p x) := by rw [← HN.out]; exact keptG_end p l
        rw [he] at hl
        refine ⟨i, rfl, hl, ⟨by rw [mapCs_len, hl], .inr ⟨gg, c, cur', rfl, hgb, q1, by omega, by unfold maxLen; omega, by rw [q2]; exact hsz, take_of (by rw [mapCs_len, hl]) (fun t ht => by rw [q3 t ht, H1.out t ht, he])⟩⟩, HG.out.grown q4 HG.out.size (fun e he => by injection he with he; omega)⟩
  · have hfil : l.filter (fun x => !p x) = l := by
      have := keptG_all (p := p) (l := l) (j := l.length) (Nat.le_refl _) (fun k hk _ => by rw [← hne k hk]; exact hF k (by omega))
      rw [keptG_end, List.take_length] at this
      exact this
    have HF := Lib.hid hfil
    rw [hi0] at hIF
    have hIF' := Lib.hid hIF
    have HN := Lib.hid hn
    have HO := Lib.hid ho
    clear hIF hfil hF hi0 hne hT ho hn
    go_enter Tryz.func124, Tryz.ntmps124
    go_wp2_with fail
    refine hIF'.out.mono ?_
    rintro e w1 ⟨rfl, hq⟩
    go_wp2
    go_ret
    refine ⟨n, rfl, by rw [HF.out]; exact HN.out, ?_, hw.trans (hq.mono hw.size)⟩
    rw [HF.out]
    exact own_to HO.out hq (Nat.le_refl _)
set_option maxHeartbeats 3200000 in
theorem c_DeleteK (g : Nat) (lb : Array Value) (p : Con → Bool) (w0 : World) (eg : ∀ args w, (callFunc g args).run Tryz.prog w = .ok (.enter g args) w) (A : Option Addr) (base n c : Nat) (l : List Con) (w : World)
    (hP : PredK g lb p w0) (hw : Below w0.heap.size w0 w) (h0 : w0.heap.size ≤ base) (ho : w.ownsRow base 129 3 (.slice A n c) n (conCs l)) (hn : l.length = n) (hnm : n ≤ 1099511627) (hcm : c ≤ maxLen) :
    Calls Tryz.prog 120 #[.slice A n c, .func (.func g) #[] lb] w fun e w' => ∃ m, e = .returned (.slice A m c) ∧ (l.filter (fun x => !p x)).length = m ∧ w'.ownsRow base 129 3 (.slice A m c) m (conCs (l.filter (fun x => !p x))) ∧ Below w0.heap.size w0 w' := by
  unfold maxLen at hcm
  have hT : TK w A l := Rd.of_ownS ho
  have hIF := c_IndexK g lb p w0 eg A n c l w hP hw hn hT (by omega)
  have hne : ∀ j (hj : j < l.length), cn l j = l[j] := fun j hj => by simp [cn, hj]
  rcases idx_cases (fun k => p (cn l k)) n with ⟨k0, hk0, hp0, hF, hi0⟩ | ⟨hF, hi0⟩
  · obtain ⟨gg, cap, cur, hv, hgb, hh, hnc, hcm2, hcs, htk⟩ := ho.2.resolve_left (fun h => by omega)
    injection hv with hA _ hcc
    subst hA hcc
    rw [hi0] at hIF
    have hIF' := Lib.hid hIF
    have hb : Blk w gg 129 cur := hh
    have hne1 : ((k0 : Int) == -1) = false := beq_eq_false_iff_ne.2 (by omega)
    have HN := Lib.hid hn
    have HC : Hid (∀ W x, Below w0.heap.size w0 W → Calls Tryz.prog g (#[.agg #[.int .i64 x.po, .int .i64 x.ad, .int .i64 x.ep]] ++ lb) W fun e w' => e = .returned (.bool (p x)) ∧ Below W.heap.size W w') := hP
    have hst : Hid (∀ t, t < n * 3 → cur[t]? = (conCs l)[t]?) := fun t ht => by
      rw [← htk, List.getElem?_take, if_pos ht, Array.getElem?_toList]
    have hK0 : keptG p l (k0 + 1) = l.take k0 := by
      rw [keptG_succ (by omega), ← hne k0 (by omega), if_pos hp0, keptG_all (by omega) (fun j hj hj2 => by rw [← hne j hj]; exact hF j hj2)]
    have HK := Lib.hid hK0
    have HKS : Hid (∀ j, j < n → keptG p l (j + 1) = if p (cn l j) then keptG p l j else keptG p l j ++ [cn l j]) := fun j hj => by
      rw [keptG_succ (by omega), hne j (by omega)]
    have hlow : w0.heap.size ≤ gg := by omega
    have HCS : Hid (cur.size = c * 3) := hcs
    clear hIF hi0 hF hp0 hT ho hP hne hh htk hn hK0 hcs
    go_enter Tryz.func120, Tryz.ntmps120
    go_wp2_with fail
    refine hIF'.out.mono ?_
    rintro e w1 ⟨rfl, hq⟩
    have hb1 := hb.to hq
    have hw1 := hw.trans (hq.mono hw.size)
    clear hb hw hq
    go_wp2
    go_loopw [5, 6] (fun s5 s6 wr => ∃ (i j : Nat) (cs : Array Value), s5 = .int .i64 i ∧ s6 = .int .i64 j ∧ i < j ∧ j ≤ n ∧ Hid ((keptG p l j).length = i) ∧ Hid (cs.size = cur.size) ∧ Hid (Blk wr gg 129 cs) ∧
      Hid (∀ t, t < i * 3 → cs[t]? = (conCs (keptG p l j))[t]?) ∧ Hid (∀ t, j * 3 ≤ t → t < n * 3 → cs[t]? = (conCs l)[t]?) ∧ Hid (Below w0.heap.size w0 wr)) (fun _ s6 _ => n - (intOf s6).toNat)
    case atStart =>
      refine ⟨k0, k0 + 1, cur, rfl, by go_num, by omega, by omega, ?_, rfl, hb1, fun t ht => ?_, fun t _ ht => hst.out t ht, hw1⟩
      · show _ = _
        rw [HK.out, List.length_take, HN.out]; omega
      · rw [hst.out t (by omega), HK.out]
        have e : conCs l = conCs (l.take k0) ++ conCs (l.drop k0) := by rw [← conCs_app, List.take_append_drop]
        rw [e, List.getElem?_append_left (by rw [conCs_len, List.length_take, HN.out]; omega)]
    case round =>
      obtain ⟨i, j, cs, rfl, rfl, hij, hjn, HL, HS, HB, H1, H2, HG⟩ := hrel
      have kb := HB.out
      have hsz : cs.size = c * 3 := HS.out.trans HCS.out
      by_cases hlt : j < n
      · have hcx : ∀ r v, r < 3 → (conC (cn l j))[r]? = some v → wr.cell? ⟨gg, j * 3 + r, none⟩ = some v := fun r v hr hv => (kb.cell _).trans ((H2.out _ (by omega) (by omega)).trans ((conCs_at (by rw [HN.out]; exact hlt) hr).trans hv))
        generalize hx : cn l j = x at hcx
        have HX := Lib.hid hx
        clear hx
        have c0 : wr.cell? ⟨gg, j * 3, none⟩ = some (.int .i64 x.po) := by simpa using hcx 0 _ (by omega) rfl
        have c1 : wr.cell? ⟨gg, j * 3 + 1, none⟩ = some (.int .i64 x.ad) := by simpa using hcx 1 _ (by omega) rfl
        have c2 : wr.cell? ⟨gg, j * 3 + 2, none⟩ = some (.int .i64 x.ep) := by simpa using hcx 2 _ (by omega) rfl
        have kx := Blk.new wr 129 #[.int .i64 x.po, .int .i64 x.ad, .int .i64 x.ep]
        have HBB := HG.out.alloc HG.out.size (.cells #[.int .i64 x.po, .int .i64 x.ad, .int .i64 x.ep] 129)
        have hcall := HC.out _ x HBB
        have kb2 := kb.alloc (.cells #[.int .i64 x.po, .int .i64 x.ad, .int .i64 x.ep] 129)
        have hgl := kb.lt
        clear hcx
        cases hp : p x
        · rw [hp] at hcall
          have hold : ∀ r, r < 3 → ∃ v, cs[i * 3 + r]? = some v := fun r hr => ⟨_, Array.getElem?_eq_getElem (by omega)⟩
          obtain ⟨v0, ho0⟩ := hold 0 (by omega)
          obtain ⟨v1, ho1⟩ := hold 1 (by omega)
          obtain ⟨v2, ho2⟩ := hold 2 (by omega)
          clear hold
          go_wp2_with (go_at_fn g; refine hcall.mono ?_; rintro e w' ⟨rfl, hq⟩; replace kb2 := kb2.to hq; replace kx := kx.to hq; replace HBB := Bl.then HBB hq; clear hq; have y0 := kx.cell 0; have y1 := kx.cell 1; have y2 := kx.cell 2; simp only [List.getElem?_toArray, List.getElem?_cons_zero, List.getElem?_cons_succ] at y0 y1 y2; have z0 := (kb2.cell (i * 3)).trans (by simpa using ho0); have f0 := kb2.frozen (i * 3); have z1 := (kb2.cell (i * 3 + 1)).trans (by simpa using ho1); have f1 := kb2.frozen (i * 3 + 1); have z2 := (kb2.cell (i * 3 + 2)).trans (by simpa using ho2); have f2 := kb2.frozen (i * 3 + 2); have hlt2 := kx.lt)
          go_roundw
          case rel =>
            have hk1 : keptG p l (j + 1) = keptG p l j ++ [x] := by rw [HKS.out j hlt, HX.out, hp]; rfl
            have hl := HL.out
            refine ⟨i + 1, j + 1, _, by go_num, by go_num, by omega, by omega, by rw [hk1]; simp [Hid, hl], by simpa [Hid] using HS.out, (((kb2.set_ (i * 3) _).set_ (i * 3 + 1) _).set_ (i * 3 + 2) _), ?_, ?_, (((HBB.setCell hlow _).setCell hlow _).setCell hlow _)⟩
            · intro t ht
              rw [hk1, conCs_app]
              exact sets3 (by rw [conCs_len, hl]) (by omega) H1.out t ht
            · intro t ht1 ht2
              rw [far3 (by omega)]
              exact H2.out t (by omega) ht2
          case measure => simp [intOf]; omega
        · rw [hp] at hcall
          go_wp2_with (go_at_fn g; refine hcall.mono ?_; rintro e w' ⟨rfl, hq⟩; replace kb2 := kb2.to hq; replace HBB := Bl.then HBB hq; clear hq)
          go_roundw
          case rel =>
            have hk1 : keptG p l (j + 1) = keptG p l j := by rw [HKS.out j hlt, HX.out, hp]; rfl
            exact ⟨i, j + 1, cs, rfl, by go_num, by omega, by omega, by rw [hk1]; exact HL.out, HS.out, kb2, by rw [hk1]; exact H1.out, fun t h1 h2 => H2.out t (by omega) h2, HBB⟩
          case measure => simp [intOf]; omega
      · obtain hjn' : j = n := by omega
        subst hjn'
        have hz1 := zero_one (zs := #[.int .i64 0, .int .i64 0, .int .i64 0]) (n := j - i) (by simp [Value.oneCell']) (by simp)
        have hzl := zero_len #[.int .i64 0, .int .i64 0, .int .i64 0] (j - i)
        have hclear := fun ty => run_clear_k (P := Tryz.prog) wr 42 129 ty #[.int .i64 0, .int .i64 0, .int .i64 0] Tryz.underlying42 (fun _ => by kernel_rfl) gg (i * 3) (j - i) (c - i) hz1 (by omega)
          (fun t ht => by rw [kb.cell, Array.getElem?_eq_getElem (by rw [hzl] at ht; simp at ht; omega)]; rfl) (fun t ht => kb.frozen _)
        generalize (Builtin.zeroCells #[.int .i64 0, .int .i64 0, .int .i64 0] (j - i)).toList = zz at hclear
        clear hz1 hzl
        go_wp2
        go_ret
        obtain ⟨cur', q1, q2, q3, q4⟩ := Blk.setsK (vs := zz) (o := i * 3) kb
        have hl := HL.out
        have he : keptG p l j = l.filter (fun x => !p x) := by rw [← HN.out]; exact keptG_end p l
        rw [he] at hl
        refine ⟨i, rfl, hl, ⟨by rw [conCs_len, hl], .inr ⟨gg, c, cur', rfl, hgb, q1, by omega, by unfold maxLen; omega, by rw [q2]; exact hsz, take_of (by rw [conCs_len, hl]) (fun t ht => by rw [q3 t ht, H1.out t ht, he])⟩⟩, HG.out.grown q4 HG.out.size (fun e he => by injection he with he; omega)⟩
  · have hfil : l.filter (fun x => !p x) = l := by
      have := keptG_all (p := p) (l := l) (j := l.length) (Nat.le_refl _) (fun k hk _ => by rw [← hne k hk]; exact hF k (by omega))
      rw [keptG_end, List.take_length] at this
      exact this
    have HF := Lib.hid hfil
    rw [hi0] at hIF
    have hIF' := Lib.hid hIF
    have HN := Lib.hid hn
    have HO := Lib.hid ho
    clear hIF hfil hF hi0 hne hT ho hn
    go_enter Tryz.func120, Tryz.ntmps120
    go_wp2_with fail
    refine hIF'.out.mono ?_
    rintro e w1 ⟨rfl, hq⟩
    go_wp2
    go_ret
    refine ⟨n, rfl, by rw [HF.out]; exact HN.out, ?_, hw.trans (hq.mono hw.size)⟩
    rw [HF.out]
    exact own_to HO.out hq (Nat.le_refl _)
end Go.Proofs.YtjflfhjnbccpmaaGreatDoor
namespace Go.Proofs.YtjflfhjnbccpmaaGreatDoor
open Go.RowKit
set_option maxHeartbeats 3200000 in
theorem c_DeleteKk (g : Nat) (lb : Array Value) (p : Con → Bool) (w0 : World) (eg : ∀ args w, (callFunc g args).run Tryz.prog w = .ok (.enter g args) w) (A : Option Addr) (base n c : Nat) (l : List Con) (w : World)
    (hP : PredK g lb p w0) (hw : Below w0.heap.size w0 w) (h0 : w0.heap.size ≤ base) (ho : w.ownsRow base 129 3 (.slice A n c) n (conCs l)) (hn : l.length = n) (hnm : n ≤ 1099511627) (hcm : c ≤ maxLen) (kb0 : Nat) (tk0 : TypeId) (ck0 : Array Value) (hk0' : Blk w kb0 tk0 ck0) (hkn : ∀ a, A = some a → a.block ≠ kb0) :
    Calls Tryz.prog 120 #[.slice A n c, .func (.func g) #[] lb] w fun e w' => ∃ m, e = .returned (.slice A m c) ∧ (l.filter (fun x => !p x)).length = m ∧ w'.ownsRow base 129 3 (.slice A m c) m (conCs (l.filter (fun x => !p x))) ∧ Below w0.heap.size w0 w' ∧ Blk w' kb0 tk0 ck0 := by
  unfold maxLen at hcm
  have hT : TK w A l := Rd.of_ownS ho
  have hIF := c_IndexK g lb p w0 eg A n c l w hP hw hn hT (by omega)
  have hne : ∀ j (hj : j < l.length), cn l j = l[j] := fun j hj => by simp [cn, hj]
  rcases idx_cases (fun k => p (cn l k)) n with ⟨k0, hk0, hp0, hF, hi0⟩ | ⟨hF, hi0⟩
  · obtain ⟨gg, cap, cur, hv, hgb, hh, hnc, hcm2, hcs, htk⟩ := ho.2.resolve_left (fun h => by omega)
    injection hv with hA _ hcc
    subst hA hcc
    have hgk : gg ≠ kb0 := hkn _ rfl
    have HKB := Lib.hid hk0'
    rw [hi0] at hIF
    have hIF' := Lib.hid hIF
    have hb : Blk w gg 129 cur := hh
    have hne1 : ((k0 : Int) == -1) = false := beq_eq_false_iff_ne.2 (by omega)
    have HN := Lib.hid hn
    have HC : Hid (∀ W x, Below w0.heap.size w0 W → Calls Tryz.prog g (#[.agg #[.int .i64 x.po, .int .i64 x.ad, .int .i64 x.ep]] ++ lb) W fun e w' => e = .returned (.bool (p x)) ∧ Below W.heap.size W w') := hP
    have hst : Hid (∀ t, t < n * 3 → cur[t]? = (conCs l)[t]?) := fun t ht => by
      rw [← htk, List.getElem?_take, if_pos ht, Array.getElem?_toList]
    have hK0 : keptG p l (k0 + 1) = l.take k0 := by
      rw [keptG_succ (by omega), ← hne k0 (by omega), if_pos hp0, keptG_all (by omega) (fun j hj hj2 => by rw [← hne j hj]; exact hF j hj2)]
    have HK := Lib.hid hK0
    have HKS : Hid (∀ j, j < n → keptG p l (j + 1) = if p (cn l j) then keptG p l j else keptG p l j ++ [cn l j]) := fun j hj => by
      rw [keptG_succ (by omega), hne j (by omega)]
    have hlow : w0.heap.size ≤ gg := by omega
    have HCS : Hid (cur.size = c * 3) := hcs
    clear hIF hi0 hF hp0 hT ho hP hne hh htk hn hK0 hcs hkn hk0'
    go_enter Tryz.func120, Tryz.ntmps120
    go_wp2_with fail
    refine hIF'.out.mono ?_
    rintro e w1 ⟨rfl, hq⟩
    have hb1 := hb.to hq
    have HKB1 := Lib.hid (HKB.out.to hq)
    have hw1 := hw.trans (hq.mono hw.size)
    clear hb hw hq
    go_wp2
    go_loopw [5, 6] (fun s5 s6 wr => ∃ (i j : Nat) (cs : Array Value), s5 = .int .i64 i ∧ s6 = .int .i64 j ∧ i < j ∧ j ≤ n ∧ Hid ((keptG p l j).length = i) ∧ Hid (cs.size = cur.size) ∧ Hid (Blk wr gg 129 cs) ∧
      Hid (∀ t, t < i * 3 → cs[t]? = (conCs (keptG p l j))[t]?) ∧ Hid (∀ t, j * 3 ≤ t → t < n * 3 → cs[t]? = (conCs l)[t]?) ∧ Hid (Below w0.heap.size w0 wr) ∧ Hid (Blk wr kb0 tk0 ck0)) (fun _ s6 _ => n - (intOf s6).toNat)
    case atStart =>
      refine ⟨k0, k0 + 1, cur, rfl, by go_num, by omega, by omega, ?_, rfl, hb1, fun t ht => ?_, fun t _ ht => hst.out t ht, hw1, HKB1⟩
      · show _ = _
        rw [HK.out, List.length_take, HN.out]; omega
      · rw [hst.out t (by omega), HK.out]
        have e : conCs l = conCs (l.take k0) ++ conCs (l.drop k0) := by rw [← conCs_app, List.take_append_drop]
        rw [e, List.getElem?_append_left (by rw [conCs_len, List.length_take, HN.out]; omega)]
    case round =>
      obtain ⟨i, j, cs, rfl, rfl, hij, hjn, HL, HS, HB, H1, H2, HG, HKR⟩ := hrel
      have kb := HB.out
      have hsz : cs.size = c * 3 := HS.out.trans HCS.out
      by_cases hlt : j < n
      · have hcx : ∀ r v, r < 3 → (conC (cn l j))[r]? = some v → wr.cell? ⟨gg, j * 3 + r, none⟩ = some v := fun r v hr hv => (kb.cell _).trans ((H2.out _ (by omega) (by omega)).trans ((conCs_at (by rw [HN.out]; exact hlt) hr).trans hv))
        generalize hx : cn l j = x at hcx
        have HX := Lib.hid hx
        clear hx
        have c0 : wr.cell? ⟨gg, j * 3, none⟩ = some (.int .i64 x.po) := by simpa using hcx 0 _ (by omega) rfl
        have c1 : wr.cell? ⟨gg, j * 3 + 1, none⟩ = some (.int .i64 x.ad) := by simpa using hcx 1 _ (by omega) rfl
        have c2 : wr.cell? ⟨gg, j * 3 + 2, none⟩ = some (.int .i64 x.ep) := by simpa using hcx 2 _ (by omega) rfl
        have kx := Blk.new wr 129 #[.int .i64 x.po, .int .i64 x.ad, .int .i64 x.ep]
        have HBB := HG.out.alloc HG.out.size (.cells #[.int .i64 x.po, .int .i64 x.ad, .int .i64 x.ep] 129)
        have hcall := HC.out _ x HBB
        have kb2 := kb.alloc (.cells #[.int .i64 x.po, .int .i64 x.ad, .int .i64 x.ep] 129)
        have hgl := kb.lt
        have HK2 := Lib.hid (HKR.out.alloc (.cells #[.int .i64 x.po, .int .i64 x.ad, .int .i64 x.ep] 129))
        clear hcx
        cases hp : p x
        · rw [hp] at hcall
          have hold : ∀ r, r < 3 → ∃ v, cs[i * 3 + r]? = some v := fun r hr => ⟨_, Array.getElem?_eq_getElem (by omega)⟩
          obtain ⟨v0, ho0⟩ := hold 0 (by omega)
          obtain ⟨v1, ho1⟩ := hold 1 (by omega)
          obtain ⟨v2, ho2⟩ := hold 2 (by omega)
          clear hold
          go_wp2_with (go_at_fn g; refine hcall.mono ?_; rintro e w' ⟨rfl, hq⟩; replace kb2 := kb2.to hq; replace kx := kx.to hq; replace HBB := Bl.then HBB hq; have HK3 := Lib.hid (HK2.out.to hq); clear hq; have y0 := kx.cell 0; have y1 := kx.cell 1; have y2 := kx.cell 2; simp only [List.getElem?_toArray, List.getElem?_cons_zero, List.getElem?_cons_succ] at y0 y1 y2; have z0 := (kb2.cell (i * 3)).trans (by simpa using ho0); have f0 := kb2.frozen (i * 3); have z1 := (kb2.cell (i * 3 + 1)).trans (by simpa using ho1); have f1 := kb2.frozen (i * 3 + 1); have z2 := (kb2.cell (i * 3 + 2)).trans (by simpa using ho2); have f2 := kb2.frozen (i * 3 + 2); have hlt2 := kx.lt)
          go_roundw
          case rel =>
            have hk1 : keptG p l (j + 1) = keptG p l j ++ [x] := by rw [HKS.out j hlt, HX.out, hp]; rfl
            have hl := HL.out
            refine ⟨i + 1, j + 1, _, by go_num, by go_num, by omega, by omega, by rw [hk1]; simp [Hid, hl], by simpa [Hid] using HS.out, (((kb2.set_ (i * 3) _).set_ (i * 3 + 1) _).set_ (i * 3 + 2) _), ?_, ?_, (((HBB.setCell hlow _).setCell hlow _).setCell hlow _), (((HK3.out.far (Ne.symm hgk) _).far (Ne.symm hgk) _).far (Ne.symm hgk) _)⟩
            · intro t ht
              rw [hk1, conCs_app]
              exact sets3 (by rw [conCs_len, hl]) (by omega) H1.out t ht
            · intro t ht1 ht2
              rw [far3 (by omega)]
              exact H2.out t (by omega) ht2
          case measure => simp [intOf]; omega
        · rw [hp] at hcall
          go_wp2_with (go_at_fn g; refine hcall.mono ?_; rintro e w' ⟨rfl, hq⟩; replace kb2 := kb2.to hq; replace HBB := Bl.then HBB hq; have HK3 := Lib.hid (HK2.out.to hq); clear hq)
          go_roundw
          case rel =>
            have hk1 : keptG p l (j + 1) = keptG p l j := by rw [HKS.out j hlt, HX.out, hp]; rfl
            exact ⟨i, j + 1, cs, rfl, by go_num, by omega, by omega, by rw [hk1]; exact HL.out, HS.out, kb2, by rw [hk1]; exact H1.out, fun t h1 h2 => H2.out t (by omega) h2, HBB, HK3⟩
          case measure => simp [intOf]; omega
      · obtain hjn' : j = n := by omega
        subst hjn'
        have hz1 := zero_one (zs := #[.int .i64 0, .int .i64 0, .int .i64 0]) (n := j - i) (by simp [Value.oneCell']) (by simp)
        have hzl := zero_len #[.int .i64 0, .int .i64 0, .int .i64 0] (j - i)
        have hclear := fun ty => run_clear_k (P := Tryz.prog) wr 42 129 ty #[.int .i64 0, .int .i64 0, .int .i64 0] Tryz.underlying42 (fun _ => by kernel_rfl) gg (i * 3) (j - i) (c - i) hz1 (by omega)
          (fun t ht => by rw [kb.cell, Array.getElem?_eq_getElem (by rw [hzl] at ht; simp at ht; omega)]; rfl) (fun t ht => kb.frozen _)
        generalize (Builtin.zeroCells #[.int .i64 0, .int .i64 0, .int .i64 0] (j - i)).toList = zz at hclear
        clear hz1 hzl
        go_wp2
        go_ret
        obtain ⟨cur', q1, q2, q3, q4⟩ := Blk.setsK (vs := zz) (o := i * 3) kb
        have hl := HL.out
        have he : keptG p l j = l.filter (fun x => !p x) := by rw [← HN.out]; exact keptG_end p l
        rw [he] at hl
        refine ⟨i, rfl, hl, ⟨by rw [conCs_len, hl], .inr ⟨gg, c, cur', rfl, hgb, q1, by omega, by unfold maxLen; omega, by rw [q2]; exact hsz, take_of (by rw [conCs_len, hl]) (fun t ht => by rw [q3 t ht, H1.out t ht, he])⟩⟩, HG.out.grown q4 HG.out.size (fun e he => by injection he with he; omega), HKR.out.grown q4 (fun e => by injection e with e; exact hgk e.symm)⟩
  · have hfil : l.filter (fun x => !p x) = l := by
      have := keptG_all (p := p) (l := l) (j := l.length) (Nat.le_refl _) (fun k hk _ => by rw [← hne k hk]; exact hF k (by omega))
      rw [keptG_end, List.take_length] at this
      exact this
    have HF := Lib.hid hfil
    rw [hi0] at hIF
    have hIF' := Lib.hid hIF
    have HN := Lib.hid hn
    have HO := Lib.hid ho
    have HKB := Lib.hid hk0'
    clear hIF hfil hF hi0 hne hT ho hn hkn hk0'
    go_enter Tryz.func120, Tryz.ntmps120
    go_wp2_with fail
    refine hIF'.out.mono ?_
    rintro e w1 ⟨rfl, hq⟩
    go_wp2
    go_ret
    refine ⟨n, rfl, by rw [HF.out]; exact HN.out, ?_, hw.trans (hq.mono hw.size), HKB.out.to hq⟩
    rw [HF.out]
    exact own_to HO.out hq (Nat.le_refl _)
end Go.Proofs.YtjflfhjnbccpmaaGreatDoor
namespace Go.Proofs.YtjflfhjnbccpmaaGreatDoor
theorem vTab_list {l : List Mpg} : vTab l = true ↔ (∀ m ∈ l, okM m = true) ∧ l.Pairwise (fun m n => ¬ (m.ad = n.ad ∧ m.ep = n.ep)) ∧ l.Pairwise (fun m n => m.po ≠ n.po) ∧ l.length ≤ 8 := by
  constructor
  · intro h
    refine ⟨fun m hm => ?_, ?_, ?_, (vTab_iff.1 h).2⟩
    · obtain ⟨k, hk, rfl⟩ := mem_mn hm
      exact (tab_at h hk).1
    · rw [List.pairwise_iff_getElem]
      intro i j hi hj hij
      have := (tab_at h hj).2.1 i hij
      simpa [mn, hi, hj] using this
    · rw [List.pairwise_iff_getElem]
      intro i j hi hj hij
      have := (tab_at h hj).2.2 i hij
      simpa [mn, hi, hj] using this
  · rintro ⟨h1, h2, h3, h4⟩
    rw [List.pairwise_iff_getElem] at h2 h3
    refine vTab_iff.2 ⟨fun i hi => ?_, h4⟩
    unfold tabI byE byP
    simp only [Bool.and_eq_true, decide_eq_true_eq, idx_neg]
    refine ⟨h1 _ (mn_mem hi), fun j hj => ?_, fun j hj => ?_⟩
    · cases e : isE (mn l j) (mn l i).ad (mn l i).ep
      · rfl
      · have := h2 j i (by omega) hi hj
        rw [isE_iff] at e
        exact absurd e (by simpa [mn, hi, show j < l.length by omega] using this)
    · cases e : isP (mn l j) (mn l i).po
      · rfl
      · have := h3 j i (by omega) hi hj
        rw [isP_iff] at e
        exact absurd e (by simpa [mn, hi, show j < l.length by omega] using this)
theorem inC_iff {l : List Con} {c : Con} {n : Nat} : inC l c n = false ↔ ∀ j, j < n → cn l j ≠ c := by
  unfold inC anyUp
  rw [List.any_eq_false]
  constructor
  · intro h j hj
    simpa using h j (by simpa using hj)
  · intro h j hj
    simpa using h j (by simpa using hj)
theorem vCon_list {l : List Con} : vCon l = true ↔ (∀ c ∈ l, okC c = true) ∧ l.Pairwise (· ≠ ·) ∧ l.length ≤ 10 := by
  unfold vCon conI
  simp only [Bool.and_eq_true, allUp_iff, decide_eq_true_eq, Bool.not_eq_true', inC_iff]
  constructor
  · rintro ⟨h, h4⟩
    refine ⟨fun c hc => ?_, ?_, h4⟩
    · obtain ⟨k, hk, rfl⟩ := mem_cn hc
      exact (h k hk).1
    · rw [List.pairwise_iff_getElem]
      intro i j hi hj hij
      have := (h j hj).2 i hij
      rw [cn_at hi, cn_at hj] at this
      exact this
  · rintro ⟨h1, h2, h4⟩
    rw [List.pairwise_iff_getElem] at h2
    refine ⟨fun i hi => ⟨h1 _ (cn_mem hi), fun j hj => ?_⟩, h4⟩
    rw [cn_at hi, cn_at (by omega)]
    exact h2 j i (by omega) hi hj
theorem byP_has {l : List Mpg} {p : Int} : 0 ≤ byP l p l.length ↔ ∃ m ∈ l, m.po = p := by
  unfold byP
  rcases idx_cases (fun k => isP (mn l k) p) l.length with ⟨k, hk, h1, _, e⟩ | ⟨h1, e⟩
  · rw [e]
    exact ⟨fun _ => ⟨mn l k, mn_mem hk, isP_iff.1 h1⟩, fun _ => by omega⟩
  · rw [e]
    refine ⟨fun h => absurd h (by omega), fun ⟨m, hm, hp⟩ => ?_⟩
    obtain ⟨k, hk, rfl⟩ := mem_mn hm
    have := h1 k hk
    rw [isP_iff.2 hp] at this
    cases this
theorem byP_no {l : List Mpg} {p : Int} : byP l p l.length < 0 ↔ ∀ m ∈ l, m.po ≠ p := by
  rw [← Int.not_le, byP_has]
  exact ⟨fun h m hm e => h ⟨m, hm, e⟩, fun h ⟨m, hm, e⟩ => h m hm e⟩
/-- What a valid gate is, in lists. -/
def mOk (g : Gt) (m : Mpg) : Prop := inN g.ba g.bi m.ad = true ∧ m.la ≤ g.no ∧ keepM g.no g.ho m = true
theorem vGate_list {g : Gt} : vGate g = true ↔ vNum g = true ∧ vTab g.tb = true ∧ vCon g.cs = true ∧ (∀ m ∈ g.tb, mOk g m) ∧ ∀ c ∈ g.cs, ∃ m ∈ g.tb, m.po = c.po := by
  unfold vGate tOk cOk
  simp only [Bool.and_eq_true, allUp_iff, decide_eq_true_eq, byP_has]
  constructor
  · rintro ⟨h1, h2, h3, h4, h5⟩
    refine ⟨h1, h2, h3, fun m hm => ?_, fun c hc => ?_⟩
    · obtain ⟨k, hk, rfl⟩ := mem_mn hm
      exact h4 k hk
    · obtain ⟨k, hk, rfl⟩ := mem_cn hc
      exact h5 k hk
  · rintro ⟨h1, h2, h3, h4, h5⟩
    exact ⟨h1, h2, h3, fun k hk => h4 _ (mn_mem hk), fun k hk => h5 _ (cn_mem hk)⟩
theorem fpt_free {l : List Mpg} {n : Nat} {want : Int} (h : 0 ≤ fpt l n want) : byP l (fpt l n want) n < 0 ∧ 1000 ≤ fpt l n want ∧ fpt l n want ≤ 1007 := by
  unfold fpt at h ⊢
  split
  · rename_i h1
    simp only [Bool.and_eq_true, decide_eq_true_eq] at h1
    exact ⟨h1.2, inB_true h1.1⟩
  · rename_i h1
    rw [if_neg h1] at h
    split
    · rcases idx_cases (fpP l n want) 8 with ⟨k, hk, h3, _, e⟩ | ⟨_, e⟩
      · rw [e]
        unfold fpP at h3
        simp only [Bool.and_eq_true, decide_eq_true_eq] at h3
        exact ⟨h3.2, by omega, by omega⟩
      · rename_i h2
        omega
    · rename_i h2
      rw [if_neg h2] at h
      split
      · rcases idx_cases (fpQ l n) 8 with ⟨k, hk, h3, _, e⟩ | ⟨_, e⟩
        · rw [e]
          unfold fpQ at h3
          simp only [decide_eq_true_eq] at h3
          exact ⟨h3, by omega, by omega⟩
        · rename_i h4
          omega
      · rename_i h4
        rw [if_neg h4] at h
        omega
/-- The two ways to map an end. -/
theorem mapT_cases {l tb : List Mpg} {x y now p : Int} (h : mapT l l.length x y now = some (tb, p)) :
    (∃ k, k < l.length ∧ tb = l.set k { mn l k with la := max (mn l k).la now } ∧ p = (mn l k).po) ∨
    ((∀ m ∈ l, ¬ (m.ad = x ∧ m.ep = y)) ∧ (∀ m ∈ l, m.po ≠ p) ∧ (1000 ≤ p ∧ p ≤ 1007) ∧ tb = l ++ [⟨x, y, p, now⟩]) := by
  unfold mapT at h
  split at h
  · rename_i h0
    injection h with h
    injection h with h1 h2
    have hb := idx_bd (fun k => isE (mn l k) x y) l.length
    unfold byE at h0 h1 h2
    exact .inl ⟨_, by omega, h1.symm, h2.symm⟩
  · rename_i h0
    split at h
    · cases h
    · rename_i h3
      injection h with h
      injection h with h1 h2
      have hf := fpt_free (l := l) (n := l.length) (want := y) (by omega)
      refine .inr ⟨fun m hm e => ?_, fun m hm => ?_, by rw [← h2]; exact hf.2, by rw [← h1, h2]⟩
      · obtain ⟨k, hk, rfl⟩ := mem_mn hm
        have := (idx_neg.1 (Int.not_le.1 h0)) k hk
        rw [isE_iff.2 e] at this
        cases this
      · rw [← h2]
        exact byP_no.1 hf.1 m hm
/-- Of m numbers in a row there are no more than m different ones. -/
theorem pigeon : ∀ (m : Nat) (xs : List Int), xs.Pairwise (· ≠ ·) → (∀ x ∈ xs, 1000 ≤ x ∧ x < 1000 + (m : Int)) → xs.length ≤ m
  | 0, [], _, _ => Nat.le_refl _
  | 0, x :: _, _, h => by have := h x (by simp); omega
  | m + 1, xs, hp, h => by
    have ih := pigeon m (xs.erase (1000 + (m : Int))) (List.Nodup.erase _ hp) (fun x hx => by
      have h1 := h x (List.mem_of_mem_erase hx)
      have h2 : x ≠ 1000 + (m : Int) := fun e => by
        subst e
        exact (List.Nodup.mem_erase_iff hp).1 hx |>.1 rfl
      omega)
    have : xs.length ≤ (xs.erase (1000 + (m : Int))).length + 1 := by
      rw [List.length_erase]
      split <;> omega
    omega
theorem map_set_same {α : Type} {l : List Mpg} {k : Nat} (hk : k < l.length) (f : Mpg → α) {m' : Mpg} (h : f m' = f (mn l k)) : (l.set k m').map f = l.map f := by
  apply List.ext_getElem?
  intro j
  rw [List.getElem?_map, List.getElem?_map, List.getElem?_set]
  by_cases e : k = j
  · subst e
    rw [if_pos rfl, if_pos hk, List.getElem?_eq_getElem hk]
    simp only [Option.map_some, h]
    simp [mn, hk]
  · rw [if_neg e]
theorem mapT_valid {l tb : List Mpg} {x y now p : Int} (hl : vTab l = true) (hx : inB x 0 65535 = true) (hy : inB y 0 65535 = true) (hn : inB now 0 10000 = true) (h : mapT l l.length x y now = some (tb, p)) :
    vTab tb = true ∧ (1000 ≤ p ∧ p ≤ 1007) ∧ (∃ m ∈ tb, m.po = p) ∧ (∀ m ∈ l, ∃ n ∈ tb, n.po = m.po) ∧ ∀ m ∈ tb, (∃ n ∈ l, m.ad = n.ad ∧ (m.la = n.la ∨ m.la = now)) ∨ (m.ad = x ∧ m.la = now) := by
  obtain ⟨v1, v2, v3, v4⟩ := vTab_list.1 hl
  have a1 := inB_true hx
  have a2 := inB_true hy
  have a3 := inB_true hn
  rcases mapT_cases h with ⟨k, hk, rfl, rfl⟩ | ⟨h1, h2, h3, rfl⟩
  · have hok := okM_iff.1 (v1 _ (mn_mem hk))
    have hke : mn l k = l[k] := by simp [mn, hk]
    refine ⟨vTab_list.2 ⟨fun m hm => ?_, ?_, ?_, by simpa using v4⟩, hok.2.1, ⟨{ mn l k with la := max (mn l k).la now }, List.mem_set hk _, rfl⟩, fun m hm => ?_, fun m hm => ?_⟩
    · rcases List.mem_or_eq_of_mem_set hm with h4 | rfl
      · exact v1 m h4
      · exact okM_iff.2 ⟨hok.1, hok.2.1, by show 0 ≤ max _ _; omega, by show max _ _ ≤ _; omega⟩
    · have e := map_set_same hk (fun m : Mpg => (m.ad, m.ep)) (m' := { mn l k with la := max (mn l k).la now }) rfl
      have h1 : (l.map (fun m : Mpg => (m.ad, m.ep))).Pairwise (fun a b => ¬ (a.1 = b.1 ∧ a.2 = b.2)) := List.pairwise_map.2 v2
      rw [← e] at h1
      exact List.pairwise_map.1 h1
    · have e := map_set_same hk (fun m : Mpg => m.po) (m' := { mn l k with la := max (mn l k).la now }) rfl
      have h1 : (l.map (fun m : Mpg => m.po)).Pairwise (fun a b => a ≠ b) := List.pairwise_map.2 v3
      rw [← e] at h1
      exact List.pairwise_map.1 h1
    · obtain ⟨j, hj, rfl⟩ := mem_mn hm
      by_cases e : k = j
      · subst e
        exact ⟨_, List.mem_set hk _, rfl⟩
      · have hj' : j < (l.set k { mn l k with la := max (mn l k).la now }).length := by simpa using hj
        refine ⟨_, List.getElem_mem hj', ?_⟩
        rw [List.getElem_set, if_neg e]
        simp [mn, hj]
    · rcases List.mem_or_eq_of_mem_set hm with h4 | rfl
      · exact .inl ⟨m, h4, rfl, .inl rfl⟩
      · refine .inl ⟨mn l k, mn_mem hk, rfl, ?_⟩
        show max _ _ = _ ∨ max _ _ = _
        omega
  · refine ⟨vTab_list.2 ⟨fun m hm => ?_, ?_, ?_, ?_⟩, h3, ⟨⟨x, y, p, now⟩, List.mem_append_right _ (List.mem_singleton.2 rfl), rfl⟩, fun m hm => ⟨m, List.mem_append_left _ hm, rfl⟩, fun m hm => ?_⟩
    · rcases List.mem_append.1 hm with h4 | h4
      · exact v1 m h4
      · simp at h4
        subst h4
        exact okM_iff.2 ⟨⟨a1, a2⟩, h3, a3⟩
    · rw [List.pairwise_append]
      exact ⟨v2, by simp, fun m hm n hn => by simp at hn; subst hn; exact h1 m hm⟩
    · rw [List.pairwise_append]
      exact ⟨v3, by simp, fun m hm n hn => by simp at hn; subst hn; exact h2 m hm⟩
    · have := pigeon 8 ((l ++ [(⟨x, y, p, now⟩ : Mpg)]).map Mpg.po) (by
        rw [List.pairwise_map, List.pairwise_append]
        exact ⟨v3, by simp, fun m hm n hn => by simp at hn; subst hn; exact h2 m hm⟩) (fun z hz => by
        rw [List.mem_map] at hz
        obtain ⟨m, hm, rfl⟩ := hz
        rcases List.mem_append.1 hm with h4 | h4
        · have := (okM_iff.1 (v1 m h4)).2.1; omega
        · simp at h4; subst h4; show 1000 ≤ p ∧ p < _; omega)
      simpa using this
    · rcases List.mem_append.1 hm with h4 | h4
      · exact .inl ⟨m, h4, rfl, .inl rfl⟩
      · simp at h4
        subst h4
        exact .inr ⟨rfl, rfl⟩
theorem noteC_mem {l : List Con} {c d : Con} (h : d ∈ noteC l c) : d ∈ l ∨ d = c := by
  unfold noteC at h
  have := List.mem_of_mem_drop h
  rcases List.mem_append.1 this with h1 | h1
  · exact .inl (List.mem_filter.1 h1).1
  · exact .inr (by simpa using h1)
theorem noteC_valid {l : List Con} {c : Con} (hl : vCon l = true) (hc : okC c = true) : vCon (noteC l c) = true := by
  obtain ⟨v1, v2, v3⟩ := vCon_list.1 hl
  refine vCon_list.2 ⟨fun d hd => ?_, ?_, ?_⟩
  · rcases noteC_mem hd with h | rfl
    · exact v1 d h
    · exact hc
  · unfold noteC
    refine List.Pairwise.drop (List.pairwise_append.2 ⟨List.Pairwise.filter _ v2, by simp, fun a ha b hb => ?_⟩)
    simp at hb
    subst hb
    have := (List.mem_filter.1 ha).2
    simpa using this
  · unfold noteC
    rw [List.length_drop]
    omega
/-- What goes out leaves a valid gate behind it, and is a valid packet from outside. -/
theorem send_valid {g g' : Gt} {p q : Pk} (hg : vGate g = true) (hp : vPk p = true) (hi : inN g.ba g.bi p.fa = true) (h : sendG g p = some (q, g')) :
    vGate g' = true ∧ vPk q = true ∧ q.ta = p.ta ∧ q.tp = p.tp ∧ q.fa = g.ou ∧ g'.ba = g.ba ∧ g'.bi = g.bi ∧ g'.ou = g.ou ∧ g'.fi = g.fi ∧ g'.tb.length ≤ 8 ∧ g'.cs.length ≤ 10 := by
  obtain ⟨v1, v2, v3, v4, v5⟩ := vGate_list.1 hg
  have hn := v1
  unfold vNum at hn
  simp only [Bool.and_eq_true] at hn
  obtain ⟨n1, n2, n3, n4, n5, n6⟩ := hn
  have hk := hp
  unfold vPk at hk
  simp only [Bool.and_eq_true] at hk
  obtain ⟨⟨p1, p2⟩, p3, p4⟩ := hk
  unfold sendG at h
  cases hm : mapT g.tb g.tb.length p.fa p.fp g.no with
  | none => rw [hm] at h; cases h
  | some r =>
    obtain ⟨tb, port⟩ := r
    rw [hm] at h
    injection h with h
    injection h with h1 h2
    subst h1 h2
    obtain ⟨m1, m2, m3, m4, m5⟩ := mapT_valid v2 p1 p2 n6 hm
    have h5 := inB_true n5
    have hc : okC ⟨port, p.ta, p.tp⟩ = true := by unfold okC; rw [inB_mk m2.1 m2.2, p3, p4]; rfl
    have hv := noteC_valid v3 hc
    refine ⟨vGate_list.2 ⟨v1, m1, hv, fun m hm' => ?_, fun c hc' => ?_⟩, ?_, rfl, rfl, rfl, rfl, rfl, rfl, rfl, (vTab_list.1 m1).2.2.2, (vCon_list.1 hv).2.2⟩
    · rcases m5 m hm' with ⟨n, hn', e1, e2⟩ | ⟨e1, e2⟩
      · have := v4 n hn'
        unfold mOk keepM at this ⊢
        refine ⟨by rw [e1]; exact this.1, ?_, ?_⟩
        · show m.la ≤ g.no
          rcases e2 with e2 | e2 <;> rw [e2]
          · exact this.2.1
          · exact Int.le_refl _
        · show (!decide (g.ho ≤ g.no - m.la)) = true
          rcases e2 with e2 | e2 <;> rw [e2]
          · exact this.2.2
          · simp; omega
      · unfold mOk keepM
        refine ⟨by rw [e1]; exact hi, ?_, ?_⟩
        · show m.la ≤ g.no
          rw [e2]; exact Int.le_refl _
        · show (!decide (g.ho ≤ g.no - m.la)) = true
          rw [e2]; simp; omega
    · rcases noteC_mem hc' with h6 | rfl
      · obtain ⟨m, hm', e⟩ := v5 c h6
        obtain ⟨n, hn', e'⟩ := m4 m hm'
        exact ⟨n, hn', e'.trans e⟩
      · exact m3
    · unfold vPk
      simp only [Bool.and_eq_true]
      have := m2
      exact ⟨⟨n2, inB_mk (by show 0 ≤ port; omega) (by show port ≤ 65535; omega)⟩, p3, p4⟩
end Go.Proofs.YtjflfhjnbccpmaaGreatDoor
namespace Go.Proofs.YtjflfhjnbccpmaaGreatDoor
open Go.RowKit
theorem vCon_bad {l : List Con} {k : Nat} (hk : k < l.length) (h : conI l k = false) : vCon l = false := by unfold vCon; rw [allUp_false hk h]; rfl
set_option maxHeartbeats 3200000 in
theorem c_sValidContacts (A : Option Addr) (n c : Nat) (l : List Con) (w : World) (hn : l.length = n) (h : TK w A l) (hl : n ≤ 1099511627776) :
    Calls Tryz.prog 147 #[.slice A n c] w fun e w' => e = .returned (.bool (vCon l)) ∧ Below w.heap.size w w' := by
  have HN := Lib.hid hn
  clear hn
  have heql := eql_con
  have hgd := guard_con
  go_enter Tryz.func147, Tryz.ntmps147
  go_wp2
  go_loopw [3] (fun i wr => ∃ k : Nat, k ≤ n ∧ i = .int .i64 k ∧ Hid (∀ j, j < k → conI l j = true) ∧ Hid (Below w.heap.size w wr)) (fun i _ => n - (intOf i).toNat)
  case atStart => exact ⟨0, Nat.zero_le _, rfl, fun j hj => absurd hj (by omega), Below.refl _ _⟩
  case round =>
    obtain ⟨k, hk, rfl, hS, HB⟩ := hrel
    by_cases hlt : k < n
    · have hR0 := h.to HB.out
      obtain ⟨b, off, rfl, hb, c0, c1, c2⟩ := hR0.get (k := k) (by rw [HN.out]; omega)
      have hkl : Hid (k < l.length) := by rw [HN.out]; exact hlt
      have HST : Hid (conI l k = ((inB (cn l k).po 1000 1007 && (inB (cn l k).ad 0 65535 && inB (cn l k).ep 0 65535)) && !(inC l (cn l k) k))) := rfl
      cases h1 : inB (cn l k).po 1000 1007
      · go_wp2_with fail
        refine (c_inRange _ _ _ _).mono ?_
        rw [h1]
        rintro e w' ⟨rfl, rfl⟩
        go_wp2
        go_ret
        exact ⟨ret_bool (by rw [vCon_bad hkl.out (by rw [HST.out, h1]; rfl)]), HB.out⟩
      cases h2 : inB (cn l k).ad 0 65535 && inB (cn l k).ep 0 65535
      · go_wp2_with fail
        refine (c_inRange _ _ _ _).mono ?_
        rw [h1]
        rintro e w' ⟨rfl, rfl⟩
        go_wp2_with fail
        refine (c_validEnd _ _ _).mono ?_
        rw [h2]
        rintro e w1 ⟨rfl, hq⟩
        go_wp2
        go_ret
        exact ⟨ret_bool (by rw [vCon_bad hkl.out (by rw [HST.out, h1, h2]; rfl)]), Bl.then HB.out hq⟩
      go_wp2_with fail
      refine (c_inRange _ _ _ _).mono ?_
      rw [h1]
      rintro e w' ⟨rfl, rfl⟩
      go_wp2_with fail
      refine (c_validEnd _ _ _).mono ?_
      rw [h2]
      rintro e w1 ⟨rfl, hq⟩
      have hR := hR0.to hq
      have HB1 := Lib.hid (Bl.then HB.out hq)
      have HOK := Lib.hid (And.intro h1 h2)
      clear hR0 hq c0 c1 c2 h1 h2
      go_wp2
      go_loopw [4] (fun i wr2 => ∃ j q : Nat, j ≤ k ∧ i = .int .i64 j ∧ Hid (∀ t, t < j → cn l t ≠ cn l k) ∧ wr2 = w1.drewN q) (fun i _ => k - (intOf i).toNat)
      case atStart => exact ⟨0, 0, Nat.zero_le _, rfl, fun j hj => absurd hj (by omega), rfl⟩
      case round =>
        obtain ⟨j, q, hj, rfl, hF, rfl⟩ := hrel
        by_cases hjk : j < k
        · obtain ⟨b', off', e', hb', d0, d1, d2⟩ := hR.get (k := j) (by rw [HN.out]; omega)
          cases e'
          obtain ⟨b', off', e', hb'', g0, g1, g2⟩ := hR.get (k := k) (by rw [HN.out]; omega)
          cases e'
          have e2 : 0 ≤ (j : Int) ∧ (j : Int) < n := by omega
          cases hE : eqK (cn l j) (cn l k)
          · have HE : Hid (cn l j ≠ cn l k) := fun e => by rw [eqK_iff.2 e] at hE; cases hE
            go_wp2
            go_quiet (fail)
            go_wp2
            go_roundw
            case rel => exact ⟨j + 1, _, by omega, by go_num, upTo_succ hF.out HE.out, rfl⟩
            case measure => simp [intOf]; omega
          · have HE := Lib.hid (eqK_iff.1 hE)
            go_wp2
            go_quiet (fail)
            go_wp2
            go_ret
            have hne : inC l (cn l k) k = true := by
              unfold inC
              exact anyUp_true hjk (by rw [decide_eq_true_eq]; exact HE.out)
            exact ⟨ret_bool (by rw [vCon_bad hkl.out (by rw [HST.out, hne]; simp)]), Bl.drewN (Bl.drewN HB1.out _) _⟩
        · obtain rfl : j = k := by omega
          go_wp2
          go_roundw
          case rel =>
            refine ⟨j + 1, by omega, by go_num, upTo_succ hS.out ?_, Bl.drewN HB1.out _⟩
            rw [HST.out, HOK.out.1, HOK.out.2, inC_iff.2 hF.out]
            rfl
          case measure => simp [intOf]; omega
    · obtain rfl : k = n := by omega
      go_wp2
      go_ret
      exact ⟨ret_bool (by unfold vCon; rw [allUp_true (fun j hj => hS.out j (by rw [← HN.out]; exact hj)), HN.out]; simp; omega), HB.out⟩
end Go.Proofs.YtjflfhjnbccpmaaGreatDoor
namespace Go.Proofs.YtjflfhjnbccpmaaGreatDoor
open Go.RowKit
theorem c_conValid (x : Con) (w : World) : Calls Tryz.prog 165 #[.agg #[.int .i64 x.po, .int .i64 x.ad, .int .i64 x.ep]] w fun e w' => e = .returned (.bool (okC x)) ∧ Below w.heap.size w w' := by
  have B : Below w.heap.size w (w.alloc (.cells #[.int .i64 x.po, .int .i64 x.ad, .int .i64 x.ep] 129)) := (Below.refl _ _).alloc (Nat.le_refl _) _
  have HX : Hid (okC x = (inB x.po 1000 1007 && (inB x.ad 0 65535 && inB x.ep 0 65535))) := rfl
  go_enter Tryz.func165, Tryz.ntmps165
  cases h1 : inB x.po 1000 1007
  · go_wp2_with fail
    refine (c_isOutside _ _).mono ?_
    rw [h1]
    rintro e w' ⟨rfl, rfl⟩
    go_wp2
    go_ret
    exact ⟨ret_bool (by rw [HX.out, h1]; rfl), B⟩
  · go_wp2_with fail
    refine (c_isOutside _ _).mono ?_
    rw [h1]
    rintro e w' ⟨rfl, rfl⟩
    go_wp2_with fail
    refine (c_endValid _ _ _).mono ?_
    rintro e w1 ⟨rfl, hq⟩
    go_wp2
    go_ret
    exact ⟨ret_bool (by rw [HX.out, h1]; rfl), Bl.then B hq⟩
set_option maxHeartbeats 1600000 in
theorem c_IndexC (A : Option Addr) (n c : Nat) (l : List Con) (x : Con) (w : World) (hn : l.length = n) (h : TK w A l) (hl : n ≤ 1099511627776) :
    Calls Tryz.prog 187 #[.slice A n c, .agg #[.int .i64 x.po, .int .i64 x.ad, .int .i64 x.ep]] w fun e w' => e = .returned (.int .i64 (idx (fun k => decide (cn l k = x)) n)) ∧ Below w.heap.size w w' := by
  have HN := Lib.hid hn
  have heql := eql_con
  have hgd := guard_con
  clear hn
  have kx := Blk.new w 129 #[.int .i64 x.po, .int .i64 x.ad, .int .i64 x.ep]
  have B : Below w.heap.size w (w.alloc (.cells #[.int .i64 x.po, .int .i64 x.ad, .int .i64 x.ep] 129)) := (Below.refl _ _).alloc (Nat.le_refl _) _
  have y0 := kx.cell 0
  have y1 := kx.cell 1
  have y2 := kx.cell 2
  simp only [List.getElem?_toArray, List.getElem?_cons_zero, List.getElem?_cons_succ] at y0 y1 y2
  go_enter Tryz.func187, Tryz.ntmps187
  go_wp2
  go_loopw [8] (fun i wr => ∃ k q : Nat, k ≤ n ∧ i = .int .i64 k ∧ Hid (∀ j, j < k → cn l j ≠ x) ∧ wr = (w.alloc (.cells #[.int .i64 x.po, .int .i64 x.ad, .int .i64 x.ep] 129)).drewN q) (fun i _ => n - (intOf i).toNat)
  case atStart => exact ⟨0, 0, Nat.zero_le _, rfl, fun j hj => absurd hj (by omega), rfl⟩
  case round =>
    obtain ⟨k, q, hk, rfl, hF, rfl⟩ := hrel
    by_cases hlt : k < n
    · obtain ⟨b, off, rfl, hb, c0, c1, c2⟩ := (h.to B).get (k := k) (by rw [HN.out]; exact hlt)
      have e2 : 0 ≤ (k : Int) ∧ (k : Int) < n := by omega
      cases hE : eqK x (cn l k)
      · have HE : Hid (cn l k ≠ x) := fun e => by rw [eqK_iff.2 e.symm] at hE; cases hE
        go_wp2
        go_quiet (fail)
        go_wp2
        go_roundw
        case rel => exact ⟨k + 1, _, by omega, by go_num, upTo_succ hF.out HE.out, rfl⟩
        case measure => simp [intOf]; omega
      · have HE := Lib.hid (eqK_iff.1 hE)
        go_wp2
        go_quiet (fail)
        go_wp2
        go_ret
        exact ⟨ret_int (by rw [idx_some hlt (by rw [decide_eq_true_eq]; exact HE.out.symm) (fun j hj => by rw [decide_eq_false_iff_not]; exact hF.out j hj)]), Bl.drewN (Bl.drewN B _) _⟩
    · go_wp2
      go_ret
      exact ⟨ret_int (by rw [idx_none (fun j hj => by rw [decide_eq_false_iff_not]; exact hF.out j (by omega))]), Bl.drewN B _⟩
theorem in_idx (l : List Con) (x : Con) (n : Nat) : decide (0 ≤ idx (fun k => decide (cn l k = x)) n) = inC l x n := by
  rcases idx_cases (fun k => decide (cn l k = x)) n with ⟨k, hk, h1, _, e⟩ | ⟨h1, e⟩
  · rw [e]
    unfold inC
    rw [anyUp_true hk h1, decide_eq_true_eq]; omega
  · rw [e]
    unfold inC
    rw [anyUp_false h1]; rfl
theorem c_ContainsC (A : Option Addr) (n c : Nat) (l : List Con) (x : Con) (w : World) (hn : l.length = n) (h : TK w A l) (hl : n ≤ 1099511627776) :
    Calls Tryz.prog 166 #[.slice A n c, .agg #[.int .i64 x.po, .int .i64 x.ad, .int .i64 x.ep]] w fun e w' => e = .returned (.bool (inC l x n)) ∧ Below w.heap.size w w' := by
  have kx := Blk.new w 129 #[.int .i64 x.po, .int .i64 x.ad, .int .i64 x.ep]
  have B : Below w.heap.size w (w.alloc (.cells #[.int .i64 x.po, .int .i64 x.ad, .int .i64 x.ep] 129)) := (Below.refl _ _).alloc (Nat.le_refl _) _
  have J := Lib.hid (c_IndexC A n c l x _ hn (h.to B) hl)
  have HI := Lib.hid (in_idx l x n)
  have y0 := kx.cell 0
  have y1 := kx.cell 1
  have y2 := kx.cell 2
  simp only [List.getElem?_toArray, List.getElem?_cons_zero, List.getElem?_cons_succ] at y0 y1 y2
  have hlt := kx.lt
  clear hn h kx
  go_enter Tryz.func166, Tryz.ntmps166
  go_wp2_with fail
  refine J.out.mono ?_
  rintro e w1 ⟨rfl, hq⟩
  go_wp2
  go_ret
  exact ⟨ret_bool (by rw [← HI.out]), Bl.then B hq⟩
end Go.Proofs.YtjflfhjnbccpmaaGreatDoor
namespace Go.Proofs.YtjflfhjnbccpmaaGreatDoor
open Go.RowKit
theorem anyUp_congr {P Q : Nat → Bool} {n : Nat} (h : ∀ j, j < n → P j = Q j) : anyUp P n = anyUp Q n := by
  unfold anyUp
  rw [Bool.eq_iff_iff, List.any_eq_true, List.any_eq_true]
  constructor
  · rintro ⟨j, hj, e⟩
    exact ⟨j, hj, by rw [← h j (by simpa using hj)]; exact e⟩
  · rintro ⟨j, hj, e⟩
    exact ⟨j, hj, by rw [h j (by simpa using hj)]; exact e⟩
theorem inC_take (l : List Con) (x : Con) (k : Nat) : inC (l.take k) x k = inC l x k := anyUp_congr (fun j hj => by rw [cn_take hj])
set_option maxRecDepth 100000 in
set_option maxHeartbeats 3200000 in
theorem c_iValidContacts (A : Option Addr) (n c : Nat) (l : List Con) (w : World) (hn : l.length = n) (hc : n ≤ c) (h : TK w A l) (hl : n ≤ 1099511627776) :
    Calls Tryz.prog 110 #[.slice A n c] w fun e w' => e = .returned (.bool (vCon l)) ∧ Below w.heap.size w w' := by
  have HN := Lib.hid hn
  clear hn
  go_enter Tryz.func110, Tryz.ntmps110
  go_wp2
  go_loopw [7] (fun i wr => ∃ k : Nat, k ≤ n ∧ i = .int .i64 k ∧ Hid (∀ j, j < k → conI l j = true) ∧ Hid (Below w.heap.size w wr)) (fun i _ => n - (intOf i).toNat)
  case atStart => exact ⟨0, Nat.zero_le _, rfl, fun j hj => absurd hj (by omega), Below.refl _ _⟩
  case round =>
    obtain ⟨k, hk, rfl, hS, HB⟩ := hrel
    by_cases hlt : k < n
    · have hR0 := h.to HB.out
      obtain ⟨b, off, rfl, hb, c0, c1, c2⟩ := hR0.get (k := k) (by rw [HN.out]; omega)
      have hkl : Hid (k < l.length) := by rw [HN.out]; exact hlt
      have HST : Hid (conI l k = (okC (cn l k) && !(inC l (cn l k) k))) := rfl
      have HC := Lib.hid (inC_take l (cn l k) k)
      have e2 : 0 ≤ (k : Int) ∧ (k : Int) ≤ c := by omega
      have kb := Blk.new wr 129 #[.int .i64 (cn l k).po, .int .i64 (cn l k).ad, .int .i64 (cn l k).ep]
      have HBB := HB.out.alloc HB.out.size (.cells #[.int .i64 (cn l k).po, .int .i64 (cn l k).ad, .int .i64 (cn l k).ep] 129)
      go_wp2_with fail
      have k1 : Blk (wr.alloc (.cells #[.int .i64 (cn l k).po, .int .i64 (cn l k).ad, .int .i64 (cn l k).ep] 129)).drew wr.heap.size 129 #[.int .i64 (cn l k).po, .int .i64 (cn l k).ad, .int .i64 (cn l k).ep] := kb
      have B : Below w.heap.size w (wr.alloc (.cells #[.int .i64 (cn l k).po, .int .i64 (cn l k).ad, .int .i64 (cn l k).ep] 129)).drew := Bl.drewN HBB 1
      have hR : TK (wr.alloc (.cells #[.int .i64 (cn l k).po, .int .i64 (cn l k).ad, .int .i64 (cn l k).ep] 129)).drew (some ⟨b, off, none⟩) l := hR0.alloc _
      clear kb HBB c0 c1 c2
      cases h1 : okC (cn l k)
      · skip
        refine wp_region_held_drew (S := (fun w' => w'.cell? ⟨wr.heap.size, 0, none⟩ = some (.int .i64 (cn l k).po) ∧ w'.cell? ⟨wr.heap.size, 1, none⟩ = some (.int .i64 (cn l k).ad) ∧ w'.cell? ⟨wr.heap.size, 2, none⟩ = some (.int .i64 (cn l k).ep))) (by kernel_rfl) ?_ (fun hHeld => ?_)
        · (try dsimp only); exact ⟨k1.cell 0, k1.cell 1, k1.cell 2⟩
        refine wpAnyH_take (i := 0) (v := ?_) (arr_at rfl) (by kernel_rfl) (by kernel_rfl) (by kernel_rfl) (fun _ _ _ h => h) ?_ (by assumption) ?_
        rotate_left
        · first | (refine Or.inr ⟨by rfl, ?_⟩; with_reducible rfl) | (refine Or.inl ⟨by rfl, ?_⟩; intro w hSw; (try dsimp only at hSw); go_simp; first | done | with_reducible rfl)
        try simp only [Act.put, List.setIfInBounds_toArray, List.set_cons_zero, List.set_cons_succ]
        refine wpAnyH_ready (rs := [1]) (by kernel_rfl) (by simp) ?_
        refine AllReadyH.cons (arr_at rfl) (fun K hK => ?_) AllReadyH.nil
        go_simp
        go_at_call 165; refine (c_conValid (cn l k) _).mono ?_; rw [h1]; rintro e w1 ⟨rfl, hq⟩; replace k1 := k1.to hq; replace B := Bl.then B hq; replace hR := hR.to hq; clear hq
        refine hK.out _ _ ?_ (fun hHeld => ?_)
        · (try dsimp only); exact ⟨k1.cell 0, k1.cell 1, k1.cell 2⟩
        clear hK K
        try simp only [Act.put, List.setIfInBounds_toArray, List.set_cons_zero, List.set_cons_succ]
        refine wpAnyH_take (i := 2) (v := ?_) (arr_at rfl) (by kernel_rfl) (by kernel_rfl) (by kernel_rfl) (fun _ _ _ h => h) ?_ (by assumption) ?_
        rotate_left
        · first | (refine Or.inr ⟨by rfl, ?_⟩; with_reducible rfl) | (refine Or.inl ⟨by rfl, ?_⟩; intro w hSw; (try dsimp only at hSw); go_simp; first | done | with_reducible rfl)
        try simp only [Act.put, List.setIfInBounds_toArray, List.set_cons_zero, List.set_cons_succ]
        refine wpAnyH_take (i := 3) (v := ?_) (arr_at rfl) (by kernel_rfl) (by kernel_rfl) (by kernel_rfl) (fun _ _ _ h => h) ?_ (by assumption) ?_
        rotate_left
        · first | (refine Or.inr ⟨by rfl, ?_⟩; with_reducible rfl) | (refine Or.inl ⟨by rfl, ?_⟩; intro w hSw; (try dsimp only at hSw); go_simp; first | done | with_reducible rfl)
        try simp only [Act.put, List.setIfInBounds_toArray, List.set_cons_zero, List.set_cons_succ]
        refine wpAnyH_take (i := 4) (v := ?_) (arr_at rfl) (by kernel_rfl) (by kernel_rfl) (by kernel_rfl) (fun _ _ _ h => h) ?_ (by assumption) ?_
        rotate_left
        · first | (refine Or.inr ⟨by rfl, ?_⟩; with_reducible rfl) | (refine Or.inl ⟨by rfl, ?_⟩; intro w hSw; (try dsimp only at hSw); go_simp; first | done | with_reducible rfl)
        try simp only [Act.put, List.setIfInBounds_toArray, List.set_cons_zero, List.set_cons_succ]
        refine wpAnyH_take (i := 5) (v := ?_) (arr_at rfl) (by kernel_rfl) (by kernel_rfl) (by kernel_rfl) (fun _ _ _ h => h) ?_ (by assumption) ?_
        rotate_left
        · first | (refine Or.inr ⟨by rfl, ?_⟩; with_reducible rfl) | (refine Or.inl ⟨by rfl, ?_⟩; intro w hSw; (try dsimp only at hSw); go_simp; first | done | with_reducible rfl)
        try simp only [Act.put, List.setIfInBounds_toArray, List.set_cons_zero, List.set_cons_succ]
        refine wpAnyH_take (i := 6) (v := ?_) (arr_at rfl) (by kernel_rfl) (by kernel_rfl) (by kernel_rfl) (fun _ _ _ h => h) ?_ (by assumption) ?_
        rotate_left
        · first | (refine Or.inr ⟨by rfl, ?_⟩; with_reducible rfl) | (refine Or.inl ⟨by rfl, ?_⟩; intro w hSw; (try dsimp only at hSw); go_simp; first | done | with_reducible rfl)
        try simp only [Act.put, List.setIfInBounds_toArray, List.set_cons_zero, List.set_cons_succ]
        refine wpAnyH_take (i := 7) (v := ?_) (arr_at rfl) (by kernel_rfl) (by kernel_rfl) (by kernel_rfl) (fun _ _ _ h => h) ?_ (by assumption) ?_
        rotate_left
        · first | (refine Or.inr ⟨by rfl, ?_⟩; with_reducible rfl) | (refine Or.inl ⟨by rfl, ?_⟩; intro w hSw; (try dsimp only at hSw); go_simp; first | done | with_reducible rfl)
        try simp only [Act.put, List.setIfInBounds_toArray, List.set_cons_zero, List.set_cons_succ]
        refine wpAnyH_take (i := 8) (v := ?_) (arr_at rfl) (by kernel_rfl) (by kernel_rfl) (by kernel_rfl) (fun _ _ _ h => h) ?_ (by assumption) ?_
        rotate_left
        · first | (refine Or.inr ⟨by rfl, ?_⟩; with_reducible rfl) | (refine Or.inl ⟨by rfl, ?_⟩; intro w hSw; (try dsimp only at hSw); go_simp; first | done | with_reducible rfl)
        try simp only [Act.put, List.setIfInBounds_toArray, List.set_cons_zero, List.set_cons_succ]
        refine wpAnyH_take (i := 9) (v := ?_) (arr_at rfl) (by kernel_rfl) (by kernel_rfl) (by kernel_rfl) (fun _ _ _ h => h) ?_ (by assumption) ?_
        rotate_left
        · first | (refine Or.inr ⟨by rfl, ?_⟩; with_reducible rfl) | (refine Or.inl ⟨by rfl, ?_⟩; intro w hSw; (try dsimp only at hSw); go_simp; first | done | with_reducible rfl)
        try simp only [Act.put, List.setIfInBounds_toArray, List.set_cons_zero, List.set_cons_succ]
        refine wpAnyH_done (by kernel_rfl) ?_ _
        go_wp2
        go_ret
        exact ⟨ret_bool (by rw [vCon_bad hkl.out (by rw [HST.out, h1]; rfl)]), B⟩
      cases h2 : inC l (cn l k) k
      · skip
        refine wp_region_held_drew (S := (fun w' => w'.cell? ⟨wr.heap.size, 0, none⟩ = some (.int .i64 (cn l k).po) ∧ w'.cell? ⟨wr.heap.size, 1, none⟩ = some (.int .i64 (cn l k).ad) ∧ w'.cell? ⟨wr.heap.size, 2, none⟩ = some (.int .i64 (cn l k).ep))) (by kernel_rfl) ?_ (fun hHeld => ?_)
        · (try dsimp only); exact ⟨k1.cell 0, k1.cell 1, k1.cell 2⟩
        refine wpAnyH_take (i := 0) (v := ?_) (arr_at rfl) (by kernel_rfl) (by kernel_rfl) (by kernel_rfl) (fun _ _ _ h => h) ?_ (by assumption) ?_
        rotate_left
        · first | (refine Or.inr ⟨by rfl, ?_⟩; with_reducible rfl) | (refine Or.inl ⟨by rfl, ?_⟩; intro w hSw; (try dsimp only at hSw); go_simp; first | done | with_reducible rfl)
        try simp only [Act.put, List.setIfInBounds_toArray, List.set_cons_zero, List.set_cons_succ]
        refine wpAnyH_ready (rs := [1]) (by kernel_rfl) (by simp) ?_
        refine AllReadyH.cons (arr_at rfl) (fun K hK => ?_) AllReadyH.nil
        go_simp
        go_at_call 165; refine (c_conValid (cn l k) _).mono ?_; rw [h1]; rintro e w1 ⟨rfl, hq⟩; replace k1 := k1.to hq; replace B := Bl.then B hq; replace hR := hR.to hq; clear hq
        refine hK.out _ _ ?_ (fun hHeld => ?_)
        · (try dsimp only); exact ⟨k1.cell 0, k1.cell 1, k1.cell 2⟩
        clear hK K
        try simp only [Act.put, List.setIfInBounds_toArray, List.set_cons_zero, List.set_cons_succ]
        refine wpAnyH_take (i := 2) (v := ?_) (arr_at rfl) (by kernel_rfl) (by kernel_rfl) (by kernel_rfl) (fun _ _ _ h => h) ?_ (by assumption) ?_
        rotate_left
        · first | (refine Or.inr ⟨by rfl, ?_⟩; with_reducible rfl) | (refine Or.inl ⟨by rfl, ?_⟩; intro w hSw; (try dsimp only at hSw); go_simp; first | done | with_reducible rfl)
        try simp only [Act.put, List.setIfInBounds_toArray, List.set_cons_zero, List.set_cons_succ]
        refine wpAnyH_take (i := 3) (v := ?_) (arr_at rfl) (by kernel_rfl) (by kernel_rfl) (by kernel_rfl) (fun _ _ _ h => h) ?_ (by assumption) ?_
        rotate_left
        · first | (refine Or.inr ⟨by rfl, ?_⟩; with_reducible rfl) | (refine Or.inl ⟨by rfl, ?_⟩; intro w hSw; (try dsimp only at hSw); go_simp; first | done | with_reducible rfl)
        try simp only [Act.put, List.setIfInBounds_toArray, List.set_cons_zero, List.set_cons_succ]
        refine wpAnyH_take (i := 4) (v := ?_) (arr_at rfl) (by kernel_rfl) (by kernel_rfl) (by kernel_rfl) (fun _ _ _ h => h) ?_ (by assumption) ?_
        rotate_left
        · first | (refine Or.inr ⟨by rfl, ?_⟩; with_reducible rfl) | (refine Or.inl ⟨by rfl, ?_⟩; intro w hSw; (try dsimp only at hSw); go_simp; first | done | with_reducible rfl)
        try simp only [Act.put, List.setIfInBounds_toArray, List.set_cons_zero, List.set_cons_succ]
        refine wpAnyH_take (i := 5) (v := ?_) (arr_at rfl) (by kernel_rfl) (by kernel_rfl) (by kernel_rfl) (fun _ _ _ h => h) ?_ (by assumption) ?_
        rotate_left
        · first | (refine Or.inr ⟨by rfl, ?_⟩; with_reducible rfl) | (refine Or.inl ⟨by rfl, ?_⟩; intro w hSw; (try dsimp only at hSw); go_simp; first | done | with_reducible rfl)
        try simp only [Act.put, List.setIfInBounds_toArray, List.set_cons_zero, List.set_cons_succ]
        refine wpAnyH_take (i := 6) (v := ?_) (arr_at rfl) (by kernel_rfl) (by kernel_rfl) (by kernel_rfl) (fun _ _ _ h => h) ?_ (by assumption) ?_
        rotate_left
        · first | (refine Or.inr ⟨by rfl, ?_⟩; with_reducible rfl) | (refine Or.inl ⟨by rfl, ?_⟩; intro w hSw; (try dsimp only at hSw); go_simp; first | done | with_reducible rfl)
        try simp only [Act.put, List.setIfInBounds_toArray, List.set_cons_zero, List.set_cons_succ]
        refine wpAnyH_take (i := 7) (v := ?_) (arr_at rfl) (by kernel_rfl) (by kernel_rfl) (by kernel_rfl) (fun _ _ _ h => h) ?_ (by assumption) ?_
        rotate_left
        · first | (refine Or.inr ⟨by rfl, ?_⟩; with_reducible rfl) | (refine Or.inl ⟨by rfl, ?_⟩; intro w hSw; (try dsimp only at hSw); go_simp; first | done | with_reducible rfl)
        try simp only [Act.put, List.setIfInBounds_toArray, List.set_cons_zero, List.set_cons_succ]
        refine wpAnyH_ready (rs := [8]) (by kernel_rfl) (by simp) ?_
        refine AllReadyH.cons (arr_at rfl) (fun K hK => ?_) AllReadyH.nil
        go_simp
        go_at_call 166; refine (c_ContainsC _ _ _ (l.take k) (cn l k) _ (by rw [List.length_take, HN.out]; omega) (hR.take k) (by omega)).mono ?_; rw [HC.out, h2]; rintro e w2 ⟨rfl, hq⟩; replace k1 := k1.to hq; replace B := Bl.then B hq; replace hR := hR.to hq; clear hq
        refine hK.out _ _ ?_ (fun hHeld => ?_)
        · (try dsimp only); exact ⟨k1.cell 0, k1.cell 1, k1.cell 2⟩
        clear hK K
        try simp only [Act.put, List.setIfInBounds_toArray, List.set_cons_zero, List.set_cons_succ]
        refine wpAnyH_take (i := 9) (v := ?_) (arr_at rfl) (by kernel_rfl) (by kernel_rfl) (by kernel_rfl) (fun _ _ _ h => h) ?_ (by assumption) ?_
        rotate_left
        · first | (refine Or.inr ⟨by rfl, ?_⟩; with_reducible rfl) | (refine Or.inl ⟨by rfl, ?_⟩; intro w hSw; (try dsimp only at hSw); go_simp; first | done | with_reducible rfl)
        try simp only [Act.put, List.setIfInBounds_toArray, List.set_cons_zero, List.set_cons_succ]
        refine wpAnyH_done (by kernel_rfl) ?_ _
        go_wp2
        go_roundw
        case rel => exact ⟨k + 1, by omega, by go_num, upTo_succ hS.out (by rw [HST.out, h1, h2]; rfl), B⟩
        case measure => simp [intOf]; omega
      · skip
        refine wp_region_held_drew (S := (fun w' => w'.cell? ⟨wr.heap.size, 0, none⟩ = some (.int .i64 (cn l k).po) ∧ w'.cell? ⟨wr.heap.size, 1, none⟩ = some (.int .i64 (cn l k).ad) ∧ w'.cell? ⟨wr.heap.size, 2, none⟩ = some (.int .i64 (cn l k).ep))) (by kernel_rfl) ?_ (fun hHeld => ?_)
        · (try dsimp only); exact ⟨k1.cell 0, k1.cell 1, k1.cell 2⟩
        refine wpAnyH_take (i := 0) (v := ?_) (arr_at rfl) (by kernel_rfl) (by kernel_rfl) (by kernel_rfl) (fun _ _ _ h => h) ?_ (by assumption) ?_
        rotate_left
        · first | (refine Or.inr ⟨by rfl, ?_⟩; with_reducible rfl) | (refine Or.inl ⟨by rfl, ?_⟩; intro w hSw; (try dsimp only at hSw); go_simp; first | done | with_reducible rfl)
        try simp only [Act.put, List.setIfInBounds_toArray, List.set_cons_zero, List.set_cons_succ]
        refine wpAnyH_ready (rs := [1]) (by kernel_rfl) (by simp) ?_
        refine AllReadyH.cons (arr_at rfl) (fun K hK => ?_) AllReadyH.nil
        go_simp
        go_at_call 165; refine (c_conValid (cn l k) _).mono ?_; rw [h1]; rintro e w1 ⟨rfl, hq⟩; replace k1 := k1.to hq; replace B := Bl.then B hq; replace hR := hR.to hq; clear hq
        refine hK.out _ _ ?_ (fun hHeld => ?_)
        · (try dsimp only); exact ⟨k1.cell 0, k1.cell 1, k1.cell 2⟩
        clear hK K
        try simp only [Act.put, List.setIfInBounds_toArray, List.set_cons_zero, List.set_cons_succ]
        refine wpAnyH_take (i := 2) (v := ?_) (arr_at rfl) (by kernel_rfl) (by kernel_rfl) (by kernel_rfl) (fun _ _ _ h => h) ?_ (by assumption) ?_
        rotate_left
        · first | (refine Or.inr ⟨by rfl, ?_⟩; with_reducible rfl) | (refine Or.inl ⟨by rfl, ?_⟩; intro w hSw; (try dsimp only at hSw); go_simp; first | done | with_reducible rfl)
        try simp only [Act.put, List.setIfInBounds_toArray, List.set_cons_zero, List.set_cons_succ]
        refine wpAnyH_take (i := 3) (v := ?_) (arr_at rfl) (by kernel_rfl) (by kernel_rfl) (by kernel_rfl) (fun _ _ _ h => h) ?_ (by assumption) ?_
        rotate_left
        · first | (refine Or.inr ⟨by rfl, ?_⟩; with_reducible rfl) | (refine Or.inl ⟨by rfl, ?_⟩; intro w hSw; (try dsimp only at hSw); go_simp; first | done | with_reducible rfl)
        try simp only [Act.put, List.setIfInBounds_toArray, List.set_cons_zero, List.set_cons_succ]
        refine wpAnyH_take (i := 4) (v := ?_) (arr_at rfl) (by kernel_rfl) (by kernel_rfl) (by kernel_rfl) (fun _ _ _ h => h) ?_ (by assumption) ?_
        rotate_left
        · first | (refine Or.inr ⟨by rfl, ?_⟩; with_reducible rfl) | (refine Or.inl ⟨by rfl, ?_⟩; intro w hSw; (try dsimp only at hSw); go_simp; first | done | with_reducible rfl)
        try simp only [Act.put, List.setIfInBounds_toArray, List.set_cons_zero, List.set_cons_succ]
        refine wpAnyH_take (i := 5) (v := ?_) (arr_at rfl) (by kernel_rfl) (by kernel_rfl) (by kernel_rfl) (fun _ _ _ h => h) ?_ (by assumption) ?_
        rotate_left
        · first | (refine Or.inr ⟨by rfl, ?_⟩; with_reducible rfl) | (refine Or.inl ⟨by rfl, ?_⟩; intro w hSw; (try dsimp only at hSw); go_simp; first | done | with_reducible rfl)
        try simp only [Act.put, List.setIfInBounds_toArray, List.set_cons_zero, List.set_cons_succ]
        refine wpAnyH_take (i := 6) (v := ?_) (arr_at rfl) (by kernel_rfl) (by kernel_rfl) (by kernel_rfl) (fun _ _ _ h => h) ?_ (by assumption) ?_
        rotate_left
        · first | (refine Or.inr ⟨by rfl, ?_⟩; with_reducible rfl) | (refine Or.inl ⟨by rfl, ?_⟩; intro w hSw; (try dsimp only at hSw); go_simp; first | done | with_reducible rfl)
        try simp only [Act.put, List.setIfInBounds_toArray, List.set_cons_zero, List.set_cons_succ]
        refine wpAnyH_take (i := 7) (v := ?_) (arr_at rfl) (by kernel_rfl) (by kernel_rfl) (by kernel_rfl) (fun _ _ _ h => h) ?_ (by assumption) ?_
        rotate_left
        · first | (refine Or.inr ⟨by rfl, ?_⟩; with_reducible rfl) | (refine Or.inl ⟨by rfl, ?_⟩; intro w hSw; (try dsimp only at hSw); go_simp; first | done | with_reducible rfl)
        try simp only [Act.put, List.setIfInBounds_toArray, List.set_cons_zero, List.set_cons_succ]
        refine wpAnyH_ready (rs := [8]) (by kernel_rfl) (by simp) ?_
        refine AllReadyH.cons (arr_at rfl) (fun K hK => ?_) AllReadyH.nil
        go_simp
        go_at_call 166; refine (c_ContainsC _ _ _ (l.take k) (cn l k) _ (by rw [List.length_take, HN.out]; omega) (hR.take k) (by omega)).mono ?_; rw [HC.out, h2]; rintro e w2 ⟨rfl, hq⟩; replace k1 := k1.to hq; replace B := Bl.then B hq; replace hR := hR.to hq; clear hq
        refine hK.out _ _ ?_ (fun hHeld => ?_)
        · (try dsimp only); exact ⟨k1.cell 0, k1.cell 1, k1.cell 2⟩
        clear hK K
        try simp only [Act.put, List.setIfInBounds_toArray, List.set_cons_zero, List.set_cons_succ]
        refine wpAnyH_take (i := 9) (v := ?_) (arr_at rfl) (by kernel_rfl) (by kernel_rfl) (by kernel_rfl) (fun _ _ _ h => h) ?_ (by assumption) ?_
        rotate_left
        · first | (refine Or.inr ⟨by rfl, ?_⟩; with_reducible rfl) | (refine Or.inl ⟨by rfl, ?_⟩; intro w hSw; (try dsimp only at hSw); go_simp; first | done | with_reducible rfl)
        try simp only [Act.put, List.setIfInBounds_toArray, List.set_cons_zero, List.set_cons_succ]
        refine wpAnyH_done (by kernel_rfl) ?_ _
        go_wp2
        go_ret
        exact ⟨ret_bool (by rw [vCon_bad hkl.out (by rw [HST.out, h1, h2]; rfl)]), B⟩
    · obtain rfl : k = n := by omega
      go_wp2
      go_ret
      exact ⟨ret_bool (by unfold vCon; rw [allUp_true (fun j hj => hS.out j (by rw [← HN.out]; exact hj)), HN.out]; simp; omega), HB.out⟩
end Go.Proofs.YtjflfhjnbccpmaaGreatDoor
namespace Go.Proofs.YtjflfhjnbccpmaaGreatDoor
open Go.RowKit
/-- A valid table, a time and a hold time. -/
def timV (l : List Mpg) (now hold : Int) : Bool := vTab l && (inB now 0 10000 && inB hold 1 500)
theorem c_timed (A : Option Addr) (n c : Nat) (l : List Mpg) (now hold : Int) (w : World) (hn : l.length = n) (hc : n ≤ c) (h : TM w A l) (hl : n ≤ 1099511627776) :
    Calls Tryz.prog 109 #[.slice A n c, .int .i64 now, .int .i64 hold] w fun e w' => e = .returned (.bool (timV l now hold)) ∧ Below w.heap.size w w' := by
  have J := Lib.hid (c_iValidTable A n c l w hn hc h hl)
  have HX : Hid (timV l now hold = (vTab l && (inB now 0 10000 && inB hold 1 500))) := rfl
  clear hn h
  cases h1 : vTab l
  · go_enter Tryz.func109, Tryz.ntmps109
    go_wp2_with fail
    refine J.out.mono ?_
    rw [h1]
    rintro e w1 ⟨rfl, hq⟩
    go_wp2
    go_ret
    exact ⟨ret_bool (by rw [HX.out, h1]; rfl), hq⟩
  cases h2 : inB now 0 10000
  · go_enter Tryz.func109, Tryz.ntmps109
    go_wp2_with fail
    refine J.out.mono ?_
    rw [h1]
    rintro e w1 ⟨rfl, hq⟩
    go_wp2_with fail
    refine (c_isTime _ _).mono ?_
    rw [h2]
    rintro e w' ⟨rfl, rfl⟩
    go_wp2
    go_ret
    exact ⟨ret_bool (by rw [HX.out, h1, h2]; rfl), hq⟩
  · go_enter Tryz.func109, Tryz.ntmps109
    go_wp2_with fail
    refine J.out.mono ?_
    rw [h1]
    rintro e w1 ⟨rfl, hq⟩
    go_wp2_with fail
    refine (c_isTime _ _).mono ?_
    rw [h2]
    rintro e w' ⟨rfl, rfl⟩
    go_wp2_with fail
    refine (c_in _ _ _ _).mono ?_
    rintro e w' ⟨rfl, rfl⟩
    go_wp2
    go_ret
    exact ⟨ret_bool (by rw [HX.out, h1, h2]; rfl), hq⟩
/-- What the program finds expired, whatever the numbers. -/
def expW (la now hold : Int) : Bool := decide (hold ≤ wrap64 (now - la))
theorem expW_at {la now hold : Int} (h1 : 0 ≤ la) (h2 : la ≤ 10000) (h3 : 0 ≤ now) (h4 : now ≤ 10000) : expW la now hold = decide (hold ≤ now - la) := by
  unfold expW
  rw [show wrap64 (now - la) = now - la by unfold wrap64; omega]
theorem c_iExpired (r : Mpg) (now hold : Int) (w : World) :
    Calls Tryz.prog 113 #[.agg #[.int .i64 r.ad, .int .i64 r.ep, .int .i64 r.po, .int .i64 r.la], .int .i64 now, .int .i64 hold] w fun e w' => e = .returned (.bool (expW r.la now hold)) ∧ Below w.heap.size w w' := by
  have k0 := Blk.new w 84 #[.int .i64 r.ad, .int .i64 r.ep, .int .i64 r.po, .int .i64 r.la]
  have y3 := k0.cell 3
  simp only [List.getElem?_toArray, List.getElem?_cons_zero, List.getElem?_cons_succ] at y3
  go_enter Tryz.func113, Tryz.ntmps113
  go_wp2
  go_ret
  exact ⟨ret_bool (by unfold expW; rfl), (Below.refl _ _).alloc (Nat.le_refl _) _⟩
/-- ExpireTable's predicate. -/
theorem p_expire (b1 b2 : Nat) (now hold : Int) (w0 : World) (h1 : w0.cell? ⟨b1, 0, none⟩ = some (.int .i64 now)) (h2 : w0.cell? ⟨b2, 0, none⟩ = some (.int .i64 hold)) (l1 : b1 < w0.heap.size) (l2 : b2 < w0.heap.size) :
    PredM 126 #[.pointer (some ⟨b1, 0, none⟩), .pointer (some ⟨b2, 0, none⟩)] (fun m => expW m.la now hold) w0 := by
  intro W x hW
  have hs := hW.size
  have hb1 : b1 < W.heap.size := by omega
  have hb2 : b2 < W.heap.size := by omega
  have c1 : W.cell? ⟨b1, 0, none⟩ = some (.int .i64 now) := (hW.cell (p := ⟨b1, 0, none⟩) l1).trans h1
  have c2 : W.cell? ⟨b2, 0, none⟩ = some (.int .i64 hold) := (hW.cell (p := ⟨b2, 0, none⟩) l2).trans h2
  have k0 := Blk.new W 84 #[.int .i64 x.ad, .int .i64 x.ep, .int .i64 x.po, .int .i64 x.la]
  have y0 := k0.cell 0
  have y1 := k0.cell 1
  have y2 := k0.cell 2
  have y3 := k0.cell 3
  simp only [List.getElem?_toArray, List.getElem?_cons_zero, List.getElem?_cons_succ] at y0 y1 y2 y3
  clear hW h1 h2 hs
  go_enter Tryz.func126, Tryz.ntmps126
  go_wp2_with fail
  refine (c_iExpired x now hold _).mono ?_
  rintro e w1 ⟨rfl, hq⟩
  go_wp2
  go_ret
  exact ⟨rfl, Bl.then ((Below.refl _ _).alloc (Nat.le_refl _) _) hq⟩
/-- without's predicate. -/
theorem p_without (b : Nat) (p : Int) (w0 : World) (hc : w0.cell? ⟨b, 0, none⟩ = some (.int .i64 p)) (hb : b < w0.heap.size) : PredK 122 #[.pointer (some ⟨b, 0, none⟩)] (fun c => c.po == p) w0 := by
  intro W x hW
  have hs := hW.size
  have hbW : b < W.heap.size := by omega
  have hcW : W.cell? ⟨b, 0, none⟩ = some (.int .i64 p) := (hW.cell (p := ⟨b, 0, none⟩) hb).trans hc
  clear hW hc
  go_enter Tryz.func122, Tryz.ntmps122
  go_wp2
  go_ret
  exact ⟨ret_bool (by rfl), (Below.refl _ _).alloc (Nat.le_refl _) _⟩
end Go.Proofs.YtjflfhjnbccpmaaGreatDoor
namespace Go.Proofs.YtjflfhjnbccpmaaGreatDoor
open Go.RowKit
theorem c_ClipM (A : Option Addr) (n c : Nat) (w : World) (hn : n ≤ c) (_ : c ≤ maxLen) : Calls Tryz.prog 123 #[.slice A n c] w fun e w' => e = .returned (.slice A n n) ∧ w = w' := by
  go_enter Tryz.func123, Tryz.ntmps123
  go_wp2
  go_ret
  exact ⟨by simp, rfl⟩
theorem c_ClipK (A : Option Addr) (n c : Nat) (w : World) (hn : n ≤ c) (_ : c ≤ maxLen) : Calls Tryz.prog 119 #[.slice A n c] w fun e w' => e = .returned (.slice A n n) ∧ w = w' := by
  go_enter Tryz.func119, Tryz.ntmps119
  go_wp2
  go_ret
  exact ⟨by simp, rfl⟩
end Go.Proofs.YtjflfhjnbccpmaaGreatDoor
namespace Go.Proofs.YtjflfhjnbccpmaaGreatDoor
open Go.RowKit
theorem conT_info : (Tryz.prog.info? 129).map (fun i => (i.zero, i.size, i.bytes)) = some (some (.agg #[.int .i64 0, .int .i64 0, .int .i64 0]), 3, 24) := by kernel_rfl
theorem conCs_one (l : List Con) : ∀ u ∈ conCs l, u.oneCell' = true := fun u hu => by
  unfold conCs at hu
  obtain ⟨r, _, hr⟩ := List.mem_flatMap.1 hu
  simp only [conC, List.mem_cons, List.not_mem_nil, or_false] at hr
  rcases hr with rfl | rfl | rfl <;> rfl
theorem c_CloneM (A : Option Addr) (n c : Nat) (l : List Mpg) (w : World) (hn : l.length = n) (h : TM w A l) (hl : n ≤ 1099511627) :
    Calls Tryz.prog 125 #[.slice A n c] w fun e w' => ∃ A' c', e = .returned (.slice A' n c') ∧ n ≤ c' ∧ c' ≤ maxLen ∧ w'.ownsRow w.heap.size 84 4 (.slice A' n c') n (mapCs l) ∧ Below w.heap.size w w' := by
  have hnil := fun W a n c => Lib.run_eql_slice_nil (P := Tryz.prog) W 41 84 a n c 0 0 Tryz.underlying41
  cases A with
  | none =>
    have h0 : n = 0 := by
      rcases Nat.eq_zero_or_pos n with h0 | h0
      · exact h0
      · obtain ⟨_, _, e, _⟩ := h.get (k := 0) (by omega)
        cases e
    subst h0
    have hl0 : l = [] := List.length_eq_zero_iff.1 hn
    subst hl0
    go_enter Tryz.func125, Tryz.ntmps125
    go_wp2
    go_ret
    exact ⟨none, 0, rfl, Nat.le_refl _, by unfold maxLen; omega, ⟨rfl, .inl ⟨rfl, rfl⟩⟩, Below.refl _ _⟩
  | some a =>
    have HN := Lib.hid hn
    clear hn
    go_enter Tryz.func125, Tryz.ntmps125
    go_wp2_with (at_builtin; go_loud (obtain ⟨i0, hi, hz0, hz1, hz2⟩ := info_parts mapT_info; refine wpList_append_rd _ rfl _ _ 41 rfl w.heap.size 84 i0 _ 4 32 Tryz.underlying41 hi hz0 hz1 hz2 rfl (by omega) _ 0 [] rfl (World.ownsRow_made w #[] 0 (Nat.le_refl _) (by unfold maxLen; omega) (by simp)) (some a) n c (mapCs l) rfl (Rd.alloc h _) (by rw [mapCs_len, HN.out]) (mapCs_one l) (by unfold maxLen; omega) (by omega) (by simp) ?_; intro v1 w1 hown1 hg1 hat1; clear hi hz0 hz1 hz2 hat1))
    go_ret
    replace hown1 : w1.ownsRow w.heap.size 84 4 v1 n (mapCs l) := by simpa using hown1
    obtain ⟨A', c', rfl, hc1, hc2, _⟩ := own_slice hown1
    exact ⟨A', c', rfl, hc1, hc2, hown1, ((Below.refl _ _).alloc (Nat.le_refl _) (.cells #[] 84)).grown hg1 (by simp) (fun k hk => by have e : w.heap.size = k := Option.some.inj hk; omega)⟩
theorem c_CloneK (A : Option Addr) (n c : Nat) (l : List Con) (w : World) (hn : l.length = n) (h : TK w A l) (hl : n ≤ 1099511627) :
    Calls Tryz.prog 121 #[.slice A n c] w fun e w' => ∃ A' c', e = .returned (.slice A' n c') ∧ n ≤ c' ∧ c' ≤ maxLen ∧ w'.ownsRow w.heap.size 129 3 (.slice A' n c') n (conCs l) ∧ Below w.heap.size w w' := by
  have hnil := fun W a n c => Lib.run_eql_slice_nil (P := Tryz.prog) W 42 129 a n c 0 0 Tryz.underlying42
  cases A with
  | none =>
    have h0 : n = 0 := by
      rcases Nat.eq_zero_or_pos n with h0 | h0
      · exact h0
      · obtain ⟨_, _, e, _⟩ := h.get (k := 0) (by omega)
        cases e
    subst h0
    have hl0 : l = [] := List.length_eq_zero_iff.1 hn
    subst hl0
    go_enter Tryz.func121, Tryz.ntmps121
    go_wp2
    go_ret
    exact ⟨none, 0, rfl, Nat.le_refl _, by unfold maxLen; omega, ⟨rfl, .inl ⟨rfl, rfl⟩⟩, Below.refl _ _⟩
  | some a =>
    have HN := Lib.hid hn
    clear hn
    go_enter Tryz.func121, Tryz.ntmps121
    go_wp2_with (at_builtin; go_loud (obtain ⟨i0, hi, hz0, hz1, hz2⟩ := info_parts conT_info; refine wpList_append_rd _ rfl _ _ 42 rfl w.heap.size 129 i0 _ 3 24 Tryz.underlying42 hi hz0 hz1 hz2 rfl (by omega) _ 0 [] rfl (World.ownsRow_made w #[] 0 (Nat.le_refl _) (by unfold maxLen; omega) (by simp)) (some a) n c (conCs l) rfl (Rd.alloc h _) (by rw [conCs_len, HN.out]) (conCs_one l) (by unfold maxLen; omega) (by omega) (by simp) ?_; intro v1 w1 hown1 hg1 hat1; clear hi hz0 hz1 hz2 hat1))
    go_ret
    replace hown1 : w1.ownsRow w.heap.size 129 3 v1 n (conCs l) := by simpa using hown1
    obtain ⟨A', c', rfl, hc1, hc2, _⟩ := own_slice hown1
    exact ⟨A', c', rfl, hc1, hc2, hown1, ((Below.refl _ _).alloc (Nat.le_refl _) (.cells #[] 129)).grown hg1 (by simp) (fun k hk => by have e : w.heap.size = k := Option.some.inj hk; omega)⟩
end Go.Proofs.YtjflfhjnbccpmaaGreatDoor
namespace Go.Proofs.YtjflfhjnbccpmaaGreatDoor
theorem vTab_filter {l : List Mpg} {p : Mpg → Bool} (h : vTab l = true) : vTab (l.filter p) = true := by
  obtain ⟨v1, v2, v3, v4⟩ := vTab_list.1 h
  exact vTab_list.2 ⟨fun m hm => v1 m (List.mem_filter.1 hm).1, v2.filter _, v3.filter _, Nat.le_trans (List.length_filter_le _ _) v4⟩
theorem vCon_filter {l : List Con} {p : Con → Bool} (h : vCon l = true) : vCon (l.filter p) = true := by
  obtain ⟨v1, v2, v3⟩ := vCon_list.1 h
  exact vCon_list.2 ⟨fun m hm => v1 m (List.mem_filter.1 hm).1, v2.filter _, Nat.le_trans (List.length_filter_le _ _) v3⟩
/-- The numbers of a valid gate. -/
theorem gate_nums {g : Gt} (h : vGate g = true) : vNet g.ba g.bi = true ∧ inB g.ou 0 65535 = true ∧ inN g.ba g.bi g.ou = false ∧ inB g.fi 0 2 = true ∧ inB g.ho 1 500 = true ∧ inB g.no 0 10000 = true := by
  obtain ⟨v1, -⟩ := vGate_list.1 h
  unfold vNum at v1
  simp only [Bool.and_eq_true, Bool.not_eq_true'] at v1
  exact v1
theorem gate_tab {g : Gt} (h : vGate g = true) : vTab g.tb = true := (vGate_list.1 h).2.1
theorem gate_con {g : Gt} (h : vGate g = true) : vCon g.cs = true := (vGate_list.1 h).2.2.1
theorem tab_len {l : List Mpg} (h : vTab l = true) : l.length ≤ 8 := (vTab_list.1 h).2.2.2
theorem con_len {l : List Con} (h : vCon l = true) : l.length ≤ 10 := (vCon_list.1 h).2.2
theorem pk_nums {p : Pk} (h : vPk p = true) : (0 ≤ p.fa ∧ p.fa ≤ 65535) ∧ (0 ≤ p.fp ∧ p.fp ≤ 65535) ∧ (0 ≤ p.ta ∧ p.ta ≤ 65535) ∧ 0 ≤ p.tp ∧ p.tp ≤ 65535 := by
  unfold vPk at h
  simp only [Bool.and_eq_true] at h
  exact ⟨inB_true h.1.1, inB_true h.1.2, inB_true h.2.1, inB_true h.2.2⟩
theorem vPk_mk {a b c d : Int} (h1 : inB a 0 65535 = true) (h2 : inB b 0 65535 = true) (h3 : inB c 0 65535 = true) (h4 : inB d 0 65535 = true) : vPk ⟨a, b, c, d⟩ = true := by
  unfold vPk; rw [h1, h2, h3, h4]; rfl
theorem parE_bd {s : List UInt8} {a b : Int} (h : parE s = some (a, b)) : inB a 0 65535 = true ∧ inB b 0 65535 = true := by
  unfold parE at h
  split at h
  · split at h
    · rename_i hv
      injection h with h
      injection h with h1 h2
      subst h1 h2
      simpa using hv
    · cases h
  · cases h
theorem tick_valid {g g' : Gt} {now : Int} (h : tickG g now = some g') : vGate g' = true := by
  unfold tickG at h
  split at h
  · rename_i hv
    rw [Bool.and_eq_true] at hv
    obtain ⟨hv, hn⟩ := hv
    injection h with h
    subst h
    obtain ⟨v1, v2, v3, v4, v5⟩ := vGate_list.1 hv
    have hb := inB_true hn
    have hg := gate_nums hv
    have hno := inB_true hg.2.2.2.2.2
    refine vGate_list.2 ⟨?_, vTab_filter (by rw [List.take_length]; exact v2), vCon_filter v3, fun m hm => ?_, fun c hc => ?_⟩
    · unfold vNum
      simp only [Bool.and_eq_true, Bool.not_eq_true']
      exact ⟨hg.1, hg.2.1, hg.2.2.1, hg.2.2.2.1, hg.2.2.2.2.1, inB_mk (by omega) (by omega)⟩
    · have hm' := hm
      unfold exM at hm'
      rw [List.take_length, List.mem_filter] at hm'
      have := v4 m hm'.1
      exact ⟨this.1, by have := this.2.1; show m.la ≤ now; omega, hm'.2⟩
    · unfold dropC at hc
      rw [List.mem_filter] at hc
      obtain ⟨m, hm, e⟩ := v5 c hc.1
      refine ⟨m, ?_, e⟩
      show m ∈ exM _ _ _ _
      unfold exM
      rw [List.take_length, List.mem_filter]
      refine ⟨hm, ?_⟩
      cases hk : keepM now g.ho m
      · have h2 := hc.2
        simp only [goneP, List.take_length] at h2
        rw [Bool.not_eq_true', ← Bool.not_eq_true, List.contains_iff_mem, List.mem_map] at h2
        exact absurd ⟨m, List.mem_filter.2 ⟨hm, by rw [hk]; rfl⟩, e⟩ h2
      · rfl
  · cases h
theorem way_from {g : Gt} {p : Pk} (h : wayG g p = 1 ∨ wayG g p = 3) : inN g.ba g.bi p.fa = true := by
  unfold wayG at h
  cases hi : inN g.ba g.bi p.fa
  · rw [hi] at h
    simp only [Bool.false_eq_true, if_false] at h
    split at h
    · split at h <;> omega
    · omega
  · rfl
theorem recv_same {g g' : Gt} {p q : Pk} (h : recvG g p = some (q, g')) : g' = g := by
  unfold recvG at h
  split at h
  · cases h
  · split at h
    · injection h with h
      injection h with _ h2
      exact h2.symm
    · cases h
theorem fwd_valid {g g' : Gt} {p q : Pk} (hg : vGate g = true) (hp : vPk p = true) (h : fwdG g p = some (q, g')) : vGate g' = true := by
  unfold fwdG at h
  split at h
  · rename_i hw
    exact (send_valid hg hp (way_from (.inl hw)) h).1
  split at h
  · rw [recv_same h]; exact hg
  split at h
  · rename_i hw
    split at h
    · cases h
    · rename_i q1 g1 hs
      rw [recv_same h]
      exact (send_valid hg hp (way_from (.inr hw)) hs).1
  · cases h
theorem line_valid {g : Gt} (hg : vGate g = true) (s : List UInt8) : vGate (lineL g s).2 = true := by
  unfold lineL
  split
  · unfold sendL
    split
    · rename_i a b c d h1 h2
      split
      · rename_i q g' hf
        exact fwd_valid hg (vPk_mk (parE_bd h1).1 (parE_bd h1).2 (parE_bd h2).1 (parE_bd h2).2) hf
      · exact hg
    · exact hg
  split
  · unfold waitL
    split
    · exact hg
    · split
      · rename_i g' h
        exact tick_valid h
      · exact hg
  split
  · unfold filterL
    split
    · rename_i hf
      obtain ⟨v1, v2, v3, v4, v5⟩ := vGate_list.1 hg
      have hn := gate_nums hg
      refine vGate_list.2 ⟨?_, v2, v3, v4, v5⟩
      unfold vNum
      simp only [Bool.and_eq_true, Bool.not_eq_true']
      exact ⟨hn.1, hn.2.1, hn.2.2.1, hf, hn.2.2.2.2.1, hn.2.2.2.2.2⟩
    · exact hg
  split
  · exact hg
  split
  · exact hg
  · exact hg
theorem gate0_valid : vGate gate0 = true := by decide +kernel
end Go.Proofs.YtjflfhjnbccpmaaGreatDoor
namespace Go.Proofs.YtjflfhjnbccpmaaGreatDoor
open Go.RowKit
theorem c_ContainsM (g : Nat) (lb : Array Value) (p : Mpg → Bool) (w0 : World) (eg : ∀ args w, (callFunc g args).run Tryz.prog w = .ok (.enter g args) w) (A : Option Addr) (n c : Nat) (l : List Mpg) (w : World)
    (hP : PredM g lb p w0) (hw : Below w0.heap.size w0 w) (hn : l.length = n) (h : TM w A l) (hl : n ≤ 1099511627776) :
    Calls Tryz.prog 111 #[.slice A n c, .func (.func g) #[] lb] w fun e w' => e = .returned (.bool (decide (0 ≤ idx (fun k => p (mn l k)) n))) ∧ Below w.heap.size w w' := by
  have HC := Lib.hid (c_IndexM g lb p w0 eg A n c l w hP hw hn h hl)
  clear hn hP hw eg h
  go_enter Tryz.func111, Tryz.ntmps111
  go_wp2_with fail
  refine HC.out.mono ?_
  rintro e w' ⟨rfl, b⟩
  go_wp2
  go_ret
  exact ⟨ret_bool (by rfl), b⟩
/-- A gate's cells. -/
def gtC (g : Gt) (T C : Value) : Array Value := #[.int .i64 g.ba, .int .i64 g.bi, .int .i64 g.ou, T, C, .int .i64 g.fi, .int .i64 g.ho, .int .i64 g.no]
def badM (g : Gt) (m : Mpg) : Bool := (!(inN g.ba g.bi m.ad) || decide (g.no < m.la)) || expW m.la g.no g.ho
theorem p_gateM (b : Nat) (g : Gt) (T C : Value) (w0 : World) (hk : Blk w0 b 44 (gtC g T C)) (hv : vNet g.ba g.bi = true) :
    PredM 112 #[.pointer (some ⟨b, 0, none⟩)] (badM g) w0 := by
  intro W x hW
  have hs := hW.size
  have hK := hk.to hW
  have y0 := hK.cell 0
  have y1 := hK.cell 1
  have y6 := hK.cell 6
  have y7 := hK.cell 7
  have hb := hK.lt
  simp only [gtC, List.getElem?_toArray, List.getElem?_cons_zero, List.getElem?_cons_succ] at y0 y1 y6 y7
  have k0 := (Blk.new W 84 #[.int .i64 x.ad, .int .i64 x.ep, .int .i64 x.po, .int .i64 x.la])
  have B : Below W.heap.size W (W.alloc (.cells #[.int .i64 x.ad, .int .i64 x.ep, .int .i64 x.po, .int .i64 x.la] 84)) := (Below.refl _ _).alloc (Nat.le_refl _) _
  have HX : Hid (badM g x = ((!(inN g.ba g.bi x.ad) || decide (g.no < x.la)) || expW x.la g.no g.ho)) := rfl
  have hK2 := hK.alloc (.cells #[.int .i64 x.ad, .int .i64 x.ep, .int .i64 x.po, .int .i64 x.la] 84)
  clear hk hW hs hK
  go_enter Tryz.func112, Tryz.ntmps112
  go_wp2_with fail
  refine (c_has _ _ _ _ hv).mono ?_
  rintro e w1 ⟨rfl, hq⟩
  replace k0 := k0.to hq
  replace hK2 := hK2.to hq
  replace B := Bl.then B hq
  have y0 := hK2.cell 0
  have y1 := hK2.cell 1
  have y6 := hK2.cell 6
  have y7 := hK2.cell 7
  have x0 := k0.cell 0
  have x1 := k0.cell 1
  have x2 := k0.cell 2
  have x3 := k0.cell 3
  have hb2 := hK2.lt
  have hb3 := k0.lt
  simp only [gtC, List.getElem?_toArray, List.getElem?_cons_zero, List.getElem?_cons_succ] at y0 y1 y6 y7 x0 x1 x2 x3
  clear hq
  cases h1 : inN g.ba g.bi x.ad
  · go_wp2
    go_ret
    exact ⟨ret_bool (by rw [HX.out, h1]; rfl), B⟩
  by_cases h2 : g.no < x.la
  · go_wp2
    go_ret
    exact ⟨ret_bool (by rw [HX.out, h1, decide_eq_true h2]; rfl), B⟩
  · have h2' : decide (g.no < x.la) = false := by rw [decide_eq_false_iff_not]; exact h2
    go_wp2_with fail
    refine (c_iExpired x _ _ _).mono ?_
    rintro e w2 ⟨rfl, hq⟩
    go_wp2
    go_ret
    exact ⟨ret_bool (by rw [HX.out, h1, h2']; rfl), Bl.then B hq⟩
theorem p_gateK (b : Nat) (g : Gt) (A : Option Addr) (n c : Nat) (C : Value) (w0 : World) (hk : Blk w0 b 44 (gtC g (.slice A n c) C)) (hn : g.tb.length = n) (h : TM w0 A g.tb) (hl : n ≤ 1099511627776) :
    PredK 115 #[.pointer (some ⟨b, 0, none⟩)] (fun x => decide (byP g.tb x.po n < 0)) w0 := by
  intro W x hW
  have hK := hk.to hW
  have hT := (h.to hW).alloc (.cells #[.int .i64 x.po, .int .i64 x.ad, .int .i64 x.ep] 129)
  have y3 := hK.cell 3
  have hb := hK.lt
  have HN := Lib.hid hn
  simp only [gtC, List.getElem?_toArray, List.getElem?_cons_zero, List.getElem?_cons_succ] at y3
  clear hk hW h hn hK
  go_enter Tryz.func115, Tryz.ntmps115
  go_wp2_with fail
  refine (c_byPort A n c g.tb _ _ HN.out hT hl).mono ?_
  rintro e w1 ⟨rfl, hq⟩
  go_wp2
  go_ret
  exact ⟨ret_bool (by rfl), Bl.then ((Below.refl _ _).alloc (Nat.le_refl _) _) hq⟩
end Go.Proofs.YtjflfhjnbccpmaaGreatDoor
namespace Go.Proofs.YtjflfhjnbccpmaaGreatDoor
open Go.RowKit
theorem gate_badM {g : Gt} (hv : vGate g = true) {n : Nat} (hn : g.tb.length = n) : decide (0 ≤ idx (fun k => badM g (mn g.tb k)) n) = false := by
  rw [decide_eq_false_iff_not, Int.not_le, idx_neg]
  intro j hj
  subst hn
  have hm := (vGate_list.1 hv).2.2.2.1 _ (mn_mem hj)
  have ho := okM_iff.1 ((vTab_list.1 (gate_tab hv)).1 _ (mn_mem hj))
  have hg := inB_true (gate_nums hv).2.2.2.2.2
  unfold badM
  rw [expW_at ho.2.2.1 ho.2.2.2 hg.1 hg.2]
  unfold mOk keepM at hm
  obtain ⟨h1, h2, h3⟩ := hm
  rw [Bool.not_eq_true', decide_eq_false_iff_not] at h3
  rw [h1, decide_eq_false h3, decide_eq_false (by omega)]
  rfl
theorem gate_badK {g : Gt} (hv : vGate g = true) {n m : Nat} (hn : g.tb.length = n) (hm : g.cs.length = m) : decide (0 ≤ idx (fun k => (fun x : Con => decide (byP g.tb x.po n < 0)) (cn g.cs k)) m) = false := by
  rw [decide_eq_false_iff_not, Int.not_le, idx_neg]
  intro j hj
  subst hn hm
  have := (vGate_list.1 hv).2.2.2.2 _ (cn_mem hj)
  rw [decide_eq_false_iff_not, Int.not_lt]
  exact byP_has.2 this
theorem timV_gate {g : Gt} (hv : vGate g = true) : timV g.tb g.no g.ho = true := by
  have hg := gate_nums hv
  unfold timV
  rw [gate_tab hv, hg.2.2.2.2.1, hg.2.2.2.2.2]; rfl
theorem c_ValidGate (g : Gt) (A : Option Addr) (n c : Nat) (C : Option Addr) (m d : Nat) (w : World) (hv : vGate g = true) (hn : g.tb.length = n) (hc : n ≤ c) (h : TM w A g.tb) (hm : g.cs.length = m) (hd : m ≤ d) (h' : TK w C g.cs) :
    Calls Tryz.prog 69 #[.agg #[.int .i64 g.ba, .int .i64 g.bi, .int .i64 g.ou, .slice A n c, .slice C m d, .int .i64 g.fi, .int .i64 g.ho, .int .i64 g.no]] w fun e w' => e = .returned (.bool true) ∧ Below w.heap.size w w' := by
  have HN := Lib.hid hn
  have HM := Lib.hid hm
  have HA : Hid (∀ W, Below w.heap.size w W → TM W A g.tb) := fun W b => h.to b
  have HC : Hid (∀ W, Below w.heap.size w W → TK W C g.cs) := fun W b => h'.to b
  have hn8 : n ≤ 8 := hn ▸ tab_len (gate_tab hv)
  have hm10 : m ≤ 10 := hm ▸ con_len (gate_con hv)
  have HV := Lib.hid hv
  have HG := Lib.hid (gate_nums hv)
  clear hn hm h h' hv
  have k0 : Blk (w.alloc (.cells (gtC g (.slice A n c) (.slice C m d)) 44)) w.heap.size 44 (gtC g (.slice A n c) (.slice C m d)) := Blk.new w 44 _
  have B : Below w.heap.size w (w.alloc (.cells (gtC g (.slice A n c) (.slice C m d)) 44)) := (Below.refl _ _).alloc (Nat.le_refl _) _
  have y0 := k0.cell 0; have y1 := k0.cell 1; have y2 := k0.cell 2; have y3 := k0.cell 3; have y4 := k0.cell 4; have y5 := k0.cell 5; have y6 := k0.cell 6; have y7 := k0.cell 7; have hlt := k0.lt; simp only [gtC, List.getElem?_toArray, List.getElem?_cons_zero, List.getElem?_cons_succ] at y0 y1 y2 y3 y4 y5 y6 y7
  go_enter Tryz.func69, Tryz.ntmps69
  go_wp2_with fail
  refine (c_ValidNet _ _ _).mono ?_
  rw [HG.out.1]
  rintro e w1 ⟨rfl, hq⟩
  replace k0 := k0.to hq; replace B := Bl.then B hq; clear y0 y1 y2 y3 y4 y5 y6 y7 hlt hq
  have y0 := k0.cell 0; have y1 := k0.cell 1; have y2 := k0.cell 2; have y3 := k0.cell 3; have y4 := k0.cell 4; have y5 := k0.cell 5; have y6 := k0.cell 6; have y7 := k0.cell 7; have hlt := k0.lt; simp only [gtC, List.getElem?_toArray, List.getElem?_cons_zero, List.getElem?_cons_succ] at y0 y1 y2 y3 y4 y5 y6 y7
  go_wp2_with fail
  refine (c_isWord _ _).mono ?_
  rw [HG.out.2.1]
  rintro e w' ⟨rfl, rfl⟩
  go_wp2_with fail
  refine (c_has _ _ _ _ HG.out.1).mono ?_
  rw [HG.out.2.2.1]
  rintro e w2 ⟨rfl, hq⟩
  replace k0 := k0.to hq; replace B := Bl.then B hq; clear y0 y1 y2 y3 y4 y5 y6 y7 hlt hq
  have y0 := k0.cell 0; have y1 := k0.cell 1; have y2 := k0.cell 2; have y3 := k0.cell 3; have y4 := k0.cell 4; have y5 := k0.cell 5; have y6 := k0.cell 6; have y7 := k0.cell 7; have hlt := k0.lt; simp only [gtC, List.getElem?_toArray, List.getElem?_cons_zero, List.getElem?_cons_succ] at y0 y1 y2 y3 y4 y5 y6 y7
  go_wp2_with fail
  refine (c_timed A n c g.tb _ _ _ HN.out hc (HA.out _ B) (by omega)).mono ?_
  rw [timV_gate HV.out]
  rintro e w3 ⟨rfl, hq⟩
  replace k0 := k0.to hq; replace B := Bl.then B hq; clear y0 y1 y2 y3 y4 y5 y6 y7 hlt hq
  have y0 := k0.cell 0; have y1 := k0.cell 1; have y2 := k0.cell 2; have y3 := k0.cell 3; have y4 := k0.cell 4; have y5 := k0.cell 5; have y6 := k0.cell 6; have y7 := k0.cell 7; have hlt := k0.lt; simp only [gtC, List.getElem?_toArray, List.getElem?_cons_zero, List.getElem?_cons_succ] at y0 y1 y2 y3 y4 y5 y6 y7
  go_wp2_with fail
  refine (c_iValidContacts C m d g.cs _ HM.out hd (HC.out _ B) (by omega)).mono ?_
  rw [gate_con HV.out]
  rintro e w4 ⟨rfl, hq⟩
  replace k0 := k0.to hq; replace B := Bl.then B hq; clear y0 y1 y2 y3 y4 y5 y6 y7 hlt hq
  have y0 := k0.cell 0; have y1 := k0.cell 1; have y2 := k0.cell 2; have y3 := k0.cell 3; have y4 := k0.cell 4; have y5 := k0.cell 5; have y6 := k0.cell 6; have y7 := k0.cell 7; have hlt := k0.lt; simp only [gtC, List.getElem?_toArray, List.getElem?_cons_zero, List.getElem?_cons_succ] at y0 y1 y2 y3 y4 y5 y6 y7
  go_wp2_with fail
  refine (c_in _ _ _ _).mono ?_
  rw [HG.out.2.2.2.1]
  rintro e w' ⟨rfl, rfl⟩
  have hp := p_gateM _ g _ _ _ k0 HG.out.1
  have HP := Lib.hid hp
  clear hp
  go_wp2_with fail
  refine (c_ContainsM 112 _ (badM g) _ (enters_of Tryz.func112 (by kernel_rfl) rfl) A n c g.tb _ HP.out (Below.refl _ _) HN.out (HA.out _ B) (by omega)).mono ?_
  rw [gate_badM HV.out HN.out]
  rintro e w5 ⟨rfl, hq⟩
  replace k0 := k0.to hq; replace B := Bl.then B hq; clear y0 y1 y2 y3 y4 y5 y6 y7 hlt hq
  have y0 := k0.cell 0; have y1 := k0.cell 1; have y2 := k0.cell 2; have y3 := k0.cell 3; have y4 := k0.cell 4; have y5 := k0.cell 5; have y6 := k0.cell 6; have y7 := k0.cell 7; have hlt := k0.lt; simp only [gtC, List.getElem?_toArray, List.getElem?_cons_zero, List.getElem?_cons_succ] at y0 y1 y2 y3 y4 y5 y6 y7
  have hp := p_gateK _ g _ _ _ _ _ k0 HN.out (HA.out _ B) (by omega)
  have HP2 := Lib.hid hp
  clear hp
  go_wp2_with fail
  refine (c_ContainsK 115 _ (fun x => decide (byP g.tb x.po n < 0)) _ (enters_of Tryz.func115 (by kernel_rfl) rfl) C m d g.cs _ HP2.out (Below.refl _ _) HM.out (HC.out _ B) (by omega)).mono ?_
  rw [gate_badK HV.out HN.out HM.out]
  rintro e w6 ⟨rfl, hq⟩
  go_wp2
  go_ret
  exact ⟨rfl, Bl.then B hq⟩
end Go.Proofs.YtjflfhjnbccpmaaGreatDoor
namespace Go.Proofs.YtjflfhjnbccpmaaGreatDoor
open Go.RowKit
/-- What a count leaves: nil where nothing may be asked, else a new slice of the counts. -/
def CntQ (zs qs : List Int) (w : World) (e : Ending) (w' : World) : Prop :=
  ((vPool zs && askB qs) = false ∧ e = .returned (.slice none 0 0) ∧ Below w.heap.size w w') ∨
  ((vPool zs && askB qs) = true ∧ ∃ g, e = .returned (.slice (some ⟨g, 0, none⟩) zs.length zs.length) ∧ Blk w' g 3 (ints (pcs zs qs)) ∧ w.heap.size ≤ g ∧ Below w.heap.size w w')
end Go.Proofs.YtjflfhjnbccpmaaGreatDoor
namespace Go.Proofs.YtjflfhjnbccpmaaGreatDoor
open Go.RowKit
/-- What a function leaves that hands back a new list: the list zs, in a block of its own, all else as it was. -/
def NewI (zs : List Int) (w : World) (e : Ending) (w' : World) : Prop :=
  ∃ A n c, e = .returned (.slice A n c) ∧ zs.length = n ∧ OV w' w.heap.size w'.heap.size 3 1 A n c (zs.map (Value.int .i64)) ∧ Below w.heap.size w w'
theorem OV.of_blk {w : World} {lo g : Nat} {zs : List Int} (h : Blk w g 3 (ints zs)) (hl : lo ≤ g) (hn : zs.length ≤ 1099511627776) : OV w lo w.heap.size 3 1 (some ⟨g, 0, none⟩) zs.length zs.length (zs.map (Value.int .i64)) := by
  have := h.own (base := lo) (n := zs.length) (size := 1) hl (by rw [size_ints]; omega) (by unfold maxLen; omega)
  refine OV.blk ?_ (Nat.le_refl _)
  simpa [ints] using this
/-- The counts, or nothing where nothing may be asked. -/
def pcsV (zs qs : List Int) : List Int := if vPool zs && askB qs then pcs zs qs else []
theorem CntQ.new {zs qs : List Int} {w w' : World} {e : Ending} (h : CntQ zs qs w e w') (hl : zs.length ≤ 1099511627776) : NewI (pcsV zs qs) w e w' := by
  rcases h with ⟨hv, rfl, hb⟩ | ⟨hv, g, rfl, hk, hg, hb⟩
  · have e1 : pcsV zs qs = [] := by unfold pcsV; rw [hv]; rfl
    rw [e1]
    exact ⟨none, 0, 0, rfl, rfl, ⟨World.ownsRow_nil _ _ _ _, fun a h => by cases h⟩, hb⟩
  · have e1 : pcsV zs qs = pcs zs qs := by unfold pcsV; rw [hv]; rfl
    rw [e1]
    have := OV.of_blk hk hg (by rw [pcs_len]; exact hl)
    rw [pcs_len] at this
    exact ⟨_, _, _, rfl, pcs_len _ _, this, hb⟩
end Go.Proofs.YtjflfhjnbccpmaaGreatDoor
namespace Go.Proofs.YtjflfhjnbccpmaaGreatDoor
open Go.RowKit
/-- The slice A, n, c reads as the numbers zs, and lies at the head of a block from lo on, below hi, that may be written. -/
def OW (w : World) (lo hi : Nat) (A : Option Addr) (n c : Nat) (zs : List Int) : Prop :=
  RI w A zs ∧ zs.length = n ∧ n ≤ c ∧ (n = 0 ∨ ∃ g cur, A = some ⟨g, 0, none⟩ ∧ lo ≤ g ∧ g < hi ∧ Blk w g 3 cur ∧ n ≤ cur.size)
/-- What a function leaves that hands back a new list. -/
def NewW (zs : List Int) (w : World) (e : Ending) (w' : World) : Prop :=
  ∃ A n c, e = .returned (.slice A n c) ∧ zs.length = n ∧ OW w' w.heap.size w'.heap.size A n c zs ∧ Below w.heap.size w w'
section
variable {w w' : World} {lo hi lo' hi' n c : Nat} {A : Option Addr} {zs : List Int}
theorem OW.ri (h : OW w lo hi A n c zs) : RI w A zs ∧ zs.length = n ∧ n ≤ c := ⟨h.1, h.2.1, h.2.2.1⟩
theorem OW.of_blk {g : Nat} {cur : Array Value} (hA : A = some ⟨g, 0, none⟩) (hb : Blk w g 3 cur) (hlo : lo ≤ g) (hhi : g < hi) (hn : zs.length = n) (hc : n ≤ c) (hs : n ≤ cur.size) (h : ∀ j, j < n → cur[j]? = some (.int .i64 (nth zs j))) : OW w lo hi A n c zs := by
  refine ⟨fun k v hk => ?_, hn, hc, .inr ⟨g, cur, hA, hlo, hhi, hb, hs⟩⟩
  have hkl : k < zs.length := by
    rcases Nat.lt_or_ge k zs.length with h1 | h1
    · exact h1
    · rw [List.getElem?_eq_none (by simpa using h1)] at hk; cases hk
  refine ⟨g, 0, hA, hb.lt, ?_⟩
  rw [Nat.zero_add, hb.cell, h k (by omega), ← hk]
  simp [nth, hkl]
theorem OW.to (h : OW w lo hi A n c zs) (hb : Below w.heap.size w w') : OW w' lo hi A n c zs := by
  obtain ⟨h1, h2, h3, h4⟩ := h
  refine ⟨h1.to hb, h2, h3, h4.imp id ?_⟩
  rintro ⟨g, cur, e, a, b, hk, s⟩
  exact ⟨g, cur, e, a, b, hk.to hb, s⟩
theorem OV.ow (h : OV w lo hi 3 1 A n c (zs.map (Value.int .i64))) : OW w lo hi A n c zs := by
  refine ⟨h.ri.1, h.ri.2.1, h.ri.2.2, ?_⟩
  rcases h.1.2 with ⟨_, h0⟩ | ⟨g, cap, cur, hv, hg, hh, hn, hm, hs, ht⟩
  · exact .inl h0
  · injection hv with hA
    exact .inr ⟨g, cur, hA, hg, h.2 _ hA, hh, by omega⟩
end
theorem NewI.w {zs : List Int} {w w' : World} {e : Ending} (h : NewI zs w e w') : NewW zs w e w' := by
  obtain ⟨A, n, c, he, hn, ho, hb⟩ := h
  exact ⟨A, n, c, he, hn, ho.ow, hb⟩
end Go.Proofs.YtjflfhjnbccpmaaGreatDoor
namespace Go.Proofs.YtjflfhjnbccpmaaGreatDoor
open Go.RowKit
theorem Blk.sets {g : Nat} {t : TypeId} : ∀ {vs : List Value} {o : Nat} {w : World} {cur : Array Value}, Blk w g t cur →
    ∃ cur', Blk (w.setCells g o vs) g t cur' ∧ cur'.size = cur.size ∧ (∀ j, j < o → cur'[j]? = cur[j]?) ∧ w.grownBy (w.setCells g o vs) (some g)
  | [], o, w, cur, h => ⟨cur, h, rfl, fun _ _ => rfl, World.grownBy.refl w _⟩
  | v :: r, o, w, cur, h => by
    obtain ⟨cur', h1, h2, h3, h4⟩ := Blk.sets (vs := r) (o := o + 1) (h.set_ o v)
    exact ⟨cur', h1, by rw [h2]; simp, fun j hj => by rw [h3 j (by omega), Array.getElem?_setIfInBounds_ne (by omega)], grown_trans (grown_put g o v) h4⟩
theorem c_Clip (A : Option Addr) (n c : Nat) (w : World) (hn : n ≤ c) (_ : c ≤ maxLen) : Calls Tryz.prog 118 #[.slice A n c] w fun e w' => e = .returned (.slice A n n) ∧ w = w' := by
  go_enter Tryz.func118, Tryz.ntmps118
  go_wp2
  go_ret
  exact ⟨by simp, rfl⟩
theorem c_Clone (A : Option Addr) (n c : Nat) (zs : List Int) (w : World) (hn : zs.length = n) (h : RI w A zs) (hl : n ≤ 1099511627) :
    Calls Tryz.prog 186 #[.slice A n c] w fun e w' => ∃ A' c', e = .returned (.slice A' n c') ∧ c' ≤ maxLen ∧ OW w' w.heap.size w'.heap.size A' n c' zs ∧ Below w.heap.size w w' := by
  have hnil := fun W a n c => Lib.run_eql_slice_nil (P := Tryz.prog) W 34 3 a n c 0 0 Tryz.underlying34
  obtain ⟨i0, hi, hz0, hz1, hz2⟩ := info_parts int_info
  cases A with
  | none =>
    have h0 : n = 0 := by
      rcases Nat.eq_zero_or_pos n with h0 | h0
      · exact h0
      · obtain ⟨_, _, e, _⟩ := h.get (k := 0) (by omega)
        cases e
    subst h0
    go_enter Tryz.func186, Tryz.ntmps186
    go_wp2
    go_ret
    exact ⟨none, 0, rfl, by unfold maxLen; omega, ⟨RI.empty hn, hn, Nat.le_refl _, .inl rfl⟩, Below.refl _ _⟩
  | some a =>
    have HN := Lib.hid hn
    clear hn
    go_enter Tryz.func186, Tryz.ntmps186
    go_wp2_with (at_builtin; refine wpList_append_rd _ rfl _ _ 34 rfl w.heap.size 3 i0 _ 1 8 Tryz.underlying34 hi hz0 hz1 hz2 rfl (by omega) _ 0 [] rfl (own_empty (Nat.le_refl _) rfl) (some a) n c (zs.map (Value.int .i64)) rfl (Rd.alloc h _) (by have := HN.out; simpa using this) (one_ints zs) (by unfold maxLen; omega) (by omega) (by simp) ?_; intro v1 w1 hown1 hg1 hat1)
    go_ret
    replace hown1 : w1.ownsRow w.heap.size 3 1 v1 n (zs.map (Value.int .i64)) := by simpa using hown1
    obtain ⟨A', c', rfl, hc1, hc2, _⟩ := own_slice hown1
    exact ⟨A', c', rfl, hc2, (OV.blk hown1 (Nat.le_refl _)).ow, ((Below.refl _ _).alloc (Nat.le_refl _) (.cells #[] 3)).grown hg1 (by simp) (fun k hk => by have e : w.heap.size = k := Option.some.inj hk; omega)⟩
end Go.Proofs.YtjflfhjnbccpmaaGreatDoor
