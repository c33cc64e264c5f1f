/- Contract of the reference's mapEnd and MapEnd. -/
import Derived.Test.YthlaldikdlljfaaDoorT10
namespace Go.Proofs.YthlaldikdlljfaaDoor
open Go.RowKit

set_option maxHeartbeats 1600000 in
theorem c_mapEnd (A : Option Addr) (n c : Nat) (l : List Mpg) (x y now : Int) (w : World) (hn : l.length = n) (h : TM w A l) (hl : n ≤ 1048576) (hy : 0 ≤ y) :
    Calls Tryd.prog 103 #[.slice A n c, .agg #[.int .i64 x, .int .i64 y], .int .i64 now] w (EndM (mapT l n x y now) w) := by
  have HN := Lib.hid hn
  have HA : Hid (∀ W, Below w.heap.size w W → TM W A l) := fun W b => h.to b
  clear hn h
  have k0 := (Blk.new w 25 #[.int .i64 x, .int .i64 y]).alloc (.cells #[] 48)
  have ho : MO ((w.alloc (.cells #[.int .i64 x, .int .i64 y] 25)).alloc (.cells #[] 48)) w.heap.size (.slice (some ⟨w.heap.size + 1, 0, none⟩) 0 0) [] := MO.empty (by simp) (by simp)
  have B0 : Below w.heap.size w ((w.alloc (.cells #[.int .i64 x, .int .i64 y] 25)).alloc (.cells #[] 48)) := ((Below.refl _ _).alloc (Nat.le_refl _) _).alloc (by simp) _
  have hT := HA.out _ B0
  have hnl := mapCs_len l
  rw [HN.out] at hnl
  have hnc := mapCs_one l
  unfold TM at hT
  generalize hnle : mapCs l = nl at hnl hnc hT
  have HNL := Lib.hid hnle
  clear hnle
  have hoR : ((w.alloc (.cells #[.int .i64 x, .int .i64 y] 25)).alloc (.cells #[] 48)).ownsRow w.heap.size 48 4 (.slice (some ⟨w.heap.size + 1, 0, none⟩) 0 0) 0 [] := ho
  clear ho
  go_enter Tryd.func103, Tryd.ntmps103
  go_wp2_with (at_builtin; go_must (obtain ⟨i0, hi, hz0, hz1, hz2⟩ := info_parts mapT_info; refine wpList_append_rd _ rfl _ _ 41 rfl w.heap.size 48 i0 _ 4 32 Tryd.underlying41 hi hz0 hz1 hz2 rfl (by omega) _ 0 [] rfl hoR A n c nl rfl hT hnl hnc (by unfold maxLen; omega) (by omega) (by simp; omega) ?_; intro v1 w5 ho5 hg5 hat5; have k5 := k0.grown hg5 (by intro e; injection e with e; simp at e); have x0 := k5.cell 0; have x1 := k5.cell 1; have xl := k5.lt; simp only [List.getElem?_toArray, List.getElem?_cons_zero, List.getElem?_cons_succ] at x0 x1; clear hi hz0 hz1 hz2 hat5))
  have B5 := B0.grown hg5 (by simp; omega) (fun j hj => (World.ownsRow.lt hoR j hj).1)
  have ho5' : MO w5 w.heap.size v1 l := by
    unfold MO
    rw [HNL.out, HN.out]
    simpa using ho5
  clear ho5 hoR k0 B0 hT hg5
  have hT5 : TM w5 A l := HA.out _ B5
  refine (c_byInside _ _ _ l x y _ HN.out hT5 (by omega)).mono ?_
  rintro e w6 ⟨rfl, hq⟩
  have k6 := k5.to hq
  have ho6 := ho5'.to hq
  have B6 := Bl.then B5 hq
  have hT6 := hT5.to hq
  clear hq k5 ho5' B5 hT5
  have hbd := idx_bd (fun k => isE (mn l k) x y) n
  change -1 ≤ byE l x y n ∧ byE l x y n < n at hbd
  generalize hpl : byE l x y n = at' at hbd
  have HPL := Lib.hid hpl
  clear hpl
  by_cases hneg : at' < 0
  · have t0 : decide (0 ≤ at') = false := by rw [decide_eq_false_iff_not]; omega
    have y1 := k6.cell 1
    simp only [List.getElem?_toArray, List.getElem?_cons_zero, List.getElem?_cons_succ] at y1
    have hlt := k6.lt
    go_wp2_with fail
    refine (c_freePort _ _ _ l y _ HN.out hT6 (by omega) hy).mono ?_
    rintro e w' ⟨rfl, rfl⟩
    have hfb := fpt_bd l n y
    generalize hp : fpt l n y = p at hfb
    have HP := Lib.hid hp
    clear hp
    by_cases hpn : p < 0
    · have t1 : decide (p < 0) = true := by rw [decide_eq_true_eq]; exact hpn
      have HN1 := Lib.hid (And.intro hneg hpn)
      clear hneg hpn
      go_wp2
      go_ret3
      refine ⟨B6, ?_⟩
      unfold mapT
      rw [HPL.out, if_neg (by have := HN1.out.1; omega), HP.out, if_pos HN1.out.2]
      rfl
    · have t1 : decide (p < 0) = false := by rw [decide_eq_false_iff_not]; exact hpn
      have HN1 := Lib.hid (And.intro hneg hpn)
      clear hneg hpn
      have y0 := k6.cell 0
      simp only [List.getElem?_toArray, List.getElem?_cons_zero] at y0
      have hL : TM (w6.alloc (.cells #[.int .i64 x, .int .i64 y, .int .i64 p, .int .i64 now] 48)) (some ⟨w6.heap.size, 0, none⟩) [⟨x, y, p, now⟩] := lit_map (w := w6) ⟨x, y, p, now⟩ rfl rfl
      have hoR : (w6.alloc (.cells #[.int .i64 x, .int .i64 y, .int .i64 p, .int .i64 now] 48)).ownsRow w.heap.size 48 4 v1 l.length (mapCs l) := World.ownsRow.alloc ho6 _
      have hnl2 := mapCs_len [(⟨x, y, p, now⟩ : Mpg)]
      have hnc2 := mapCs_one [(⟨x, y, p, now⟩ : Mpg)]
      unfold TM at hL
      generalize hnle2 : mapCs [(⟨x, y, p, now⟩ : Mpg)] = nl2 at hnl2 hnc2 hL
      have HNL2 := Lib.hid hnle2
      clear hnle2
      have s6 := B6.size
      rw [HN.out] at hoR
      go_wp2_with (at_builtin; go_must (obtain ⟨i0, hi, hz0, hz1, hz2⟩ := info_parts mapT_info; refine wpList_append_rd _ rfl _ _ 41 rfl w.heap.size 48 i0 _ 4 32 Tryd.underlying41 hi hz0 hz1 hz2 rfl (by omega) _ n (mapCs l) rfl hoR (some ⟨w6.heap.size, 0, none⟩) 1 1 nl2 rfl hL hnl2 hnc2 (by unfold maxLen; omega) (by omega) (by simp; omega) ?_; intro v2 w7 ho7 hg7 hat7; clear hi hz0 hz1 hz2 hat7))
      have B7 := (B6.alloc B6.size (.cells #[.int .i64 x, .int .i64 y, .int .i64 p, .int .i64 now] 48)).grown hg7 (by have := B6.size; simp; omega) (fun j hj => (World.ownsRow.lt hoR j hj).1)
      go_ret3
      refine ⟨B7, ?_⟩
      unfold mapT
      rw [HPL.out, if_neg (by have := HN1.out.1; omega), HP.out, if_neg (by have := HN1.out.2; omega)]
      refine ⟨v2, rfl, ?_⟩
      unfold MO
      rw [mapCs_app, HNL2.out, List.length_append, HN.out]
      exact ho7
  · have t0 : decide (0 ≤ at') = true := by rw [decide_eq_true_eq]; omega
    obtain ⟨k, rfl⟩ := Int.eq_ofNat_of_zero_le (show 0 ≤ at' by omega)
    have hkn : k < n := by omega
    have hkl : Hid (k < l.length) := Lib.hid (by rw [HN.out]; exact hkn)
    have e2 : 0 ≤ (k : Int) ∧ (k : Int) < n := by omega
    have hoR : w6.ownsRow w.heap.size 48 4 v1 n (mapCs l) := by have := ho6; unfold MO at this; rwa [HN.out] at this
    obtain ⟨g, cap, rfl, hgb, hgl⟩ := World.ownsRow.form hoR (by omega)
    have y3 : w6.cell? ⟨g, k * 4 + 3, none⟩ = some (.int .i64 (mn l k).la) := by rw [World.ownsRow.cellAt hoR _ (by omega), mapCs_at hkl.out (by omega)]; rfl
    have f3 := World.ownsRow.frozenAt hoR (k * 4 + 3)
    have hF : Hid (∀ z : Int, (w6.setCell ⟨g, k * 4 + 3, none⟩ (.int .i64 z)).cell? ⟨g, k * 4 + 2, none⟩ = some (.int .i64 (mn l k).po)) := fun z => by
      rw [World.cell?_setCell_other _ _ _ _ (by intro e; injection e with _ e2; omega)]
      rw [World.ownsRow.cellAt hoR _ (by omega), mapCs_at hkl.out (by omega)]; rfl
    have hQ : Hid (∀ (z : Int), max (mn l k).la now = z → ∀ q, EndM (mapT l n x y now) w (.returned (.tuple #[.slice (some ⟨g, 0, none⟩) n cap, .int .i64 (mn l k).po, .bool true])) ((w6.setCell ⟨g, k * 4 + 3, none⟩ (.int .i64 z)).drewN q)) := fun z hz q => by
      obtain ⟨st, gr⟩ := World.ownsRow.stored hoR (k * 4 + 3) (.int .i64 z)
      refine ⟨Bl.drewN (B6.setCell hgb _) q, ?_⟩
      unfold mapT
      rw [HPL.out, if_pos (by omega), Int.toNat_natCast, hz]
      refine ⟨_, rfl, ?_⟩
      refine MO.drewN ?_ q
      unfold MO
      rw [← mapCs_set hkl.out, List.length_set, HN.out]
      exact st
    clear hneg ho6 hoR
    go_wp2
    · have c2 := hF.out now
      generalize hw7 : w6.setCell ⟨g, k * 4 + 3, none⟩ (.int .i64 now) = w7 at *
      have hm : max (mn l k).la now = now := by omega
      go_quiet (fail)
      go_wp2
      go_ret3
      rw [← hw7]
      exact hQ.out _ hm _
    · have c2 := hF.out (mn l k).la
      generalize hw7 : w6.setCell ⟨g, k * 4 + 3, none⟩ (.int .i64 (mn l k).la) = w7 at *
      have hm : max (mn l k).la now = (mn l k).la := by omega
      go_quiet (fail)
      go_wp2
      go_ret3
      rw [← hw7]
      exact hQ.out _ hm _

/-- What MapEnd makes of a table. -/
def mapE (l : List Mpg) (x y now : Int) : Option (List Mpg × Int) := if vTab l && ((inB x 0 65535 && inB y 0 65535) && inB now 0 10000) then mapT l l.length x y now else none
theorem EndM.none {w w' : World} {q : Option (List Mpg × Int)} (h : q = none) (hb : Below w.heap.size w w') : EndM q w (.returned (.tuple #[.slice none 0 0, .int .i64 (-1), .bool false])) w' := by
  subst h
  exact ⟨hb, rfl⟩
theorem EndM.past {w w1 w' : World} {q : Option (List Mpg × Int)} {e : Ending} (h : EndM q w1 e w') (hb : Below w.heap.size w w1) : EndM q w e w' := by
  refine ⟨Bl.then hb h.1, ?_⟩
  have h2 := h.2
  revert h2
  rcases q with _ | ⟨l', p⟩
  · exact id
  · rintro ⟨v, e, ho⟩
    exact ⟨v, e, ho.low hb.size⟩
theorem mapT_len {l l' : List Mpg} {n : Nat} {x y now p : Int} (h : mapT l n x y now = some (l', p)) : l'.length ≤ l.length + 1 := by
  unfold mapT at h
  split at h
  · injection h with h
    injection h with h1 h2
    rw [← h1, List.length_set]; omega
  · split at h
    · cases h
    · injection h with h
      injection h with h1 h2
      rw [← h1]; simp
theorem mapE_len {l l' : List Mpg} {x y now p : Int} (h : mapE l x y now = some (l', p)) : l'.length ≤ l.length + 1 := by
  unfold mapE at h
  split at h
  · exact mapT_len h
  · cases h
set_option maxHeartbeats 1600000 in
theorem c_MapEnd (A : Option Addr) (n c : Nat) (l : List Mpg) (x y now : Int) (w : World) (hn : l.length = n) (h : TM w A l) (hl : n ≤ 1048576) :
    Calls Tryd.prog 93 #[.slice A n c, .agg #[.int .i64 x, .int .i64 y], .int .i64 now] w (EndM (mapE l x y now) w) := by
  have HN := Lib.hid hn
  have HA : Hid (∀ W, Below w.heap.size w W → TM W A l) := fun W b => h.to b
  clear hn h
  have k0 := Blk.new w 25 #[.int .i64 x, .int .i64 y]
  have B0 : Below w.heap.size w (w.alloc (.cells #[.int .i64 x, .int .i64 y] 25)) := (Below.refl _ _).alloc (Nat.le_refl _) _
  go_enter Tryd.func93, Tryd.ntmps93
  go_wp2_with fail
  refine (c_sValidTable _ _ _ l _ HN.out (HA.out _ B0) (by omega)).mono ?_
  rintro e w1 ⟨rfl, hq⟩
  replace k0 := k0.to hq
  replace B0 := Bl.then B0 hq
  clear hq
  cases h1 : vTab l
  · have H1 : Hid (mapE l x y now = none) := by unfold mapE; rw [h1]; rfl
    clear h1
    go_wp2
    go_ret3
    exact EndM.none H1.out B0
  have H1 := Lib.hid h1
  clear h1
  have y0 := k0.cell 0
  have y1 := k0.cell 1
  have hlt := k0.lt
  simp only [List.getElem?_toArray, List.getElem?_cons_zero, List.getElem?_cons_succ] at y0 y1
  go_wp2_with fail
  refine (c_validEnd _ _ _).mono ?_
  rintro e w2 ⟨rfl, hq⟩
  replace k0 := k0.to hq
  replace B0 := Bl.then B0 hq
  clear hq y0 y1
  cases h2 : inB x 0 65535 && inB y 0 65535
  · have H2 : Hid (mapE l x y now = none) := by unfold mapE; rw [h2, H1.out]; rfl
    clear h2
    go_wp2
    go_ret3
    exact EndM.none H2.out B0
  have H2 := Lib.hid h2
  clear h2
  go_wp2_with fail
  refine (c_inRange _ _ _ _).mono ?_
  rintro e w' ⟨rfl, rfl⟩
  cases h3 : inB now 0 10000
  · have H3 : Hid (mapE l x y now = none) := by unfold mapE; rw [h3, H2.out, H1.out]; rfl
    clear h3
    go_wp2
    go_ret3
    exact EndM.none H3.out B0
  have H3 : Hid (mapE l x y now = mapT l n x y now) := by unfold mapE; rw [h3, H2.out, H1.out, HN.out]; rfl
  clear h3
  have hy0 : 0 ≤ y := by have := H2.out; simp only [Bool.and_eq_true] at this; exact (inB_true this.2).1
  have y0 := k0.cell 0
  have y1 := k0.cell 1
  have hlt2 := k0.lt
  simp only [List.getElem?_toArray, List.getElem?_cons_zero, List.getElem?_cons_succ] at y0 y1
  go_wp2_with fail
  refine (c_mapEnd _ _ _ l x y now _ HN.out (HA.out _ B0) hl hy0).mono ?_
  rw [H3.out]
  intro e w3 hE
  replace hE := EndM.past hE B0
  rcases hq : mapT l n x y now with _ | ⟨l', p⟩
  · have H4 := Lib.hid (H3.out.trans hq)
    rw [hq] at hE
    clear hq
    obtain ⟨b, rfl⟩ := hE
    go_wp2
    go_ret3
    rw [H4.out]
    exact ⟨b, rfl⟩
  · have H4 := Lib.hid (H3.out.trans hq)
    rw [hq] at hE
    clear hq
    obtain ⟨b, v, rfl, ho⟩ := hE
    go_wp2
    go_ret3
    rw [H4.out]
    exact ⟨b, v, rfl, ho⟩
end Go.Proofs.YthlaldikdlljfaaDoor
