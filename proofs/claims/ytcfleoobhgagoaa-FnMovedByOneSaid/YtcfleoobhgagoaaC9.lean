/- Contracts of the functions that tell which addresses another one stands for. -/
import Derived.Test.YtcfleoobhgagoaaC8
namespace Go.Proofs.Ytcfleoobhgagoaa
open Go.RowKit

/-- Another address of the pool stands for x. -/
def mvB (zs ys : List Int) (x : Int) : Bool := pAddr zs x != pAddr ys x
def mv (zs ys qs : List Int) : List Int := qs.filter (mvB zs ys)
def mvV (zs ys qs : List Int) : List Int := if vPool zs && (vPool ys && askB qs) then mv zs ys qs else []
theorem mvV_bd (zs ys qs : List Int) : (mvV zs ys qs).length ≤ 12 := by
  unfold mvV mv
  split
  · rename_i h
    simp only [Bool.and_eq_true] at h
    have := (ask_at h.2.2).1
    exact Nat.le_trans (List.length_filter_le _ _) this
  · simp

theorem c_MovedBy1 (b1 b2 : Nat) (A A' : Option Addr) (c c' : Nat) (zs ys : List Int) (w0 : World) (h1 : w0.cell? ⟨b1, 0, none⟩ = some (.slice A zs.length c)) (h2 : w0.cell? ⟨b2, 0, none⟩ = some (.slice A' ys.length c')) (l1 : b1 < w0.heap.size) (l2 : b2 < w0.heap.size)
    (hz : RI w0 A zs) (hy : RI w0 A' ys) (b1l : zs.length ≤ 1099511627776) (b2l : ys.length ≤ 1099511627776) :
    PredQ 60 #[.pointer (some ⟨b1, 0, none⟩), .pointer (some ⟨b2, 0, none⟩)] (fun x => pAddr zs x == pAddr ys x) w0 := by
  intro W x hb
  have c1 := (hb.cell (p := ⟨b1, 0, none⟩) l1).trans h1
  have c2 := (hb.cell (p := ⟨b2, 0, none⟩) l2).trans h2
  replace hz := hz.to hb
  replace hy := hy.to hb
  clear h1 h2 hb
  show Calls Try.prog 60 #[.int .i64 x, .pointer (some ⟨b1, 0, none⟩), .pointer (some ⟨b2, 0, none⟩)] W _
  go_enter Try.func60, Try.ntmps60
  go_wp2
  go_quiet (first
    | (go_at_call 25; exact quiet_eq (fun V hV => by subst hV; exact c_iPoolAddr _ _ _ _ _ (hz.drewN _) b1l))
    | (go_at_call 25; exact quiet_eq (fun V hV => by subst hV; exact c_iPoolAddr _ _ _ _ _ (hy.drewN _) b2l)))
  go_wp2
  go_ret
  exact ⟨rfl, _, rfl⟩

theorem NewW.nil {w w' : World} (h : Below w.heap.size w w') : NewW [] w (.returned (.slice none 0 0)) w' := ⟨Option.none, 0, 0, rfl, rfl, ⟨RI.nil _ _, rfl, Nat.le_refl _, .inl rfl⟩, h⟩

set_option maxHeartbeats 800000 in
theorem n_iMovedBy (A1 A2 A3 : Option Addr) (n1 n2 n3 c1 c2 c3 : Nat) (zs ys qs : List Int) (w : World) (h1 : RI w A1 zs) (h2 : RI w A2 ys) (h3 : RI w A3 qs) (e1 : zs.length = n1) (e2 : ys.length = n2) (e3 : qs.length = n3)
    (l1 : n1 ≤ 1099511627776) (l2 : n2 ≤ 1099511627776) (l3 : n3 ≤ 1099511627) :
    Calls Try.prog 38 #[.slice A1 n1 c1, .slice A2 n2 c2, .slice A3 n3 c3] w (NewW (mvV zs ys qs) w) := by
  subst e1 e2 e3
  have hw1 : Below w.heap.size w ((w.alloc (.cells #[.slice A1 zs.length c1] 22)).alloc (.cells #[.slice A2 ys.length c2] 22)) := ((Below.refl _ _).alloc (Nat.le_refl _) _).alloc (by simp) _
  have k1 := h1.to hw1
  have k2 := h2.to hw1
  have k3 := h3.to hw1
  have hv1 := fun W (h : RI W A1 zs) => c_iValidPoolN A1 zs.length c1 zs W rfl h l1
  have hv2 := fun W (h : RI W A2 ys) => c_iValidPoolN A2 ys.length c2 ys W rfl h l2
  cases v1 : vPool zs
  · have e : mvV zs ys qs = [] := by unfold mvV; rw [v1]; rfl
    rw [e]
    go_enter Try.func38, Try.ntmps38
    go_wp2_with fail
    refine (hv1 _ k1).mono ?_
    rw [v1]
    rintro e w' ⟨rfl, rfl⟩
    go_wp2
    go_ret
    exact NewW.nil hw1
  cases v2 : vPool ys
  · have e : mvV zs ys qs = [] := by unfold mvV; rw [v1, v2]; rfl
    rw [e]
    go_enter Try.func38, Try.ntmps38
    go_wp2_with fail
    refine (hv1 _ k1).mono ?_
    rw [v1]
    rintro e w' ⟨rfl, rfl⟩
    go_wp2_with fail
    refine (hv2 _ k2).mono ?_
    rw [v2]
    rintro e w' ⟨rfl, rfl⟩
    go_wp2
    go_ret
    exact NewW.nil hw1
  cases v3 : askB qs
  · have e : mvV zs ys qs = [] := by unfold mvV; rw [v1, v2, v3]; rfl
    rw [e]
    go_enter Try.func38, Try.ntmps38
    go_wp2_with fail
    refine (hv1 _ k1).mono ?_
    rw [v1]
    rintro e w' ⟨rfl, rfl⟩
    go_wp2_with fail
    refine (hv2 _ k2).mono ?_
    rw [v2]
    rintro e w' ⟨rfl, rfl⟩
    go_wp2_with fail
    refine (c_asked _ _ _ _ k3 (by omega)).mono ?_
    rw [v3]
    rintro e w' ⟨rfl, rfl⟩
    go_wp2
    go_ret
    exact NewW.nil hw1
  have e : mvV zs ys qs = qs.filter (fun x => !(pAddr zs x == pAddr ys x)) := by unfold mvV; rw [v1, v2, v3]; rfl
  rw [e]
  clear e
  have hP := c_MovedBy1 w.heap.size (w.heap.size + 1) A1 A2 c1 c2 zs ys ((w.alloc (.cells #[.slice A1 zs.length c1] 22)).alloc (.cells #[.slice A2 ys.length c2] 22)) (by simp [go_sem]) (by simp [go_sem]) (by simp; omega) (by simp) k1 k2 l1 l2
  have HP := Lib.hid hP
  clear hP
  go_enter Try.func38, Try.ntmps38
  go_wp2_with fail
  refine (hv1 _ k1).mono ?_
  rw [v1]
  rintro e w' ⟨rfl, rfl⟩
  go_wp2_with fail
  refine (hv2 _ k2).mono ?_
  rw [v2]
  rintro e w' ⟨rfl, rfl⟩
  go_wp2_with fail
  refine (c_asked _ _ _ _ k3 (by omega)).mono ?_
  rw [v3]
  rintro e w' ⟨rfl, rfl⟩
  go_wp2_with fail
  refine (c_Clone _ _ _ qs _ rfl k3 l3).mono ?_
  rintro e w1 ⟨A', c', rfl, hc', hO, hb⟩
  go_wp2_with fail
  refine (c_DeleteFunc 60 #[.pointer (some ⟨w.heap.size, 0, none⟩), .pointer (some ⟨w.heap.size + 1, 0, none⟩)] (fun x => pAddr zs x == pAddr ys x) _ (enters_of Try.func60 (by kernel_rfl) rfl) A' _ _ _ c' qs w1 HP.out hb (Nat.le_refl _) hO (by omega) hc').mono ?_
  rintro e w2 ⟨m, rfl, hO2, hT⟩
  go_wp2_with fail
  refine (c_Clip _ _ _ _ hO2.2.2.1 hc').mono ?_
  rintro e w3 ⟨rfl, rfl⟩
  go_wp2
  go_ret
  obtain ⟨q1, q2, q3, q4⟩ := hO2
  have hs := hb.size
  refine ⟨A', m, m, rfl, q2, ⟨q1, q2, Nat.le_refl _, q4.imp id ?_⟩, ?_⟩
  · rintro ⟨g, cur, e, a1, a2, hk, s⟩
    exact ⟨g, cur, e, by simp at a1; omega, hk.lt, hk, s⟩
  · exact hw1.trans (Turn.below (hb.mono (by simp; omega)) hT (by simp; omega) (by simp at hs; omega))

set_option maxHeartbeats 1600000 in
theorem n_sMovedBy (A1 A2 A3 : Option Addr) (n1 n2 n3 c1 c2 c3 : Nat) (zs ys qs : List Int) (w : World) (h1 : RI w A1 zs) (h2 : RI w A2 ys) (h3 : RI w A3 qs) (e1 : zs.length = n1) (e2 : ys.length = n2) (e3 : qs.length = n3)
    (l1 : n1 ≤ 1099511627776) (l2 : n2 ≤ 1099511627776) (l3 : n3 ≤ 1099511627) :
    Calls Try.prog 37 #[.slice A1 n1 c1, .slice A2 n2 c2, .slice A3 n3 c3] w (NewW (mvV zs ys qs) w) := by
  subst e1 e2 e3
  obtain ⟨i0, hi, hz0, hz1, hz2⟩ := info_parts int_info
  have B0 : Below w.heap.size w (w.alloc (.cells #[] 3)) := (Below.refl _ _).alloc (Nat.le_refl _) _
  cases v1 : vPool zs
  · have e : mvV zs ys qs = [] := by unfold mvV; rw [v1]; rfl
    rw [e]
    go_enter Try.func37, Try.ntmps37
    go_wp2_with fail
    refine (c_sValidPool' _ _ _ _ (h1.to B0) l1).mono ?_
    rw [v1]
    rintro e w1 ⟨rfl, q, rfl⟩
    go_wp2
    go_ret
    exact NewW.nil (Bl.drewN B0 q)
  cases v2 : vPool ys
  · have e : mvV zs ys qs = [] := by unfold mvV; rw [v1, v2]; rfl
    rw [e]
    go_enter Try.func37, Try.ntmps37
    go_wp2_with fail
    refine (c_sValidPool' _ _ _ _ (h1.to B0) l1).mono ?_
    rw [v1]
    rintro e w1 ⟨rfl, q, rfl⟩
    go_wp2_with fail
    refine (c_sValidPool' _ _ _ _ (h2.to (Bl.drewN B0 q)) l2).mono ?_
    rw [v2]
    rintro e w1 ⟨rfl, q2, rfl⟩
    go_wp2
    go_ret
    exact NewW.nil (Bl.drewN B0 (q + q2))
  cases v3 : askB qs
  · have e : mvV zs ys qs = [] := by unfold mvV; rw [v1, v2, v3]; rfl
    rw [e]
    unfold askB at v3
    by_cases hl : qs.length ≤ 12
    · have ha : allIn qs 0 65535 = false := by rw [decide_eq_true hl] at v3; exact v3
      have h12 : decide ((12 : Int) < qs.length) = false := by rw [decide_eq_false_iff_not]; omega
      go_enter Try.func37, Try.ntmps37
      go_wp2_with fail
      refine (c_sValidPool' _ _ _ _ (h1.to B0) l1).mono ?_
      rw [v1]
      rintro e w1 ⟨rfl, q, rfl⟩
      go_wp2_with fail
      refine (c_sValidPool' _ _ _ _ (h2.to (Bl.drewN B0 q)) l2).mono ?_
      rw [v2]
      rintro e w1 ⟨rfl, q2, rfl⟩
      go_wp2_with fail
      refine (c_allIn _ _ _ _ _ _ (h3.to (Bl.drewN B0 (q + q2))) (by omega)).mono ?_
      rw [ha]
      rintro e w1 ⟨rfl, rfl⟩
      go_wp2
      go_ret
      exact NewW.nil (Bl.drewN B0 (q + q2))
    · have h12 : decide ((12 : Int) < qs.length) = true := by rw [decide_eq_true_eq]; omega
      clear v3
      go_enter Try.func37, Try.ntmps37
      go_wp2_with fail
      refine (c_sValidPool' _ _ _ _ (h1.to B0) l1).mono ?_
      rw [v1]
      rintro e w1 ⟨rfl, q, rfl⟩
      go_wp2_with fail
      refine (c_sValidPool' _ _ _ _ (h2.to (Bl.drewN B0 q)) l2).mono ?_
      rw [v2]
      rintro e w1 ⟨rfl, q2, rfl⟩
      go_wp2
      go_ret
      exact NewW.nil (Bl.drewN B0 (q + q2))
  have e : mvV zs ys qs = mv zs ys qs := by unfold mvV; rw [v1, v2, v3]; rfl
  rw [e]
  have hq12 := (ask_at v3).1
  unfold askB at v3
  rw [decide_eq_true hq12, Bool.true_and] at v3
  have h12 : decide ((12 : Int) < qs.length) = false := by rw [decide_eq_false_iff_not]; omega
  go_enter Try.func37, Try.ntmps37
  go_wp2_with fail
  refine (c_sValidPool' _ _ _ _ (h1.to B0) l1).mono ?_
  rw [v1]
  rintro e w1 ⟨rfl, q, rfl⟩
  go_wp2_with fail
  refine (c_sValidPool' _ _ _ _ (h2.to (Bl.drewN B0 q)) l2).mono ?_
  rw [v2]
  rintro e w1 ⟨rfl, q2, rfl⟩
  go_wp2_with fail
  refine (c_allIn _ _ _ _ _ _ (h3.to (Bl.drewN B0 (q + q2))) (by omega)).mono ?_
  rw [v3]
  rintro e w1 ⟨rfl, rfl⟩
  go_wp2
  go_loopw [7, 8] (fun v i wr => ∃ k : Nat, k ≤ qs.length ∧ i = .int .i64 k ∧ Hid (wr.ownsRow w.heap.size 3 1 v ((qs.take k).filter (mvB zs ys)).length (((qs.take k).filter (mvB zs ys)).map (Value.int .i64))) ∧ Hid (Below w.heap.size w wr)) (fun _ i _ => qs.length - (intOf i).toNat)
  case atStart => exact ⟨0, Nat.zero_le _, rfl, own_to (own_empty (w := w) (Nat.le_refl _) rfl) (Bl.of_drewN _ (q + q2)) (Nat.le_refl _), Bl.drewN B0 (q + q2)⟩
  case round =>
    obtain ⟨k, hk, rfl, hO, hB⟩ := hrel
    have B := hB.out
    by_cases hlt : k < qs.length
    · have r1 := h1.to B
      have r2 := h2.to B
      obtain ⟨b3, o3, rfl, _, hc3⟩ := (h3.to B).get hlt
      have HT := Lib.hid (take_succ_nth hlt)
      generalize hx : nth qs k = x at hc3
      have HX := Lib.hid hx
      clear hx
      cases hm : mvB zs ys x
      · have hm' : (pAddr zs x != pAddr ys x) = false := hm
        go_wp2
        go_quiet (first
          | (go_at_call 24; exact quiet_dr (fun V hV => by subst hV; exact c_sPoolAddr _ _ _ _ _ (r1.drewN _) l1))
          | (go_at_call 24; exact quiet_dr (fun V hV => by subst hV; exact c_sPoolAddr _ _ _ _ _ (r2.drewN _) l2)))
        go_wp2
        go_roundw
        case rel =>
          have ef : (qs.take (k + 1)).filter (mvB zs ys) = (qs.take k).filter (mvB zs ys) := by rw [HT.out, List.filter_append, HX.out]; simp [hm]
          exact ⟨k + 1, by omega, by go_num, by rw [ef]; exact own_to hO.out (Bl.of_drewN _ _) (Nat.le_refl _), Bl.drewN B _⟩
        case measure => simp [intOf]; omega
      · have hm' : (pAddr zs x != pAddr ys x) = true := hm
        have hfl : ((qs.take k).filter (mvB zs ys)).length ≤ k := Nat.le_trans (List.length_filter_le _ _) (by rw [List.length_take]; omega)
        have hBs := B.size
        have ho := hO.out
        go_wp2
        go_quiet (first
          | (go_at_call 24; exact quiet_dr (fun V hV => by subst hV; exact c_sPoolAddr _ _ _ _ _ (r1.drewN _) l1))
          | (go_at_call 24; exact quiet_dr (fun V hV => by subst hV; exact c_sPoolAddr _ _ _ _ _ (r2.drewN _) l2)))
        rename_i nq
        replace ho := own_to ho (Bl.of_drewN wr nq) (Nat.le_refl _)
        go_wp2_with (at_builtin; refine wpList_append_rd _ rfl _ _ 22 rfl w.heap.size 3 i0 _ 1 8 Try.underlying22 hi hz0 hz1 hz2 rfl (by omega) _ _ _ rfl (ho.alloc _) (some ⟨wr.heap.size, 0, none⟩) 1 1 [.int .i64 x] rfl (lit_ints (w := wr.drewN nq) [x] rfl rfl) (by simp) (one_ints [x]) (by unfold maxLen; omega) (by omega) (by simp; omega) ?_; intro v1 w7 ho3 hg3 hat3)
        go_roundw
        case rel =>
          have ef : (qs.take (k + 1)).filter (mvB zs ys) = (qs.take k).filter (mvB zs ys) ++ [x] := by rw [HT.out, List.filter_append, HX.out]; simp [hm]
          refine ⟨k + 1, by omega, by go_num, by rw [ef]; simpa [Hid] using ho3, ?_⟩
          exact ((Bl.drewN B nq).alloc (by simpa using hBs) (.cells #[.int .i64 x] 3)).grown hg3 (by simp; omega) (fun k hk => (ho.lt k hk).1)
        case measure => simp [intOf]; omega
    · go_wp2
      go_ret
      have ef : qs.take k = qs := List.take_of_length_le (by omega)
      have ho := hO.out
      rw [ef] at ho
      obtain ⟨D, d, rfl, hd, hdm, _⟩ := own_slice ho
      exact ⟨D, _, d, rfl, rfl, (OV.blk ho (Nat.le_refl _)).ow, B⟩
end Go.Proofs.Ytcfleoobhgagoaa
