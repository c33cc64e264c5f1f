/- Contracts of the laws' copies of mappings, and of the marks on them. -/
import Derived.Test.YthlaldikdlljfaaDoorT7
namespace Go.Proofs.YthlaldikdlljfaaDoor
open Go.RowKit

theorem c_toMapping (r : Mpg) (w : World) :
    Calls Tryd.prog 54 #[.agg #[.int .i64 r.ad, .int .i64 r.ep, .int .i64 r.po, .int .i64 r.la]] w fun e w' => e = .returned (.agg #[.int .i64 r.ad, .int .i64 r.ep, .int .i64 r.po, .int .i64 r.la]) ∧ Below w.heap.size w w' := by
  obtain ⟨x, y, p, o⟩ := r
  have k0 := ((Blk.new w 71 #[.int .i64 x, .int .i64 y, .int .i64 p, .int .i64 o]).alloc (.cells #[.int .i64 0, .int .i64 0, .int .i64 0, .int .i64 0] 48)).alloc (.cells #[.int .i64 0, .int .i64 0, .int .i64 0, .int .i64 0] 48)
  have k1 := (Blk.new (w.alloc (.cells #[.int .i64 x, .int .i64 y, .int .i64 p, .int .i64 o] 71)) 48 #[.int .i64 0, .int .i64 0, .int .i64 0, .int .i64 0]).alloc (.cells #[.int .i64 0, .int .i64 0, .int .i64 0, .int .i64 0] 48)
  have k2 := Blk.new ((w.alloc (.cells #[.int .i64 x, .int .i64 y, .int .i64 p, .int .i64 o] 71)).alloc (.cells #[.int .i64 0, .int .i64 0, .int .i64 0, .int .i64 0] 48)) 48 #[.int .i64 0, .int .i64 0, .int .i64 0, .int .i64 0]
  go_enter Tryd.func54, Tryd.ntmps54
  go_wp2_with fail
  refine (c_toEnd _ _ _).mono ?_
  rintro e w1 ⟨rfl, hq⟩
  have B : Below w.heap.size w w1 := (((((Below.refl _ _).alloc (Nat.le_refl _) (.cells #[.int .i64 x, .int .i64 y, .int .i64 p, .int .i64 o] 71)).alloc (by simp) (.cells #[.int .i64 0, .int .i64 0, .int .i64 0, .int .i64 0] 48)).alloc (by simp; omega) (.cells #[.int .i64 0, .int .i64 0, .int .i64 0, .int .i64 0] 48))).trans (hq.mono (by simp; omega))
  replace k0 := k0.to hq
  replace k1 := k1.to hq
  replace k2 := k2.to hq
  simp only [World.size_alloc] at k1 k2
  have l0 := k0.lt
  have l1 := k1.lt
  have l2 := k2.lt
  have y2 := k0.cell 2
  have y3 := k0.cell 3
  have z0 := k2.cell 0
  have z1 := k2.cell 1
  have z2 := k2.cell 2
  have z3 := k2.cell 3
  have f0 := k2.frozen 0
  have f1 := k2.frozen 1
  have f2 := k2.frozen 2
  have f3 := k2.frozen 3
  have u0 := k1.cell 0
  have u1 := k1.cell 1
  have u2 := k1.cell 2
  have u3 := k1.cell 3
  have g0 := k1.frozen 0
  have g1 := k1.frozen 1
  have g2 := k1.frozen 2
  have g3 := k1.frozen 3
  simp only [List.getElem?_toArray, List.getElem?_cons_zero, List.getElem?_cons_succ] at y2 y3 z0 z1 z2 z3 u0 u1 u2 u3
  clear hq
  go_wp2
  generalize hw4 : ((((((((w1.setCell { block := w.heap.size + 1 + 1, off := 0 } (Value.int IntKind.i64 x)).setCell { block := w.heap.size + 1 + 1, off := 1 } (Value.int IntKind.i64 y)).setCell { block := w.heap.size + 1 + 1, off := 2 } (Value.int IntKind.i64 p)).setCell { block := w.heap.size + 1 + 1, off := 3 } (Value.int IntKind.i64 o)).setCell
    { block := w.heap.size + 1, off := 0 } (Value.int IntKind.i64 x)).setCell { block := w.heap.size + 1, off := 1 } (Value.int IntKind.i64 y)).setCell { block := w.heap.size + 1, off := 2 } (Value.int IntKind.i64 p)).setCell { block := w.heap.size + 1, off := 3 } (Value.int IntKind.i64 o)) = w4
  have hne : w.heap.size + 1 ≠ w.heap.size + 1 + 1 := by omega
  have z : Blk w4 (w.heap.size + 1) 48 #[.int .i64 x, .int .i64 y, .int .i64 p, .int .i64 o] := by
    rw [← hw4]
    exact ((((((((k1.far hne _).far hne _).far hne _).far hne _).set_ 0 _).set_ 1 _).set_ 2 _).set_ 3 _)
  have B4 : Below w.heap.size w w4 := by
    rw [← hw4]
    exact (((((((B.setCell (by show _ ≤ _ + 1 + 1; omega) _).setCell (by show _ ≤ _ + 1 + 1; omega) _).setCell (by show _ ≤ _ + 1 + 1; omega) _).setCell (by show _ ≤ _ + 1 + 1; omega) _).setCell (by show _ ≤ _ + 1; omega) _).setCell (by show _ ≤ _ + 1; omega) _).setCell (by show _ ≤ _ + 1; omega) _).setCell (by show _ ≤ _ + 1; omega) _
  have q0 := z.cell 0
  have q1 := z.cell 1
  have q2 := z.cell 2
  have q3 := z.cell 3
  simp only [List.getElem?_toArray, List.getElem?_cons_zero, List.getElem?_cons_succ] at q0 q1 q2 q3
  refine bodyPost_ret (v := .agg #[.int .i64 x, .int .i64 y, .int .i64 p, .int .i64 o]) (by simp [results, Tryd.results54, go_sem, q0, q1, q2, q3]) rfl ?_
  exact ⟨rfl, B4⟩

theorem map_info : (Tryd.prog.info? 48).map (fun i => (i.zero, i.size, i.bytes)) = some (some (.agg #[.int .i64 0, .int .i64 0, .int .i64 0, .int .i64 0]), 4, 32) := by kernel_rfl
theorem run_make_maps (n : Nat) (hn : n ≤ 1099511627776) : ∃ cs : Array Value, cs.size = n * 4 ∧ ∀ w, (Instr.makeSlice 41 (.int .i64 (n : Int)) (.int .i64 (n : Int))).run Tryd.prog w = .ok (.slice (some ⟨w.heap.size, 0, none⟩) n n) (w.alloc (.cells cs 48)) := by
  obtain ⟨i0, hi, hz0, hz1, hz2⟩ := info_parts map_info
  refine ⟨madeCells (Value.agg #[.int .i64 0, .int .i64 0, .int .i64 0, .int .i64 0]).cells (n * 4), ?_, fun w => ?_⟩
  · simp [madeCells]
  · have hr := run_make (P := Tryd.prog) w 41 48 i0 _ Tryd.underlying41 hi hz0 .i64 .i64 n n (by omega) (Int.le_refl _) (by rw [hz2]; omega) (by omega)
    simp only [Int.toNat_natCast, hz1] at hr
    exact hr

set_option maxHeartbeats 1600000 in
theorem c_toMappingS (A : Option Addr) (n c : Nat) (l : List Mpg) (w : World) (hn : l.length = n) (h : TM w A l) (hl : n ≤ 1099511627776) :
    Calls Tryd.prog 26 #[.slice A n c] w (NewT l w) := by
  obtain ⟨cs0, hs0, hmk⟩ := run_make_maps n hl
  have HN := Lib.hid hn
  have HS0 := Lib.hid hs0
  clear hn hs0
  go_enter Tryd.func26, Tryd.ntmps26
  go_wp2
  go_loopw [4] (fun i wr => ∃ (k : Nat) (cs : Array Value), k ≤ n ∧ i = .int .i64 k ∧ Hid (cs.size = n * 4) ∧ Hid (∀ j, j < k * 4 → cs[j]? = (mapCs l)[j]?) ∧ Hid (Blk wr w.heap.size 48 cs) ∧ Hid (Below w.heap.size w wr)) (fun i _ => n - (intOf i).toNat)
  case atStart => exact ⟨0, cs0, Nat.zero_le _, rfl, HS0.out, fun j hj => absurd hj (by omega), Blk.new w _ _, (Below.refl _ _).alloc (Nat.le_refl _) _⟩
  case round =>
    obtain ⟨k, cs, hk, rfl, HS, HP, HK, HB⟩ := hrel
    by_cases hlt : k < n
    · have hkl : Hid (k < l.length) := by rw [HN.out]; exact hlt
      obtain ⟨b, off, rfl, hb, c0, c1, c2, c3⟩ := (h.to HB.out).get hkl.out
      go_wp2_with fail
      refine (c_toMapping (mn l k) _).mono ?_
      rintro e w1 ⟨rfl, hq⟩
      have kb := HK.out.to hq
      have HBB := Lib.hid (Bl.then HB.out hq)
      have hs := HS.out
      obtain ⟨v0, e0⟩ : ∃ v, cs[k * 4]? = some v := ⟨_, Array.getElem?_eq_getElem (by omega)⟩
      obtain ⟨v1, e1⟩ : ∃ v, cs[k * 4 + 1]? = some v := ⟨_, Array.getElem?_eq_getElem (by omega)⟩
      obtain ⟨v2, e2⟩ : ∃ v, cs[k * 4 + 2]? = some v := ⟨_, Array.getElem?_eq_getElem (by omega)⟩
      obtain ⟨v3, e3⟩ : ∃ v, cs[k * 4 + 3]? = some v := ⟨_, Array.getElem?_eq_getElem (by omega)⟩
      have y0 : w1.cell? ⟨w.heap.size, k * 4, none⟩ = some v0 := (kb.cell _).trans e0
      have y1 : w1.cell? ⟨w.heap.size, k * 4 + 1, none⟩ = some v1 := (kb.cell _).trans e1
      have y2 : w1.cell? ⟨w.heap.size, k * 4 + 2, none⟩ = some v2 := (kb.cell _).trans e2
      have y3 : w1.cell? ⟨w.heap.size, k * 4 + 3, none⟩ = some v3 := (kb.cell _).trans e3
      have f0 := kb.frozen (k * 4)
      have f1 := kb.frozen (k * 4 + 1)
      have f2 := kb.frozen (k * 4 + 2)
      have f3 := kb.frozen (k * 4 + 3)
      have KB := Lib.hid kb
      clear hs e0 e1 e2 e3 hq kb c0 c1 c2 c3
      go_wp2
      go_roundw
      case rel =>
        refine ⟨k + 1, _, by omega, by go_num, ?_, ?_, (((KB.out.set_ (k * 4) _).set_ (k * 4 + 1) _).set_ (k * 4 + 2) _).set_ (k * 4 + 3) _, (((HBB.out.setCell (Nat.le_refl _) _).setCell (Nat.le_refl _) _).setCell (Nat.le_refl _) _).setCell (Nat.le_refl _) _⟩
        · simpa [Hid] using HS.out
        · intro j hj
          have hs := HS.out
          have hp := HP.out
          by_cases hjk : j < k * 4
          · rw [← hp j hjk]
            simp only [Array.getElem?_setIfInBounds]
            rw [if_neg (by omega), if_neg (by omega), if_neg (by omega), if_neg (by omega)]
          · obtain ⟨i, rfl⟩ : ∃ i, j = k * 4 + i := ⟨j - k * 4, by omega⟩
            have hi5 : i < 4 := by omega
            rw [mapCs_at hkl.out hi5]
            simp only [Array.getElem?_setIfInBounds, Array.size_setIfInBounds]
            rcases i with _ | _ | _ | _ | i
            · rw [if_neg (by omega), if_neg (by omega), if_neg (by omega), if_pos (by omega), if_pos (by omega)]; rfl
            · rw [if_neg (by omega), if_neg (by omega), if_pos (by omega), if_pos (by omega)]; rfl
            · rw [if_neg (by omega), if_pos (by omega), if_pos (by omega)]; rfl
            · rw [if_pos (by omega), if_pos (by omega)]; rfl
            · omega
      case measure => simp [intOf]; omega
    · obtain hkn : k = n := by omega
      subst hkn
      go_wp2
      go_ret
      have hs := HS.out
      have hr : TM _ (some ⟨w.heap.size, 0, none⟩) l := TM.of_blk HK.out (by rw [HN.out]; exact HP.out)
      exact ⟨_, _, _, rfl, HN.out, ⟨hr, HN.out, Nat.le_refl _, .inr ⟨w.heap.size, cs, rfl, Nat.le_refl _, HK.out.lt, HK.out, by omega⟩⟩, HB.out⟩
/-- The mappings that the marks from k on leave. -/
def mkM (k : Int) (j : Nat) : Mpg := ⟨k + 4 * j, k + 4 * j + 1, k + 4 * j + 1 + 1, k + 4 * j + 1 + 1 + 1⟩
def upM (k : Int) (n : Nat) : List Mpg := (List.range n).map (mkM k)
theorem upM_len (k : Int) (n : Nat) : (upM k n).length = n := by simp [upM]
theorem upM_nth {k : Int} {n j : Nat} (h : j < n) : mn (upM k n) j = mkM k j := by simp [upM, mn, h]

end Go.Proofs.YthlaldikdlljfaaDoor
