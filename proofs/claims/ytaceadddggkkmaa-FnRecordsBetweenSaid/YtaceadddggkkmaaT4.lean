/- Contracts of RecordsBetween, the program's: the records that lead from one table to another. -/
import Derived.Test.YtaceadddggkkmaaT3
import Derived.Test.YtaceadddggkkmaaRG2
import Derived.Deep.DeepMust
namespace Go.Proofs.Ytaceadddggkkmaa
open Go.RowKit

theorem c_ContainsM (g : Nat) (lb : Array Value) (p : Mpg → Bool) (w0 : World) (eg : ∀ args w, (callFunc g args).run Try.prog w = .ok (.enter g args) w) (A : Option Addr) (n c : Nat) (l : List Mpg) (w : World)
    (hP : PredM g lb p w0) (hw : Below w0.heap.size w0 w) (hn : l.length = n) (h : TM w A l) (hl : n ≤ 1099511627776) :
    Calls Try.prog 65 #[.slice A n c, .func (.func g) #[] lb] w fun e w' => e = .returned (.bool (decide (0 ≤ idx (fun k => p (mn l k)) n))) ∧ Below w.heap.size w w' := by
  have HC := Lib.hid (c_IndexM g lb p w0 eg A n c l w hP hw hn h hl)
  clear hn hP hw eg h
  go_enter Try.func65, Try.ntmps65
  go_wp2_with fail
  refine HC.out.mono ?_
  rintro e w' ⟨rfl, b⟩
  go_wp2
  go_ret
  exact ⟨ret_bool (by rfl), b⟩
def isM (m n : Mpg) : Bool := isE n m.ad m.ep && isP n m.po
theorem has_idx (l : List Mpg) (m : Mpg) : decide (0 ≤ idx (fun k => isM m (mn l k)) l.length) = hasM l m := by
  rcases idx_cases (fun k => isM m (mn l k)) l.length with ⟨k, hk, h1, _, e⟩ | ⟨h1, e⟩
  · rw [e]
    have : hasM l m = true := by
      dsimp only [isM] at h1
      rw [Bool.and_eq_true, isE_iff, isP_iff] at h1
      exact hasM_iff.2 ⟨k, hk, h1.1.1, h1.1.2, h1.2⟩
    rw [this, decide_eq_true_eq]; omega
  · rw [e]
    cases hh : hasM l m
    · rfl
    · obtain ⟨k, hk, e1, e2, e3⟩ := hasM_iff.1 hh
      have := h1 k hk
      dsimp only [isM] at this
      rw [isE_iff.2 ⟨e1, e2⟩, isP_iff.2 e3] at this
      cases this
theorem p_same (b : Nat) (m : Mpg) (w0 : World) (hx : w0.cell? ⟨b, 0, none⟩ = some (.int .i64 m.ad)) (hy : w0.cell? ⟨b, 1, none⟩ = some (.int .i64 m.ep)) (hz : w0.cell? ⟨b, 2, none⟩ = some (.int .i64 m.po)) (hb : b < w0.heap.size) :
    PredM 66 #[.pointer (some ⟨b, 0, none⟩)] (isM m) w0 := by
  intro W n hW
  have hs := hW.size
  have hbW : b < W.heap.size := by omega
  have hcx : W.cell? ⟨b, 0, none⟩ = some (.int .i64 m.ad) := (hW.cell (p := ⟨b, 0, none⟩) hb).trans hx
  have hcy : W.cell? ⟨b, 1, none⟩ = some (.int .i64 m.ep) := (hW.cell (p := ⟨b, 1, none⟩) hb).trans hy
  have hcz : W.cell? ⟨b, 2, none⟩ = some (.int .i64 m.po) := (hW.cell (p := ⟨b, 2, none⟩) hb).trans hz
  clear hW hx hy hz
  have heql := eql_end
  have hgd := guard_end
  have HM : Hid (isM m n = (eqE n.ad n.ep m.ad m.ep && (n.po == m.po))) := rfl
  cases t1 : eqE n.ad n.ep m.ad m.ep
  · go_enter Try.func66, Try.ntmps66
    go_wp2
    go_ret
    exact ⟨ret_bool (by rw [HM.out, t1]; rfl), (Below.refl _ _).alloc (Nat.le_refl _) _⟩
  · go_enter Try.func66, Try.ntmps66
    go_wp2
    go_ret
    exact ⟨ret_bool (by rw [HM.out, t1]; rfl), (Below.refl _ _).alloc (Nat.le_refl _) _⟩
/-- The records of the first k mappings of a that b has not. -/
def mis (a b : List Mpg) (now : Int) (ov : Bool) (k : Nat) : List Rec := ((a.take k).filter (fun m => !hasM b m)).map (recOf now ov)
theorem mis_succ {a b : List Mpg} {now : Int} {ov : Bool} {k : Nat} (hk : k < a.length) : mis a b now ov (k + 1) = mis a b now ov k ++ if hasM b (mn a k) then [] else [recOf now ov (mn a k)] := by
  unfold mis
  rw [List.take_add_one, List.getElem?_eq_getElem hk, List.filter_append, List.map_append]
  congr 1
  have : mn a k = a[k] := by simp [mn, hk]
  rw [this]
  cases h : hasM b a[k] <;> simp [h]
theorem mis_len (a b : List Mpg) (now : Int) (ov : Bool) (k : Nat) : (mis a b now ov k).length ≤ k := by
  unfold mis
  rw [List.length_map]
  exact Nat.le_trans (List.length_filter_le _ _) (by rw [List.length_take]; omega)

theorem rows_from {w : World} {base : Nat} {v : Value} {l : List Rec} (h : RO w base v l) : ∀ j, v.ownBlock = some j → base ≤ j := fun j hj => (World.ownsRow.lt h j hj).1

set_option maxHeartbeats 3200000 in
theorem c_missing (A B : Option Addr) (n m c d bo bn base : Nat) (a b : List Mpg) (now : Int) (ov : Bool) (l : List Rec) (v : Value) (W0 w : World) (hn : a.length = n) (hm : b.length = m)
    (hA : ∀ W, Below W0.heap.size W0 W → TM W A a) (hB : ∀ W, Below W0.heap.size W0 W → TM W B b) (hw : Below W0.heap.size W0 w) (hl : n ≤ 8) (hl2 : m ≤ 8) (hll : l.length ≤ 8)
    (k1 : Blk w bn 3 #[.int .i64 now]) (k2 : Blk w bo 23 #[v]) (ho : RO w base v l) (h0 : W0.heap.size ≤ bn) (h1 : W0.heap.size ≤ bo) (h2 : bn < base) (h3 : bo < base) (h4 : bo ≠ bn) (h5 : base ≤ w.heap.size) :
    Calls Try.prog 64 #[.slice A n c, .slice B m d, .bool ov, .pointer (some ⟨bo, 0, none⟩), .pointer (some ⟨bn, 0, none⟩)] w fun e w' => e = .returned (.tuple #[]) ∧
      ∃ v', Blk w' bn 3 #[.int .i64 now] ∧ Blk w' bo 23 #[v'] ∧ RO w' base v' (l ++ mis a b now ov n) ∧ Below W0.heap.size W0 w' := by
  have HN := Lib.hid hn
  have HM := Lib.hid hm
  have HA := Lib.hid hA
  have HB := Lib.hid hB
  clear hn hm hA hB
  go_enter Try.func64, Try.ntmps64
  go_wp2
  go_loopw [12] (fun i wr => ∃ (k : Nat) (v' : Value), k ≤ n ∧ i = .int .i64 k ∧ Hid (Blk wr bn 3 #[.int .i64 now]) ∧ Hid (Blk wr bo 23 #[v']) ∧ Hid (RO wr base v' (l ++ mis a b now ov k)) ∧ Hid (Below W0.heap.size W0 wr) ∧ Hid (base ≤ wr.heap.size)) (fun i _ => n - (intOf i).toNat)
  case atStart => exact ⟨0, v, Nat.zero_le _, rfl, k1, k2, by simpa [Hid, mis] using ho, hw, h5⟩
  case round =>
    clear k1 k2 ho hw h5
    obtain ⟨k, v', hk, rfl, K1, K2, HO, HW, HS⟩ := hrel
    have hbW := HS.out
    by_cases hlt : k < n
    · obtain ⟨b0, off, rfl, hb0, c0, c1, c2, c3⟩ := (HA.out _ HW.out).get (k := k) (by rw [HN.out]; exact hlt)
      have hlt1 := K1.out.lt
      have hlt2 := K2.out.lt
      have kb := Blk.new wr 63 #[.int .i64 (mn a k).ad, .int .i64 (mn a k).ep, .int .i64 (mn a k).po, .int .i64 (mn a k).la]
      have hp := p_same wr.heap.size (mn a k) _ (kb.cell 0) (kb.cell 1) (kb.cell 2) kb.lt
      have HP := Lib.hid hp
      have HBB := HW.out.alloc HW.out.size (.cells #[.int .i64 (mn a k).ad, .int .i64 (mn a k).ep, .int .i64 (mn a k).po, .int .i64 (mn a k).la] 63)
      have hsz := HW.out.size
      have hs := mis_succ (a := a) (b := b) (now := now) (ov := ov) (k := k) (by rw [HN.out]; exact hlt)
      have hml := mis_len a b now ov k
      have hi := has_idx b (mn a k)
      rw [HM.out] at hi
      have HI := Lib.hid hi
      have hTB := HB.out _ HBB
      clear hp hi
      go_wp2_with fail
      refine (c_ContainsM 66 #[.pointer (some ⟨wr.heap.size, 0, none⟩)] (isM (mn a k)) _ (enters_of Try.func66 (by kernel_rfl) rfl) B m d b _ HP.out (Below.refl _ _) HM.out hTB (by omega)).mono ?_
      rw [HI.out]
      rintro e w1 ⟨rfl, hq⟩
      have j1 := (K1.out.alloc (.cells #[.int .i64 (mn a k).ad, .int .i64 (mn a k).ep, .int .i64 (mn a k).po, .int .i64 (mn a k).la] 63)).to hq
      have j2 := (K2.out.alloc (.cells #[.int .i64 (mn a k).ad, .int .i64 (mn a k).ep, .int .i64 (mn a k).po, .int .i64 (mn a k).la] 63)).to hq
      have jb := kb.to hq
      have ho1 := (HO.out.alloc (.cells #[.int .i64 (mn a k).ad, .int .i64 (mn a k).ep, .int .i64 (mn a k).po, .int .i64 (mn a k).la] 63)).to hq
      have B1 := Bl.then HBB hq
      have s1 : base ≤ w1.heap.size := by have := hq.size; simp at this; omega
      have s2 : wr.heap.size + 1 ≤ w1.heap.size := by have := hq.size; simpa using this
      clear HBB hq kb hTB c0 c1 c2 c3
      cases hh : hasM b (mn a k)
      · rw [hh, if_neg (by decide)] at hs
        have HSS := Lib.hid hs
        clear hs hh
        have hlen : (l ++ mis a b now ov k).length ≤ 16 := by rw [List.length_append]; omega
        generalize hlle : l ++ mis a b now ov k = ll at ho1 hlen
        have HLL := Lib.hid hlle
        clear hlle
        have y0 := j1.cell 0
        have z0 := j2.cell 0
        have x0 := jb.cell 0
        have x1 := jb.cell 1
        have x2 := jb.cell 2
        simp only [List.getElem?_toArray, List.getElem?_cons_zero, List.getElem?_cons_succ] at y0 z0 x0 x1 x2
        have hlb := j2.lt
        have hlc := j1.lt
        have hL : RR (w1.alloc (.cells #[.int .i64 now, .int .i64 (mn a k).po, .int .i64 (mn a k).ad, .int .i64 (mn a k).ep, .bool ov] 29)) (some ⟨w1.heap.size, 0, none⟩) [recOf now ov (mn a k)] := lit_rec (w := w1) (recOf now ov (mn a k)) rfl rfl
        have hoR : (w1.alloc (.cells #[.int .i64 now, .int .i64 (mn a k).po, .int .i64 (mn a k).ad, .int .i64 (mn a k).ep, .bool ov] 29)).ownsRow base 29 5 v' ll.length (recCs ll) := World.ownsRow.alloc ho1 _
        have hr5 := rows_from ho1
        have hnl := recCs_len [recOf now ov (mn a k)]
        have hnc := recCs_one [recOf now ov (mn a k)]
        unfold RR at hL
        generalize hnle : recCs [recOf now ov (mn a k)] = nl at hnl hnc hL
        have HNL := Lib.hid hnle
        clear hnle
        go_wp2_with (at_builtin; go_must (obtain ⟨i0, hi, hz0, hz1, hz2⟩ := info_parts rec_info; refine wpList_append_rd _ rfl _ _ 23 rfl base 29 i0 _ 5 40 Try.underlying23 hi hz0 hz1 hz2 rfl (by omega) _ ll.length (recCs ll) rfl hoR (some ⟨w1.heap.size, 0, none⟩) 1 1 nl rfl hL hnl hnc (by unfold maxLen; omega) (by omega) (by simp; omega) ?_; intro v1 w5 ho5 hg5 hat5; obtain ⟨E, cE, rfl, -, -, -⟩ := own_slice ho5; have m1 := (j1.alloc (.cells #[.int .i64 now, .int .i64 (mn a k).po, .int .i64 (mn a k).ad, .int .i64 (mn a k).ep, .bool ov] 29)).grown hg5 (fun e => (by have := hr5 _ e.symm; omega)); have m2 := (j2.alloc (.cells #[.int .i64 now, .int .i64 (mn a k).po, .int .i64 (mn a k).ad, .int .i64 (mn a k).ep, .bool ov] 29)).grown hg5 (fun e => (by have := hr5 _ e.symm; omega)); have q0 := m2.cell 0; have q1 := m2.frozen 0; simp only [List.getElem?_toArray, List.getElem?_cons_zero] at q0; clear hi hz0 hz1 hz2 hat5))
        have s5 := hg5.size
        simp only [World.size_alloc] at s5
        have g1 := m1.far (p := ⟨bo, 0, none⟩) (fun e => h4 e.symm) (.slice E (ll.length + 1) cE)
        have g2 := m2.set_ 0 (.slice E (ll.length + 1) cE)
        have g3 := World.ownsRow.kept ho5 (grown_put bo 0 (.slice E (ll.length + 1) cE)) (.inr (fun e => by have := (World.ownsRow.lt ho5 _ e).1; omega))
        have g4 := ((B1.alloc B1.size (.cells #[.int .i64 now, .int .i64 (mn a k).po, .int .i64 (mn a k).ad, .int .i64 (mn a k).ep, .bool ov] 29)).grown hg5 (by have := B1.size; simp; omega) (fun j hj => by have := hr5 _ hj; omega)).setCell (p := ⟨bo, 0, none⟩) h1 (.slice E (ll.length + 1) cE)
        go_roundw
        case rel =>
          refine ⟨k + 1, .slice E (ll.length + 1) cE, by omega, by go_num, g1, g2, ?_, g4, by show base ≤ _; simp [World.setCell]; omega⟩
          rw [HSS.out, ← List.append_assoc, HLL.out]
          show RO _ _ _ _
          unfold RO
          rw [recCs_app, HNL.out, List.length_append]
          exact g3
        case measure => simp [intOf]; omega
      · rw [hh, if_pos rfl, List.append_nil] at hs
        have HSS := Lib.hid hs
        clear hs hh
        go_wp2
        go_roundw
        case rel => exact ⟨k + 1, v', by omega, by go_num, j1, j2, by rw [HSS.out]; exact ho1, B1, s1⟩
        case measure => simp [intOf]; omega
    · obtain rfl : k = n := by omega
      go_wp2
      go_end0
      exact ⟨rfl, v', K1.out, K2.out, HO.out, HW.out⟩
end Go.Proofs.Ytaceadddggkkmaa
