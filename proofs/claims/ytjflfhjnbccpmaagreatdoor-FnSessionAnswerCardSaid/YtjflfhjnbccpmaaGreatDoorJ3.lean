/- Joined: T9, T10, SS, S1, S2, SP, SQ, S4, UP, UC, UE, U1, UK. -/
import Derived.Test.YtjflfhjnbccpmaaGreatDoorJ2
import Derived.Deep.DeepMust
import Derived.Shelf.Strings.OnBuilder
import Derived.Shelf.Strconv.Itoa3
import Derived.Shelf.Strconv.ErrVarAll
import Derived.Shelf.Strings.Shaped
import Derived.Test.YtjflfhjnbccpmaaGreatDoorProg
import Derived.Deep.RegionLaw
import Derived.Lib.ItoaNum
import Derived.Lib.IndexMore
import Derived.Lib.AtoiAllCases
import Derived.Lib.Join
import Derived.Lib.SliceRun
import Derived.Laws.AppendOwn
set_option linter.unusedVariables false
set_option linter.unusedSimpArgs false
namespace Go.Proofs.YtjflfhjnbccpmaaGreatDoor
open Go.RowKit
def fpP (l : List Mpg) (n : Nat) (want : Int) (k : Nat) : Bool := (((1000 : Int) + k) % 2 == want % 2) && decide (byP l ((1000 : Int) + k) n < 0)
def fpQ (l : List Mpg) (n : Nat) (k : Nat) : Bool := decide (byP l ((1000 : Int) + k) n < 0)
/-- The port for a new mapping, -1 for none. -/
def fpt (l : List Mpg) (n : Nat) (want : Int) : Int :=
  if (inB want 1000 1007 && decide (byP l want n < 0)) = true then want
  else if 0 ≤ idx (fpP l n want) 8 then 1000 + idx (fpP l n want) 8
  else if 0 ≤ idx (fpQ l n) 8 then 1000 + idx (fpQ l n) 8 else -1
theorem fpt_bd (l : List Mpg) (n : Nat) (want : Int) : -1 ≤ fpt l n want ∧ fpt l n want ≤ 1007 := by
  have h1 := idx_bd (fpP l n want) 8
  have h2 := idx_bd (fpQ l n) 8
  unfold fpt
  split
  · rename_i h
    simp only [Bool.and_eq_true] at h
    have := inB_true h.1
    omega
  · split
    · omega
    · split <;> omega
theorem fpt_own {l : List Mpg} {n : Nat} {want : Int} (h : (inB want 1000 1007 && decide (byP l want n < 0)) = true) : fpt l n want = want := by unfold fpt; rw [if_pos h]
theorem fpt_par {l : List Mpg} {n : Nat} {want : Int} (h : (inB want 1000 1007 && decide (byP l want n < 0)) = false) {k : Nat} (hk : idx (fpP l n want) 8 = k) : fpt l n want = 1000 + k := by
  unfold fpt
  rw [h, if_neg (by decide), if_pos (by omega), hk]
theorem fpt_any {l : List Mpg} {n : Nat} {want : Int} (h : (inB want 1000 1007 && decide (byP l want n < 0)) = false) (hk : idx (fpP l n want) 8 = -1) : fpt l n want = if 0 ≤ idx (fpQ l n) 8 then 1000 + idx (fpQ l n) 8 else -1 := by
  unfold fpt
  rw [h, if_neg (by decide), if_neg (by omega)]
set_option maxHeartbeats 1600000 in
theorem c_freePort (A : Option Addr) (n c : Nat) (l : List Mpg) (want : Int) (w : World) (hn : l.length = n) (h : TM w A l) (hl : n ≤ 1099511627776) (h0 : 0 ≤ want) :
    Calls Tryz.prog 177 #[.slice A n c, .int .i64 want] w fun e w' => e = .returned (.int .i64 (fpt l n want)) ∧ w = w' := by
  have HN := Lib.hid hn
  clear hn
  go_enter Tryz.func177, Tryz.ntmps177
  go_wp2_with fail
  refine (c_inRange _ _ _ _).mono ?_
  rintro e w' ⟨rfl, rfl⟩
  cases h1 : inB want 1000 1007
  · have HF1 : Hid (∀ {k : Nat}, idx (fpP l n want) 8 = k → fpt l n want = 1000 + k) := fun {k} e => fpt_par (by rw [h1]; rfl) e
    have HF0 : Hid (idx (fpP l n want) 8 = -1 → fpt l n want = if 0 ≤ idx (fpQ l n) 8 then 1000 + idx (fpQ l n) 8 else -1) := fun e => fpt_any (by rw [h1]; rfl) e
    go_wp2
    go_loop [5] (fun i => ∃ k : Nat, k ≤ 8 ∧ i = .int .i64 ((1000 : Int) + k) ∧ Hid (∀ j, j < k → fpP l n want j = false)) (fun i => 1008 - (intOf i).toNat)
    case atStart => exact ⟨0, by omega, rfl, fun j hj => absurd hj (by omega)⟩
    case round =>
      obtain ⟨k, hk, rfl, hF⟩ := hrel
      by_cases hk8 : k < 8
      · have t9 : decide ((1000 : Int) + k ≤ 1007) = true := by rw [decide_eq_true_eq]; omega
        have e1 : IntKind.i64.wrap ((1000 : Int) + k + 1) = 1000 + k + 1 := IntWalk.i64_in _ (by omega)
        have hp : fpP l n want k = ((((1000 : Int) + k) % 2 == want % 2) && decide (byP l ((1000 : Int) + k) n < 0)) := rfl
        have HPP := Lib.hid hp
        clear hp
        cases tq : (((1000 : Int) + k) % 2 == want % 2)
        · have HT := Lib.hid tq
          go_wp2
          go_round
          case rel => exact ⟨k + 1, by omega, by first | rfl | (congr 1; omega), upTo_succ hF.out (by rw [HPP.out, HT.out]; rfl)⟩
          case measure => simp [intOf]; omega
        · have HT := Lib.hid tq
          go_wp2_with fail
          refine (c_sByPort _ _ _ l ((1000 : Int) + k) _ HN.out h hl).mono ?_
          rintro e w' ⟨rfl, rfl⟩
          generalize byP l ((1000 : Int) + k) n = z at HPP
          by_cases hz : z < 0
          · have tz : decide (z < 0) = true := by rw [decide_eq_true_eq]; exact hz
            have HZ := Lib.hid tz
            go_wp2
            go_ret
            exact ⟨ret_int (by rw [HF1.out (k := k) (idx_some hk8 (by rw [HPP.out, HT.out, HZ.out]; rfl) hF.out)]), rfl⟩
          · have tz : decide (z < 0) = false := by rw [decide_eq_false_iff_not]; exact hz
            have HZ := Lib.hid tz
            go_wp2
            go_round
            case rel => exact ⟨k + 1, by omega, by first | rfl | (congr 1; omega), upTo_succ hF.out (by rw [HPP.out, HT.out, HZ.out]; rfl)⟩
            case measure => simp [intOf]; omega
      · obtain rfl : k = 8 := by omega
        go_wp2
        go_loop [6] (fun i => ∃ k : Nat, k ≤ 8 ∧ i = .int .i64 ((1000 : Int) + k) ∧ Hid (∀ j, j < k → fpQ l n j = false)) (fun i => 1008 - (intOf i).toNat)
        case atStart => exact ⟨0, by omega, rfl, fun j hj => absurd hj (by omega)⟩
        case round =>
          obtain ⟨k, hk, rfl, hQ⟩ := hrel
          by_cases hk8 : k < 8
          · have t9 : decide ((1000 : Int) + k ≤ 1007) = true := by rw [decide_eq_true_eq]; omega
            have e1 : IntKind.i64.wrap ((1000 : Int) + k + 1) = 1000 + k + 1 := IntWalk.i64_in _ (by omega)
            have hq : fpQ l n k = decide (byP l ((1000 : Int) + k) n < 0) := rfl
            have HQQ := Lib.hid hq
            clear hq
            go_wp2_with fail
            refine (c_sByPort _ _ _ l ((1000 : Int) + k) _ HN.out h hl).mono ?_
            rintro e w' ⟨rfl, rfl⟩
            generalize byP l ((1000 : Int) + k) n = z at HQQ
            by_cases hz : z < 0
            · have tz : decide (z < 0) = true := by rw [decide_eq_true_eq]; exact hz
              have HZ := Lib.hid tz
              go_wp2
              go_ret
              exact ⟨ret_int (by rw [HF0.out (idx_none hF.out) , idx_some (P := fpQ l n) hk8 (by rw [HQQ.out, HZ.out]) hQ.out, if_pos (by omega)]), rfl⟩
            · have tz : decide (z < 0) = false := by rw [decide_eq_false_iff_not]; exact hz
              have HZ := Lib.hid tz
              go_wp2
              go_round
              case rel => exact ⟨k + 1, by omega, by first | rfl | (congr 1; omega), upTo_succ hQ.out (by rw [HQQ.out, HZ.out])⟩
              case measure => simp [intOf]; omega
          · obtain rfl : k = 8 := by omega
            go_wp2
            go_ret
            exact ⟨ret_int (by rw [HF0.out (idx_none hF.out), idx_none (P := fpQ l n) hQ.out]; rfl), rfl⟩
  · have hb := inB_true h1
    have HB1 := Lib.hid h1
    go_wp2_with fail
    refine (c_sByPort _ _ _ l want _ HN.out h hl).mono ?_
    rintro e w' ⟨rfl, rfl⟩
    generalize hx0 : byP l want n = x
    have HX0 := Lib.hid hx0
    clear hx0
    by_cases hx : x < 0
    · have t0 : decide (x < 0) = true := by rw [decide_eq_true_eq]; exact hx
      have HT0 := Lib.hid t0
      go_wp2
      go_ret
      exact ⟨ret_int (by rw [fpt_own (by rw [HB1.out, HX0.out, HT0.out]; rfl)]), rfl⟩
    · have t0 : decide (x < 0) = false := by rw [decide_eq_false_iff_not]; exact hx
      have HF1 : Hid (∀ {k : Nat}, idx (fpP l n want) 8 = k → fpt l n want = 1000 + k) := fun {k} e => fpt_par (by rw [HX0.out, t0]; simp) e
      have HF0 : Hid (idx (fpP l n want) 8 = -1 → fpt l n want = if 0 ≤ idx (fpQ l n) 8 then 1000 + idx (fpQ l n) 8 else -1) := fun e => fpt_any (by rw [HX0.out, t0]; simp) e
      go_wp2
      go_loop [5] (fun i => ∃ k : Nat, k ≤ 8 ∧ i = .int .i64 ((1000 : Int) + k) ∧ Hid (∀ j, j < k → fpP l n want j = false)) (fun i => 1008 - (intOf i).toNat)
      case atStart => exact ⟨0, by omega, rfl, fun j hj => absurd hj (by omega)⟩
      case round =>
        obtain ⟨k, hk, rfl, hF⟩ := hrel
        by_cases hk8 : k < 8
        · have t9 : decide ((1000 : Int) + k ≤ 1007) = true := by rw [decide_eq_true_eq]; omega
          have e1 : IntKind.i64.wrap ((1000 : Int) + k + 1) = 1000 + k + 1 := IntWalk.i64_in _ (by omega)
          have hp : fpP l n want k = ((((1000 : Int) + k) % 2 == want % 2) && decide (byP l ((1000 : Int) + k) n < 0)) := rfl
          have HPP := Lib.hid hp
          clear hp
          cases tq : (((1000 : Int) + k) % 2 == want % 2)
          · have HT := Lib.hid tq
            go_wp2
            go_round
            case rel => exact ⟨k + 1, by omega, by first | rfl | (congr 1; omega), upTo_succ hF.out (by rw [HPP.out, HT.out]; rfl)⟩
            case measure => simp [intOf]; omega
          · have HT := Lib.hid tq
            go_wp2_with fail
            refine (c_sByPort _ _ _ l ((1000 : Int) + k) _ HN.out h hl).mono ?_
            rintro e w' ⟨rfl, rfl⟩
            generalize byP l ((1000 : Int) + k) n = z at HPP
            by_cases hz : z < 0
            · have tz : decide (z < 0) = true := by rw [decide_eq_true_eq]; exact hz
              have HZ := Lib.hid tz
              go_wp2
              go_ret
              exact ⟨ret_int (by rw [HF1.out (k := k) (idx_some hk8 (by rw [HPP.out, HT.out, HZ.out]; rfl) hF.out)]), rfl⟩
            · have tz : decide (z < 0) = false := by rw [decide_eq_false_iff_not]; exact hz
              have HZ := Lib.hid tz
              go_wp2
              go_round
              case rel => exact ⟨k + 1, by omega, by first | rfl | (congr 1; omega), upTo_succ hF.out (by rw [HPP.out, HT.out, HZ.out]; rfl)⟩
              case measure => simp [intOf]; omega
        · obtain rfl : k = 8 := by omega
          go_wp2
          go_loop [6] (fun i => ∃ k : Nat, k ≤ 8 ∧ i = .int .i64 ((1000 : Int) + k) ∧ Hid (∀ j, j < k → fpQ l n j = false)) (fun i => 1008 - (intOf i).toNat)
          case atStart => exact ⟨0, by omega, rfl, fun j hj => absurd hj (by omega)⟩
          case round =>
            obtain ⟨k, hk, rfl, hQ⟩ := hrel
            by_cases hk8 : k < 8
            · have t9 : decide ((1000 : Int) + k ≤ 1007) = true := by rw [decide_eq_true_eq]; omega
              have e1 : IntKind.i64.wrap ((1000 : Int) + k + 1) = 1000 + k + 1 := IntWalk.i64_in _ (by omega)
              have hq : fpQ l n k = decide (byP l ((1000 : Int) + k) n < 0) := rfl
              have HQQ := Lib.hid hq
              clear hq
              go_wp2_with fail
              refine (c_sByPort _ _ _ l ((1000 : Int) + k) _ HN.out h hl).mono ?_
              rintro e w' ⟨rfl, rfl⟩
              generalize byP l ((1000 : Int) + k) n = z at HQQ
              by_cases hz : z < 0
              · have tz : decide (z < 0) = true := by rw [decide_eq_true_eq]; exact hz
                have HZ := Lib.hid tz
                go_wp2
                go_ret
                exact ⟨ret_int (by rw [HF0.out (idx_none hF.out) , idx_some (P := fpQ l n) hk8 (by rw [HQQ.out, HZ.out]) hQ.out, if_pos (by omega)]), rfl⟩
              · have tz : decide (z < 0) = false := by rw [decide_eq_false_iff_not]; exact hz
                have HZ := Lib.hid tz
                go_wp2
                go_round
                case rel => exact ⟨k + 1, by omega, by first | rfl | (congr 1; omega), upTo_succ hQ.out (by rw [HQQ.out, HZ.out])⟩
                case measure => simp [intOf]; omega
            · obtain rfl : k = 8 := by omega
              go_wp2
              go_ret
              exact ⟨ret_int (by rw [HF0.out (idx_none hF.out), idx_none (P := fpQ l n) hQ.out]; rfl), rfl⟩
/-- A row of the call's own that reads as mappings. -/
def MO (w : World) (base : Nat) (v : Value) (l : List Mpg) : Prop := w.ownsRow base 84 4 v l.length (mapCs l)
section
variable {w w' : World} {base g n c : Nat} {v : Value} {A : Option Addr} {l : List Mpg}
theorem MO.kept (h : MO w base v l) (hg : w.grownBy w' (some g)) (hlt : g < base) : MO w' base v l := own_kept h hg hlt
theorem MO.to (h : MO w base v l) (hb : Below w.heap.size w w') : MO w' base v l := own_to h hb (Nat.le_refl _)
theorem MO.alloc (h : MO w base v l) (o : Obj) : MO (w.alloc o) base v l := World.ownsRow.alloc h o
theorem MO.drewN (h : MO w base v l) (k : Nat) : MO (w.drewN k) base v l := h.to (Bl.of_drewN w k)
theorem MO.tm (h : MO w base (.slice A n c) l) (hn : l.length = n) : TM w A l := by
  unfold MO at h
  rw [hn] at h
  exact Rd.of_ownS h
theorem MO.empty {n : Nat} (hb : base ≤ w.heap.size) (hn : n = w.heap.size) : MO (w.alloc (.cells #[] 84)) base (.slice (some ⟨n, 0, none⟩) 0 0) [] := by
  subst hn
  exact World.ownsRow_made w #[] 0 hb (by unfold maxLen; omega) (by simp)
theorem MO.slice (h : MO w base v l) : ∃ A c, v = .slice A l.length c ∧ l.length ≤ c ∧ c ≤ maxLen ∧ ∀ a, A = some a → base ≤ a.block ∧ a.block < w.heap.size := own_slice h
theorem MO.low {b' : Nat} (h : MO w base v l) (hb : b' ≤ base) : MO w b' v l := own_base h hb
end
theorem mapCs_one (l : List Mpg) : ∀ u ∈ mapCs l, u.oneCell' = true := fun u hu => by
  unfold mapCs at hu
  obtain ⟨r, _, hr⟩ := List.mem_flatMap.1 hu
  simp only [mapC, List.mem_cons, List.not_mem_nil, or_false] at hr
  rcases hr with rfl | rfl | rfl | rfl <;> rfl
theorem TM.of_blk0 {w : World} {l : List Mpg} {g : Nat} {t : TypeId} {cur : Array Value} (hb : Blk w g t cur) (h : ∀ j, j < l.length * 4 → cur[j]? = (mapCs l)[j]?) : TM w (some ⟨g, 0, none⟩) l := fun i v hi => by
  have hil : i < l.length * 4 := by
    rcases Nat.lt_or_ge i (l.length * 4) with h1 | h1
    · exact h1
    · rw [List.getElem?_eq_none (by rw [mapCs_len]; exact h1)] at hi; cases hi
  exact ⟨g, 0, rfl, hb.lt, by rw [Nat.zero_add, hb.cell, h i hil]; exact hi⟩
theorem lit_map {w : World} {t n : Nat} {cs : Array Value} (r : Mpg) (hn : n = w.heap.size) (hc : cs = (mapC r).toArray) : TM (w.alloc (.cells cs t)) (some ⟨n, 0, none⟩) [r] := by
  subst hn hc
  refine TM.of_blk0 (Blk.new w t _) (fun j _ => ?_)
  simp [mapCs]
theorem mapT_info : (Tryz.prog.info? 84).map (fun i => (i.zero, i.size, i.bytes)) = some (some (.agg #[.int .i64 0, .int .i64 0, .int .i64 0, .int .i64 0]), 4, 32) := by kernel_rfl
/-- What a function leaves that hands back new mappings in a row of its own. -/
def NewM (l : List Mpg) (w : World) (e : Ending) (w' : World) : Prop := ∃ v, e = .returned v ∧ MO w' w.heap.size v l ∧ Below w.heap.size w w'
def keepM (now hold : Int) (m : Mpg) : Bool := !decide (hold ≤ now - m.la)
/-- The mappings of the first k that are still used. -/
def exM (l : List Mpg) (now hold : Int) (k : Nat) : List Mpg := (l.take k).filter (keepM now hold)
theorem exM_succ {l : List Mpg} {now hold : Int} {k : Nat} (hk : k < l.length) : exM l now hold (k + 1) = exM l now hold k ++ if hold ≤ now - (mn l k).la then [] else [mn l k] := by
  unfold exM
  rw [List.take_add_one, List.getElem?_eq_getElem hk, List.filter_append]
  congr 1
  have : mn l k = l[k] := by simp [mn, hk]
  rw [this]
  unfold keepM
  by_cases h : hold ≤ now - l[k].la <;> simp [h]
theorem exM_len (l : List Mpg) (now hold : Int) (k : Nat) : (exM l now hold k).length ≤ k := by
  unfold exM
  exact Nat.le_trans (List.length_filter_le _ _) (by rw [List.length_take]; omega)
theorem c_expired (r : Mpg) (now hold : Int) (w : World) (h1 : -4611686018427387904 ≤ now - r.la) (h2 : now - r.la ≤ 4611686018427387904) :
    Calls Tryz.prog 148 #[.agg #[.int .i64 r.ad, .int .i64 r.ep, .int .i64 r.po, .int .i64 r.la], .int .i64 now, .int .i64 hold] w fun e w' => e = .returned (.bool (decide (hold ≤ now - r.la))) ∧ Below w.heap.size w w' := by
  have k0 := Blk.new w 84 #[.int .i64 r.ad, .int .i64 r.ep, .int .i64 r.po, .int .i64 r.la]
  have y3 := k0.cell 3
  simp only [List.getElem?_toArray, List.getElem?_cons_zero, List.getElem?_cons_succ] at y3
  go_enter Tryz.func148, Tryz.ntmps148
  go_wp2
  go_ret
  exact ⟨rfl, (Below.refl _ _).alloc (Nat.le_refl _) _⟩
end Go.Proofs.YtjflfhjnbccpmaaGreatDoor
namespace Go.Proofs.YtjflfhjnbccpmaaGreatDoor
open Go.RowKit
set_option maxHeartbeats 1600000 in
theorem c_expire (A : Option Addr) (n c : Nat) (l : List Mpg) (now hold : Int) (w : World) (hn : l.length = n) (h : TM w A l) (hl : n ≤ 1048576)
    (hb : ∀ k, k < l.length → -4611686018427387904 ≤ now - (mn l k).la ∧ now - (mn l k).la ≤ 4611686018427387904) :
    Calls Tryz.prog 151 #[.slice A n c, .int .i64 now, .int .i64 hold] w (NewM (exM l now hold n) w) := by
  have HN := Lib.hid hn
  have HA : Hid (∀ W, Below w.heap.size w W → TM W A l) := fun W b => h.to b
  have HBD := Lib.hid hb
  clear hn h hb
  have ho : MO (w.alloc (.cells #[] 84)) w.heap.size (.slice (some ⟨w.heap.size, 0, none⟩) 0 0) [] := MO.empty (Nat.le_refl _) rfl
  have B0 : Below w.heap.size w (w.alloc (.cells #[] 84)) := (Below.refl _ _).alloc (Nat.le_refl _) _
  go_enter Tryz.func151, Tryz.ntmps151
  go_wp2
  go_loopw [7, 8] (fun v i wr => ∃ (k : Nat) (v' : Value), k ≤ n ∧ i = .int .i64 k ∧ v' = v ∧ Hid (MO wr w.heap.size v' (exM l now hold k)) ∧ Hid (Below w.heap.size w wr)) (fun _ i _ => n - (intOf i).toNat)
  case atStart => exact ⟨0, _, Nat.zero_le _, rfl, rfl, ho, B0⟩
  case round =>
    clear ho B0
    obtain ⟨k, v', hk, rfl, rfl, HO, HW⟩ := hrel
    by_cases hlt : k < n
    · have hkl : Hid (k < l.length) := Lib.hid (by rw [HN.out]; exact hlt)
      obtain ⟨b0, off, rfl, hb0, c0, c1, c2, c3⟩ := (HA.out _ HW.out).get hkl.out
      have hs := exM_succ (l := l) (now := now) (hold := hold) hkl.out
      have hml := exM_len l now hold k
      go_wp2_with fail
      refine (c_expired (mn l k) now hold _ (HBD.out k hkl.out).1 (HBD.out k hkl.out).2).mono ?_
      rintro e w1 ⟨rfl, hq⟩
      have ho1 := HO.out.to hq
      have B1 := Bl.then HW.out hq
      clear c0 c1 c2 c3 hq
      by_cases hh : hold ≤ now - (mn l k).la
      · have t0 : decide (hold ≤ now - (mn l k).la) = true := by rw [decide_eq_true_eq]; exact hh
        rw [if_pos hh, List.append_nil] at hs
        have HSS := Lib.hid hs
        clear hs hh
        go_wp2
        go_roundw
        case rel => exact ⟨k + 1, v', by omega, by go_num, rfl, by rw [HSS.out]; exact ho1, B1⟩
        case measure => simp [intOf]; omega
      · have t0 : decide (hold ≤ now - (mn l k).la) = false := by rw [decide_eq_false_iff_not]; exact hh
        rw [if_neg hh] at hs
        have HSS := Lib.hid hs
        clear hs hh
        obtain ⟨b0', off', e', -, c0, c1, c2, c3⟩ := (HA.out _ B1).get hkl.out
        cases e'
        have s1 := B1.size
        generalize hlle : exM l now hold k = ll at ho1 hml
        have HLL := Lib.hid hlle
        clear hlle
        have hL : TM (w1.alloc (.cells #[.int .i64 (mn l k).ad, .int .i64 (mn l k).ep, .int .i64 (mn l k).po, .int .i64 (mn l k).la] 84)) (some ⟨w1.heap.size, 0, none⟩) [mn l k] := lit_map (w := w1) (mn l k) rfl rfl
        have hoR : (w1.alloc (.cells #[.int .i64 (mn l k).ad, .int .i64 (mn l k).ep, .int .i64 (mn l k).po, .int .i64 (mn l k).la] 84)).ownsRow w.heap.size 84 4 v' ll.length (mapCs ll) := World.ownsRow.alloc ho1 _
        have hnl := mapCs_len [mn l k]
        have hnc := mapCs_one [mn l k]
        unfold TM at hL
        generalize hnle : mapCs [mn l k] = nl at hnl hnc hL
        have HNL := Lib.hid hnle
        clear hnle
        go_wp2_with (at_builtin; go_must (obtain ⟨i0, hi, hz0, hz1, hz2⟩ := info_parts mapT_info; refine wpList_append_rd _ rfl _ _ 41 rfl w.heap.size 84 i0 _ 4 32 Tryz.underlying41 hi hz0 hz1 hz2 rfl (by omega) _ ll.length (mapCs ll) rfl hoR (some ⟨w1.heap.size, 0, none⟩) 1 1 nl rfl hL hnl hnc (by unfold maxLen; omega) (by omega) (by simp; omega) ?_; intro v1 w5 ho5 hg5 hat5; clear hi hz0 hz1 hz2 hat5))
        have B5 := (B1.alloc B1.size (.cells #[.int .i64 (mn l k).ad, .int .i64 (mn l k).ep, .int .i64 (mn l k).po, .int .i64 (mn l k).la] 84)).grown hg5 (by have := B1.size; simp; omega) (fun j hj => (World.ownsRow.lt hoR j hj).1)
        go_roundw
        case rel =>
          refine ⟨k + 1, v1, by omega, by go_num, rfl, ?_, B5⟩
          rw [HSS.out, HLL.out]
          show MO _ _ _ _
          unfold MO
          rw [mapCs_app, HNL.out, List.length_append]
          exact ho5
        case measure => simp [intOf]; omega
    · obtain rfl : k = n := by omega
      go_wp2
      go_ret
      exact ⟨v', rfl, HO.out, HW.out⟩
/-- A table with a mapping of an end, and its port. -/
def mapT (l : List Mpg) (n : Nat) (x y now : Int) : Option (List Mpg × Int) :=
  if 0 ≤ byE l x y n then some (l.set (byE l x y n).toNat { mn l (byE l x y n).toNat with la := max (mn l (byE l x y n).toNat).la now }, (mn l (byE l x y n).toNat).po)
  else if fpt l n y < 0 then none else some (l ++ [⟨x, y, fpt l n y, now⟩], fpt l n y)
/-- What mapEnd hands back. -/
def EndM (q : Option (List Mpg × Int)) (w : World) (e : Ending) (w' : World) : Prop :=
  Below w.heap.size w w' ∧ match q with
    | none => e = .returned (.tuple #[.slice none 0 0, .int .i64 (-1), .bool false])
    | some (l', p) => ∃ v, e = .returned (.tuple #[v, .int .i64 p, .bool true]) ∧ MO w' w.heap.size v l'
theorem mapCs_set {l : List Mpg} {k : Nat} (hk : k < l.length) (t : Int) : (mapCs l).set (k * 4 + 3) (.int .i64 t) = mapCs (l.set k { mn l k with la := t }) := by
  apply List.ext_getElem?
  intro j
  by_cases hj : j < l.length * 4
  · have e : j = j / 4 * 4 + j % 4 := by omega
    have hi4 : j % 4 < 4 := Nat.mod_lt _ (by omega)
    have hjl : j / 4 < l.length := by omega
    generalize j / 4 = q at e hjl
    generalize j % 4 = i at e hi4
    subst e
    rw [mapCs_at (by rw [List.length_set]; exact hjl) hi4, List.getElem?_set]
    have hset : mn (l.set k { mn l k with la := t }) q = if k = q then { mn l k with la := t } else mn l q := by
      unfold mn
      rw [List.getElem?_set]
      by_cases h : k = q
      · subst h
        rw [if_pos rfl, if_pos rfl, if_pos hk]; rfl
      · rw [if_neg h, if_neg h]
    rw [hset]
    by_cases hq : k = q
    · subst hq
      rw [if_pos rfl]
      by_cases hi : i = 3
      · subst hi
        rw [if_pos rfl, if_pos (by rw [mapCs_len]; omega)]; rfl
      · rw [if_neg (by omega), mapCs_at hk hi4]
        rcases i with _ | _ | _ | i
        · rfl
        · rfl
        · rfl
        · omega
    · rw [if_neg hq, if_neg (by omega), mapCs_at hjl hi4]
  · rw [List.getElem?_eq_none (by rw [List.length_set, mapCs_len]; omega), List.getElem?_eq_none (by rw [mapCs_len, List.length_set]; omega)]
end Go.Proofs.YtjflfhjnbccpmaaGreatDoor
namespace Go.Proofs
open Go.Shelf
def Tryz.lays156_ren : Go.Shelf.Ren := ⟨fun | 156 => 47 | 165 => 78 | 166 => 20 | 169 => 22 | 240 => 24 | 241 => 130 | 276 => 37 | 277 => 168 | n => n, fun | 31 => 23 | 9 => 9 | 3 => 3 | 4 => 4 | 0 => 0 | 20 => 20 | 72 => 47 | 76 => 50 | 70 => 45 | 37 => 22 | 75 => 49 | 127 => 64 | 164 => 66 | 5 => 5 | 80 => 53 | n => n, fun | n => n⟩
theorem Tryz.lays156 : Go.Proofs.Lays.n156 Tryz.prog Tryz.lays156_ren := {
  mixed := by kernel_rfl
  f156 := Tryz.func47.trans (congrArg some (by kernel_rfl))
  f165 := Tryz.func78.trans (congrArg some (by kernel_rfl))
  f166 := Tryz.func20.trans (congrArg some (by kernel_rfl))
  f169 := Tryz.func22.trans (congrArg some (by kernel_rfl))
  f240 := Tryz.func24.trans (congrArg some (by kernel_rfl))
  f241 := Tryz.func130.trans (congrArg some (by kernel_rfl))
  f276 := Tryz.func37.trans (congrArg some (by kernel_rfl))
  f277 := Tryz.func168.trans (congrArg some (by kernel_rfl))
  t0 := Tryz.underlying0
  a0 := Tryz.isAgg0
  z0 := Tryz.sizeOf0
  v0 := Tryz.zeroValue0
  t3 := Tryz.underlying3
  a3 := Tryz.isAgg3
  z3 := Tryz.sizeOf3
  v3 := Tryz.zeroValue3
  t4 := Tryz.underlying4
  a4 := Tryz.isAgg4
  z4 := Tryz.sizeOf4
  v4 := Tryz.zeroValue4
  t9 := Tryz.underlying9
  a9 := Tryz.isAgg9
  z9 := Tryz.sizeOf9
  v9 := Tryz.zeroValue9
  t20 := Tryz.underlying20
  a20 := Tryz.isAgg20
  z20 := Tryz.sizeOf20
  v20 := Tryz.zeroValue20
  t31 := Tryz.underlying23
  a31 := Tryz.isAgg23
  z31 := Tryz.sizeOf23
  v31 := Tryz.zeroValue23
  t37 := Tryz.underlying22
  a37 := Tryz.isAgg22
  z37 := Tryz.sizeOf22
  v37 := Tryz.zeroValue22
  t70 := Tryz.underlying45
  a70 := Tryz.isAgg45
  z70 := Tryz.sizeOf45
  v70 := Tryz.zeroValue45
  t72 := Tryz.underlying47
  a72 := Tryz.isAgg47
  z72 := Tryz.sizeOf47
  v72 := Tryz.zeroValue47
  t75 := Tryz.underlying49
  a75 := Tryz.isAgg49
  z75 := Tryz.sizeOf49
  v75 := Tryz.zeroValue49
  t76 := Tryz.underlying50
  a76 := Tryz.isAgg50
  z76 := Tryz.sizeOf50
  v76 := Tryz.zeroValue50
  t127 := Tryz.underlying64
  a127 := Tryz.isAgg64
  z127 := Tryz.sizeOf64
  v127 := Tryz.zeroValue64
  t164 := Tryz.underlying66
  a164 := Tryz.isAgg66
  z164 := Tryz.sizeOf66
  v164 := Tryz.zeroValue66 }
theorem Tryz.Builder_Extra_156 : Builder.Extra Tryz.prog Tryz.lays156_ren := {
  sizeBuilder := by kernel_rfl
  liesBuilder := by kernel_rfl
  t5 := Tryz.underlying5
  a5 := Tryz.isAgg5
  z5 := Tryz.sizeOf5
  v5 := Tryz.zeroValue5
  infoByte := by kernel_rfl
  cellsByte := by kernel_rfl
  sizeByte := by kernel_rfl
  neB5 := by decide }
open Go.RowKit in
/-- No element: the empty string; the world is as it was. (Whatever the slice's address and capacity: a nil slice too.) (LAID: no walk: one application.) -/
theorem Tryz.strings_Join_none (a : Option Addr) (c : Nat) (sep : ByteArray) (w : World) :
    Calls Tryz.prog 47 #[.slice a 0 c, .string sep] w fun e w' => e = .returned (.string ⟨#[]⟩) ∧ w' = w := Any.strings_Join_none Tryz.lays156 Tryz.Builder_Extra_156 a c sep w
open Go.RowKit in
/-- strings.Join: "Join concatenates the elements of its first argument to create a single string. The separator string sep is placed between elements in the resulting string.": HOWEVER MANY ELEMENTS. Below the heap's end the world is as it was. (LAID: no walk: one application.) -/
theorem Tryz.strings_Join (bk o c : Nat) (xs : List ByteArray) (sep : ByteArray) (w : World) (hcells : ∀ (j : Nat) x, xs[j]? = some x → w.cell? ⟨bk, o + j, none⟩ = some (.string x)) (hbk : bk < w.heap.size) (hN : xs.length ≤ 140737488355328) (hcap : xs.length ≤ c) (hlen : (Lib.join (xs.map (·.data.toList)) sep.data.toList).length ≤ 140737488355328) :
    Calls Tryz.prog 47 #[.slice (some ⟨bk, o, none⟩) xs.length c, .string sep] w fun e w' => e = .returned (.string ⟨(Lib.join (xs.map (·.data.toList)) sep.data.toList).toArray⟩) ∧ Below w.heap.size w w' := Any.strings_Join Tryz.lays156 Tryz.Builder_Extra_156 bk o c xs sep w hcells hbk hN hcap hlen
def Tryz.laysM171_ren : Go.Shelf.Ren := ⟨fun | 171 => 31 | 243 => 48 | 246 => 79 | 283 => 131 | 284 => 132 | 285 => 133 | 286 => 134 | 129 => 170 | 317 => 169 | 318 => 171 | 319 => 172 | 320 => 173 | 337 => 188 | 338 => 189 | n => n, fun | 3 => 3 | 9 => 9 | 2 => 2 | 4 => 4 | 171 => 137 | 0 => 0 | 53 => 138 | 37 => 22 | 5 => 5 | 173 => 141 | 212 => 164 | 51 => 165 | 20 => 20 | 213 => 166 | 46 => 151 | 232 => 183 | 233 => 184 | n => n, fun | 17 => 3 | 18 => 6 | 19 => 7 | n => n⟩
theorem Tryz.laysM171 : Go.Proofs.LaysM.n171 Tryz.prog Tryz.laysM171_ren := {
  mixed := by kernel_rfl
  f129 := Tryz.func170.trans (congrArg some (by kernel_rfl))
  f171 := Tryz.func31.trans (congrArg some (by kernel_rfl))
  f243 := Tryz.func48.trans (congrArg some (by kernel_rfl))
  f246 := Tryz.func79.trans (congrArg some (by kernel_rfl))
  f283 := Tryz.func131.trans (congrArg some (by kernel_rfl))
  f284 := Tryz.func132.trans (congrArg some (by kernel_rfl))
  f285 := Tryz.func133.trans (congrArg some (by kernel_rfl))
  f286 := Tryz.func134.trans (congrArg some (by kernel_rfl))
  f317 := Tryz.func169.trans (congrArg some (by kernel_rfl))
  f318 := Tryz.func171.trans (congrArg some (by kernel_rfl))
  f319 := Tryz.func172.trans (congrArg some (by kernel_rfl))
  f320 := Tryz.func173.trans (congrArg some (by kernel_rfl))
  f337 := Tryz.func188.trans (congrArg some (by kernel_rfl))
  f338 := Tryz.func189.trans (congrArg some (by kernel_rfl))
  t0 := Tryz.underlying0
  a0 := Tryz.isAgg0
  z0 := Tryz.sizeOf0
  v0 := Tryz.zeroValue0
  t2 := Tryz.underlying2
  a2 := Tryz.isAgg2
  z2 := Tryz.sizeOf2
  v2 := Tryz.zeroValue2
  t3 := Tryz.underlying3
  a3 := Tryz.isAgg3
  z3 := Tryz.sizeOf3
  v3 := Tryz.zeroValue3
  t4 := Tryz.underlying4
  a4 := Tryz.isAgg4
  z4 := Tryz.sizeOf4
  v4 := Tryz.zeroValue4
  t5 := Tryz.underlying5
  a5 := Tryz.isAgg5
  z5 := Tryz.sizeOf5
  v5 := Tryz.zeroValue5
  t9 := Tryz.underlying9
  a9 := Tryz.isAgg9
  z9 := Tryz.sizeOf9
  v9 := Tryz.zeroValue9
  t20 := Tryz.underlying20
  a20 := Tryz.isAgg20
  z20 := Tryz.sizeOf20
  v20 := Tryz.zeroValue20
  t37 := Tryz.underlying22
  a37 := Tryz.isAgg22
  z37 := Tryz.sizeOf22
  v37 := Tryz.zeroValue22
  t46 := Tryz.underlying151
  a46 := Tryz.isAgg151
  z46 := Tryz.sizeOf151
  v46 := Tryz.zeroValue151
  t51 := Tryz.underlying165
  a51 := Tryz.isAgg165
  z51 := Tryz.sizeOf165
  v51 := Tryz.zeroValue165
  t53 := Tryz.underlying138
  a53 := Tryz.isAgg138
  z53 := Tryz.sizeOf138
  v53 := Tryz.zeroValue138
  t171 := Tryz.underlying137
  a171 := Tryz.isAgg137
  z171 := Tryz.sizeOf137
  v171 := Tryz.zeroValue137
  t173 := Tryz.underlying141
  a173 := Tryz.isAgg141
  z173 := Tryz.sizeOf141
  v173 := Tryz.zeroValue141
  t212 := Tryz.underlying164
  a212 := Tryz.isAgg164
  z212 := Tryz.sizeOf164
  v212 := Tryz.zeroValue164
  t213 := Tryz.underlying166
  a213 := Tryz.isAgg166
  z213 := Tryz.sizeOf166
  t232 := Tryz.underlying183
  a232 := Tryz.isAgg183
  z232 := Tryz.sizeOf183
  v232 := Tryz.zeroValue183
  t233 := Tryz.underlying184
  a233 := Tryz.isAgg184
  z233 := Tryz.sizeOf184
  v233 := Tryz.zeroValue184
  g17 := by kernel_rfl
  g18 := by kernel_rfl
  g19 := by kernel_rfl
  i0 := by kernel_rfl
  i2 := by kernel_rfl
  i3 := by kernel_rfl
  i4 := by kernel_rfl
  i5 := by kernel_rfl
  i9 := by kernel_rfl
  i20 := by kernel_rfl
  i37 := by kernel_rfl
  i46 := by kernel_rfl
  i51 := by kernel_rfl
  i53 := by kernel_rfl
  i171 := by kernel_rfl
  i173 := by kernel_rfl
  i212 := by kernel_rfl
  i232 := by kernel_rfl
  i233 := by kernel_rfl
  m17 := by kernel_rfl
  m18 := by kernel_rfl
  m19 := by kernel_rfl }
open Go.RowKit Go.Sort Go.Lib in
/-- strconv.Itoa: "Itoa is equivalent to FormatInt(int64(i), 10).": i's DECIMAL NUMERAL ('Lib.itoa': a '-' where i is negative, then the digits), FOR EVERY int. The world behind the call: the world before it, new blocks behind the heap (the library's 'var a [24]byte'), draws. (LAID: no walk: one application.) -/
theorem Tryz.strconv_Itoa (n : Int) (h0 : -9223372036854775808 ≤ n) (h1 : n ≤ 9223372036854775807) (w : World) (htab : Lib.TabIs Tryz.prog w "internal/strconv.uint64pow10" .u64 Lib.pow10Tab) :
    Calls Tryz.prog 31 #[.int .i64 n] w fun e w' => e = .returned (.string ⟨(Lib.itoa n).toArray⟩) ∧ ∃ k os, w' = grow (w.drewN k) os := Any.strconv_Itoa Tryz.laysM171 n h0 h1 w htab
def Tryz.laysC172_ren : Go.Shelf.Ren := ⟨fun | 172 => 39 | 244 => 59 | 245 => 60 | 247 => 93 | 279 => 94 | 280 => 95 | 281 => 96 | 282 => 97 | 287 => 157 | 316 => 158 | 171 => 31 | 205 => 159 | 321 => 182 | 322 => 183 | 243 => 48 | 246 => 79 | 283 => 131 | 284 => 132 | 285 => 133 | 286 => 134 | 129 => 170 | 317 => 169 | 318 => 171 | 319 => 172 | 320 => 173 | 337 => 188 | 338 => 189 | n => n, fun | 9 => 9 | 3 => 3 | 75 => 49 | 76 => 50 | 4 => 4 | 5 => 5 | 167 => 109 | 37 => 22 | 0 => 0 | 85 => 110 | 2 => 2 | 168 => 112 | 53 => 138 | 175 => 152 | 46 => 151 | 210 => 155 | 127 => 64 | 145 => 180 | 143 => 178 | 21 => 21 | 171 => 137 | 173 => 141 | 212 => 164 | 51 => 165 | 20 => 20 | 213 => 166 | 232 => 183 | 233 => 184 | 80 => 53 | n => n, fun | 15 => 1 | 16 => 2 | 17 => 3 | 18 => 6 | 19 => 7 | n => n⟩
theorem Tryz.laysC172 : Go.Proofs.LaysC.n172 Tryz.prog Tryz.laysC172_ren := {
  mixed := by kernel_rfl
  f129 := Tryz.func170.trans (congrArg some (by kernel_rfl))
  f171 := Tryz.func31.trans (congrArg some (by kernel_rfl))
  f172 := Tryz.func39.trans (congrArg some (by kernel_rfl))
  f205 := Tryz.func159.trans (congrArg some (by kernel_rfl))
  f243 := Tryz.func48.trans (congrArg some (by kernel_rfl))
  f244 := Tryz.func59.trans (congrArg some (by kernel_rfl))
  f245 := Tryz.func60.trans (congrArg some (by kernel_rfl))
  f246 := Tryz.func79.trans (congrArg some (by kernel_rfl))
  f247 := Tryz.func93.trans (congrArg some (by kernel_rfl))
  f279 := Tryz.func94.trans (congrArg some (by kernel_rfl))
  f280 := Tryz.func95.trans (congrArg some (by kernel_rfl))
  f281 := Tryz.func96.trans (congrArg some (by kernel_rfl))
  f282 := Tryz.func97.trans (congrArg some (by kernel_rfl))
  f283 := Tryz.func131.trans (congrArg some (by kernel_rfl))
  f284 := Tryz.func132.trans (congrArg some (by kernel_rfl))
  f285 := Tryz.func133.trans (congrArg some (by kernel_rfl))
  f286 := Tryz.func134.trans (congrArg some (by kernel_rfl))
  f287 := Tryz.func157.trans (congrArg some (by kernel_rfl))
  f316 := Tryz.func158.trans (congrArg some (by kernel_rfl))
  f317 := Tryz.func169.trans (congrArg some (by kernel_rfl))
  f318 := Tryz.func171.trans (congrArg some (by kernel_rfl))
  f319 := Tryz.func172.trans (congrArg some (by kernel_rfl))
  f320 := Tryz.func173.trans (congrArg some (by kernel_rfl))
  f321 := Tryz.func182.trans (congrArg some (by kernel_rfl))
  f322 := Tryz.func183.trans (congrArg some (by kernel_rfl))
  f337 := Tryz.func188.trans (congrArg some (by kernel_rfl))
  f338 := Tryz.func189.trans (congrArg some (by kernel_rfl))
  t0 := Tryz.underlying0
  a0 := Tryz.isAgg0
  z0 := Tryz.sizeOf0
  v0 := Tryz.zeroValue0
  t2 := Tryz.underlying2
  a2 := Tryz.isAgg2
  z2 := Tryz.sizeOf2
  v2 := Tryz.zeroValue2
  t3 := Tryz.underlying3
  a3 := Tryz.isAgg3
  z3 := Tryz.sizeOf3
  v3 := Tryz.zeroValue3
  t4 := Tryz.underlying4
  a4 := Tryz.isAgg4
  z4 := Tryz.sizeOf4
  v4 := Tryz.zeroValue4
  t5 := Tryz.underlying5
  a5 := Tryz.isAgg5
  z5 := Tryz.sizeOf5
  v5 := Tryz.zeroValue5
  t9 := Tryz.underlying9
  a9 := Tryz.isAgg9
  z9 := Tryz.sizeOf9
  v9 := Tryz.zeroValue9
  t20 := Tryz.underlying20
  a20 := Tryz.isAgg20
  z20 := Tryz.sizeOf20
  v20 := Tryz.zeroValue20
  t21 := Tryz.underlying21
  a21 := Tryz.isAgg21
  z21 := Tryz.sizeOf21
  v21 := Tryz.zeroValue21
  t37 := Tryz.underlying22
  a37 := Tryz.isAgg22
  z37 := Tryz.sizeOf22
  v37 := Tryz.zeroValue22
  t46 := Tryz.underlying151
  a46 := Tryz.isAgg151
  z46 := Tryz.sizeOf151
  v46 := Tryz.zeroValue151
  t51 := Tryz.underlying165
  a51 := Tryz.isAgg165
  z51 := Tryz.sizeOf165
  v51 := Tryz.zeroValue165
  t53 := Tryz.underlying138
  a53 := Tryz.isAgg138
  z53 := Tryz.sizeOf138
  v53 := Tryz.zeroValue138
  t75 := Tryz.underlying49
  a75 := Tryz.isAgg49
  z75 := Tryz.sizeOf49
  v75 := Tryz.zeroValue49
  t76 := Tryz.underlying50
  a76 := Tryz.isAgg50
  z76 := Tryz.sizeOf50
  v76 := Tryz.zeroValue50
  t85 := Tryz.underlying110
  a85 := Tryz.isAgg110
  z85 := Tryz.sizeOf110
  v85 := Tryz.zeroValue110
  t127 := Tryz.underlying64
  a127 := Tryz.isAgg64
  z127 := Tryz.sizeOf64
  v127 := Tryz.zeroValue64
  t143 := Tryz.underlying178
  a143 := Tryz.isAgg178
  z143 := Tryz.sizeOf178
  v143 := Tryz.zeroValue178
  t145 := Tryz.underlying180
  a145 := Tryz.isAgg180
  z145 := Tryz.sizeOf180
  v145 := Tryz.zeroValue180
  t167 := Tryz.underlying109
  a167 := Tryz.isAgg109
  z167 := Tryz.sizeOf109
  v167 := Tryz.zeroValue109
  t168 := Tryz.underlying112
  a168 := Tryz.isAgg112
  z168 := Tryz.sizeOf112
  v168 := Tryz.zeroValue112
  t171 := Tryz.underlying137
  a171 := Tryz.isAgg137
  z171 := Tryz.sizeOf137
  v171 := Tryz.zeroValue137
  t173 := Tryz.underlying141
  a173 := Tryz.isAgg141
  z173 := Tryz.sizeOf141
  v173 := Tryz.zeroValue141
  t175 := Tryz.underlying152
  a175 := Tryz.isAgg152
  z175 := Tryz.sizeOf152
  v175 := Tryz.zeroValue152
  t210 := Tryz.underlying155
  a210 := Tryz.isAgg155
  z210 := Tryz.sizeOf155
  v210 := Tryz.zeroValue155
  t212 := Tryz.underlying164
  a212 := Tryz.isAgg164
  z212 := Tryz.sizeOf164
  v212 := Tryz.zeroValue164
  t213 := Tryz.underlying166
  a213 := Tryz.isAgg166
  z213 := Tryz.sizeOf166
  t232 := Tryz.underlying183
  a232 := Tryz.isAgg183
  z232 := Tryz.sizeOf183
  v232 := Tryz.zeroValue183
  t233 := Tryz.underlying184
  a233 := Tryz.isAgg184
  z233 := Tryz.sizeOf184
  v233 := Tryz.zeroValue184
  g15 := by kernel_rfl
  g16 := by kernel_rfl
  g17 := by kernel_rfl
  g18 := by kernel_rfl
  g19 := by kernel_rfl
  t80 := Tryz.underlying53
  a80 := Tryz.isAgg53
  z80 := Tryz.sizeOf53
  v80 := Tryz.zeroValue53
  i0 := by kernel_rfl
  i2 := by kernel_rfl
  i3 := by kernel_rfl
  i4 := by kernel_rfl
  i5 := by kernel_rfl
  i9 := by kernel_rfl
  i20 := by kernel_rfl
  i21 := by kernel_rfl
  i37 := by kernel_rfl
  i46 := by kernel_rfl
  i51 := by kernel_rfl
  i53 := by kernel_rfl
  i75 := by kernel_rfl
  i76 := by kernel_rfl
  i80 := by kernel_rfl
  i85 := by kernel_rfl
  i127 := by kernel_rfl
  i143 := by kernel_rfl
  i145 := by kernel_rfl
  i167 := by kernel_rfl
  i168 := by kernel_rfl
  i171 := by kernel_rfl
  i173 := by kernel_rfl
  i175 := by kernel_rfl
  i210 := by kernel_rfl
  i212 := by kernel_rfl
  i232 := by kernel_rfl
  i233 := by kernel_rfl
  m15 := by kernel_rfl
  m16 := by kernel_rfl
  m17 := by kernel_rfl
  m18 := by kernel_rfl
  m19 := by kernel_rfl
  c0 := by kernel_rfl
  c2 := by kernel_rfl
  c3 := by kernel_rfl
  c4 := by kernel_rfl
  c5 := by kernel_rfl
  c9 := by kernel_rfl
  c20 := by kernel_rfl
  c21 := by kernel_rfl
  c37 := by kernel_rfl
  c46 := by kernel_rfl
  c51 := by kernel_rfl
  c53 := by kernel_rfl
  c75 := by kernel_rfl
  c76 := by kernel_rfl
  c80 := by kernel_rfl
  c85 := by kernel_rfl
  c127 := by kernel_rfl
  c143 := by kernel_rfl
  c145 := by kernel_rfl
  c167 := by kernel_rfl
  c168 := by kernel_rfl
  c171 := by kernel_rfl
  c173 := by kernel_rfl
  c175 := by kernel_rfl
  c210 := by kernel_rfl
  c212 := by kernel_rfl
  c213 := by kernel_rfl
  c232 := by kernel_rfl
  c233 := by kernel_rfl }
open Go.RowKit in
/-- strconv.Atoi, AT EVERY STRING THAT SPELLS AN int ('Lib.atoiAll .. = .ok v'; of whatever length: leading zeros count): v, AND NO ERROR. The world: as it was, or with the one new row that '[]byte(..)' lays. (LAID: no walk: one application.) -/
theorem Tryz.strconv_Atoi_ok (s : ByteArray) (hmax : s.size ≤ 9223372036854775806) (v : Int) (h : Lib.atoiAll s.data.toList = .ok v) (w : World) :
    Calls Tryz.prog 39 #[.string s] w fun e w' => e = .returned (.tuple #[.int .i64 v, .nilIface]) ∧ (w' = w ∨ ∃ t, w' = Lib.bytesWorld w 5 t) := Any.strconv_Atoi_ok Tryz.laysC172 s hmax v h w
open Go.RowKit in
theorem Tryz.strconv_Atoi_syntax_var (s : ByteArray) (hlim : s.size ≤ 281474976710656) (hok : ∀ v, Lib.atoiAll s.data.toList ≠ .ok v) (hra : Lib.atoiAll s.data.toList ≠ .range) (tp : TypeId) (p : Value) (w : World) (hvar : w.var? Tryz.prog "strconv.ErrSyntax" = some #[.iface tp p]) :
    Calls Tryz.prog 39 #[.string s] w fun e w' => ∃ N, e = .returned (.tuple #[.int .i64 0, .iface 112 (.pointer (some ⟨N, 0, none⟩))]) ∧ w.heap.size ≤ N ∧ w'.heap[N]? = some (.cells #[.string ⟨#[65, 116, 111, 105]⟩, .string s, .iface tp p] 155 (0, 0)) ∧ Below w.heap.size w w' := by
  rcases h : Lib.atoiAll s.data.toList with v | _ | _
  · exact absurd h (hok v)
  · exact Any.strconv_Atoi_syntax_var Tryz.laysC172 s hlim h tp p w hvar
  · exact absurd h hra
open Go.RowKit in
theorem Tryz.strconv_Atoi_range_var (s : ByteArray) (hlim : s.size ≤ 281474976710656) (h : Lib.atoiAll s.data.toList = .range) (tp : TypeId) (p : Value) (w : World) (hvar : w.var? Tryz.prog "strconv.ErrRange" = some #[.iface tp p]) :
    Calls Tryz.prog 39 #[.string s] w fun e w' => ∃ N, e = .returned (.tuple #[.int .i64 (Lib.atoiSat s.data.toList), .iface 112 (.pointer (some ⟨N, 0, none⟩))]) ∧ w.heap.size ≤ N ∧ w'.heap[N]? = some (.cells #[.string ⟨#[65, 116, 111, 105]⟩, .string s, .iface tp p] 155 (0, 0)) ∧ Below w.heap.size w w' := Any.strconv_Atoi_range_var Tryz.laysC172 s hlim h tp p w hvar
def Tryz.laysM145_ren : Go.Shelf.Ren := ⟨fun | 145 => 61 | 220 => 98 | 219 => 92 | 217 => 153 | 225 => 154 | 224 => 155 | 267 => 156 | 266 => 180 | 314 => 181 | n => n, fun | 9 => 9 | 4 => 4 | 59 => 90 | 3 => 3 | 5 => 5 | 46 => 151 | 146 => 174 | 51 => 165 | n => n, fun | 1 => 0 | n => n⟩
theorem Tryz.laysM145 : Go.Proofs.LaysM.n145 Tryz.prog Tryz.laysM145_ren := {
  mixed := by kernel_rfl
  f145 := Tryz.func61.trans (congrArg some (by kernel_rfl))
  f217 := Tryz.func153.trans (congrArg some (by kernel_rfl))
  f219 := Tryz.func92.trans (congrArg some (by kernel_rfl))
  f220 := Tryz.func98.trans (congrArg some (by kernel_rfl))
  f224 := Tryz.func155.trans (congrArg some (by kernel_rfl))
  f225 := Tryz.func154.trans (congrArg some (by kernel_rfl))
  f266 := Tryz.func180.trans (congrArg some (by kernel_rfl))
  f267 := Tryz.func156.trans (congrArg some (by kernel_rfl))
  f314 := Tryz.func181.trans (congrArg some (by kernel_rfl))
  t3 := Tryz.underlying3
  a3 := Tryz.isAgg3
  z3 := Tryz.sizeOf3
  v3 := Tryz.zeroValue3
  t4 := Tryz.underlying4
  a4 := Tryz.isAgg4
  z4 := Tryz.sizeOf4
  v4 := Tryz.zeroValue4
  t5 := Tryz.underlying5
  a5 := Tryz.isAgg5
  z5 := Tryz.sizeOf5
  v5 := Tryz.zeroValue5
  t9 := Tryz.underlying9
  a9 := Tryz.isAgg9
  z9 := Tryz.sizeOf9
  v9 := Tryz.zeroValue9
  t46 := Tryz.underlying151
  a46 := Tryz.isAgg151
  z46 := Tryz.sizeOf151
  v46 := Tryz.zeroValue151
  t51 := Tryz.underlying165
  a51 := Tryz.isAgg165
  z51 := Tryz.sizeOf165
  v51 := Tryz.zeroValue165
  t59 := Tryz.underlying90
  a59 := Tryz.isAgg90
  z59 := Tryz.sizeOf90
  v59 := Tryz.zeroValue90
  t146 := Tryz.underlying174
  a146 := Tryz.isAgg174
  z146 := Tryz.sizeOf174
  v146 := Tryz.zeroValue174
  g1 := by kernel_rfl
  i3 := by kernel_rfl
  i4 := by kernel_rfl
  i5 := by kernel_rfl
  i9 := by kernel_rfl
  i46 := by kernel_rfl
  i51 := by kernel_rfl
  i59 := by kernel_rfl
  i146 := by kernel_rfl
  m1 := by kernel_rfl
  s1_3 := fun w h => Go.Proofs.cell_of_shapedOpen_int (zero := #[.int .i64 0]) (t := 3) h (of_decide_eq_true (by kernel_rfl)) (by kernel_rfl) rfl (by kernel_rfl) (by kernel_rfl) Tryz.underlying3 }
end Go.Proofs
namespace Go.Proofs.YtjflfhjnbccpmaaGreatDoor
open Go.RowKit
/-- The decimal numeral of a number that is not negative. -/
def dec (n : Int) : ByteArray := ⟨(Lib.decDigits n.toNat).toArray⟩
theorem dec_small {n : Nat} (h : n < 10) : dec n = ⟨#[UInt8.ofNat (48 + n)]⟩ := by
  unfold dec
  rw [Int.toNat_natCast, Lib.decDigits, dif_pos h]
theorem dec_big {n : Nat} (h : ¬ n < 10) : dec n = dec ((n / 10 : Nat) : Int) ++ ⟨#[UInt8.ofNat (48 + n % 10)]⟩ := by
  unfold dec
  rw [Int.toNat_natCast, Int.toNat_natCast, Lib.decDigits, dif_neg h]
  apply ByteArray.ext
  rw [ByteArray.data_append]
  simp
theorem digits_len : ∀ u : Nat, (Lib.decDigits u).length ≤ u + 1 := by
  intro u
  induction u using Nat.strongRecOn with
  | ind u ih =>
    rw [Lib.decDigits]
    split
    · simp
    · have := ih (u / 10) (by omega)
      rw [List.length_append]
      simp
      omega
theorem dec_size (n : Int) : (dec n).size ≤ n.toNat + 1 := by
  have := digits_len n.toNat
  show (Lib.decDigits n.toNat).toArray.size ≤ _
  simpa using this
theorem var_to {P : Program} {w w' : World} {n : String} {cs : Array Value} (h : w.var? P n = some cs) (hb : Below w.heap.size w w') : w'.var? P n = some cs := by
  unfold World.var? at h ⊢
  cases hg : P.globalNamed n with
  | none => rw [hg] at h; cases h
  | some g =>
    rw [hg] at h
    simp only [Option.bind_some] at h ⊢
    have hlt : g < w.heap.size := by
      rcases Nat.lt_or_ge g w.heap.size with h' | h'
      · exact h'
      · rw [Array.getElem?_eq_none h'] at h; cases h
    rw [hb.block g hlt]
    exact h
/-- The table of powers of ten is laid. -/
def TabE (w : World) : Prop := Lib.TabIs Tryz.prog w "internal/strconv.uint64pow10" .u64 Lib.pow10Tab
theorem TabE.to {w w' : World} (h : TabE w) (hb : Below w.heap.size w w') : TabE w' := var_to h hb
theorem below_grow (w : World) (k : Nat) (os : Array Obj) : Below w.heap.size w (Go.Sort.grow (w.drewN k) os) :=
  ⟨rfl, rfl, rfl, by simp [Go.Sort.grow], fun i hi => by simp [Go.Sort.grow, Array.getElem?_append, hi]⟩
theorem c_Itoa (n : Int) (w : World) (h0 : 0 ≤ n) (h1 : n ≤ 9223372036854775807) (hE : TabE w) :
    Calls Tryz.prog 31 #[.int .i64 n] w fun e w' => e = .returned (.string (dec n)) ∧ Below w.heap.size w w' := by
  refine (Tryz.strconv_Itoa n (by omega) h1 w hE).mono ?_
  rintro e w' ⟨rfl, k, os, rfl⟩
  refine ⟨?_, below_grow w k os⟩
  unfold dec Lib.itoa
  rw [if_neg (by omega)]
theorem byte_cell (W : World) (x : Int) (t : TypeId) : (W.alloc (.cells #[.int .u8 x] t)).cell? ⟨W.heap.size, 0, none⟩ = some (.int .u8 x) := (Blk.new W t #[.int .u8 x]).cell 0
theorem cell_keep {w w' : World} {a : Addr} {v : Value} (hc : w.cell? a = some v) (hb : Below w.heap.size w w') : w'.cell? a = some v := (hb.cell (World.block_lt_of_cell? w a hc)).trans hc
theorem conv_at {W : World} {b : Nat} {x : Int} (h0 : 0 ≤ x) (h1 : x ≤ 255) (hc : W.cell? ⟨b, 0, none⟩ = some (.int .u8 x)) :
    (convert 22 9 (.slice (some ⟨b, 0, none⟩) 1 1)).run Tryz.prog W = .ok (.string ⟨#[UInt8.ofNat x.toNat]⟩) W := by
  refine run_convert_bytes_back (P := Tryz.prog) W 22 9 5 ⟨b, 0, none⟩ 1 [UInt8.ofNat x.toNat] Tryz.underlying22 Tryz.underlying5 Tryz.underlying9 (fun j hj => ?_)
  obtain rfl : j = 0 := by simpa using hj
  show W.cell? ((⟨b, 0, none⟩ : Addr).add 0) = _
  simp only [Addr.add, if_true]
  rw [hc]
  simp
  omega
set_option maxRecDepth 20000 in
theorem c_decimal (n : Nat) : ∀ (w : World), n ≤ 1099511627776 → Calls Tryz.prog 16 #[.int .i64 n] w fun e w' => e = .returned (.string (dec n)) ∧ Below w.heap.size w w' := by
  induction n using Nat.strongRecOn with
  | ind n ih =>
    intro w hn
    by_cases h : n < 10
    · have HD := Lib.hid (dec_small h)
      have hcv := conv_at (W := w.alloc (.cells #[.int .u8 (48 + n)] 5)) (by omega) (by omega) (byte_cell w (48 + n) 5)
      clear ih
      go_enter Tryz.func16, Tryz.ntmps16
      go_wp2
      go_ret
      exact ⟨by rw [HD.out]; rfl, (Below.refl _ _).alloc (Nat.le_refl _) _⟩
    · have HD : Hid (dec n = dec ((n : Int) / 10) ++ ⟨#[UInt8.ofNat (48 + n % 10)]⟩) := dec_big h
      have IH : Hid (∀ w : World, Calls Tryz.prog 16 #[.int .i64 ((n : Int) / 10)] w fun e w' => e = .returned (.string (dec ((n : Int) / 10))) ∧ Below w.heap.size w w') := fun w => ih (n / 10) (by omega) w (by omega)
      have h0 : 0 ≤ (n : Int) % 10 := by omega
      have h1 : (n : Int) % 10 < 10 := by omega
      have e1 : IntKind.i64.wrap ((n : Int) / 10) = (n : Int) / 10 := IntWalk.i64_in _ (by omega)
      have e2 : (n : Int).tmod 10 = (n : Int) % 10 := Int.tmod_eq_emod_of_nonneg (by omega)
      have e3 : IntKind.i64.wrap (48 + (n : Int) % 10) = 48 + (n : Int) % 10 := IntWalk.i64_in _ (by omega)
      have e4 : IntKind.u8.wrap (48 + (n : Int) % 10) = 48 + (n : Int) % 10 := by rw [IntKind.wrap_u8]; omega
      have hs : ¬ (9223372036854775807 < (dec ((n : Int) / 10)).size + 1) := by have := dec_size ((n : Int) / 10); omega
      clear ih
      go_enter Tryz.func16, Tryz.ntmps16
      go_wp2_with fail
      refine wp_region_held_drew (S := (fun w' => 0 ≤ w'.heap.size)) (by kernel_rfl) ?_ (fun hHeld => ?_)
      · (try dsimp only); exact Nat.zero_le _
      have B : Below w.heap.size w w.drew := Bl.of_drewN w 1; generalize World.drew w = wc at *
      refine wpAnyH_take (i := 0) (v := ?_) (arr_at rfl) (by kernel_rfl) (by kernel_rfl) (by kernel_rfl) (fun _ _ _ h => h) ?_ (by assumption) ?_
      rotate_left
      · first | (refine Or.inr ⟨by rfl, ?_⟩; with_reducible rfl) | (refine Or.inl ⟨by rfl, ?_⟩; intro w hSw; (try dsimp only at hSw); go_simp; first | done | with_reducible rfl)
      try simp only [Act.put, List.setIfInBounds_toArray, List.set_cons_zero, List.set_cons_succ]
      refine wpAnyH_take (i := 1) (v := ?_) (arr_at rfl) (by kernel_rfl) (by kernel_rfl) (by kernel_rfl) (fun _ _ _ h => h) ?_ (by assumption) ?_
      rotate_left
      · first | (refine Or.inr ⟨by rfl, ?_⟩; with_reducible rfl) | (refine Or.inl ⟨by rfl, ?_⟩; intro w hSw; (try dsimp only at hSw); go_simp; first | done | with_reducible rfl)
      try simp only [Act.put, List.setIfInBounds_toArray, List.set_cons_zero, List.set_cons_succ]
      refine wpAnyH_take (i := 3) (v := ?_) (arr_at rfl) (by kernel_rfl) (by kernel_rfl) (by kernel_rfl) (fun _ _ _ h => h) ?_ (by assumption) ?_
      rotate_left
      · first | (refine Or.inr ⟨by rfl, ?_⟩; with_reducible rfl) | (refine Or.inl ⟨by rfl, ?_⟩; intro w hSw; (try dsimp only at hSw); go_simp; first | done | with_reducible rfl)
      try simp only [Act.put, List.setIfInBounds_toArray, List.set_cons_zero, List.set_cons_succ]
      refine wpAnyH_take (i := 4) (v := ?_) (arr_at rfl) (by kernel_rfl) (by kernel_rfl) (by kernel_rfl) (fun _ _ _ h => h) ?_ (by assumption) ?_
      rotate_left
      · first | (refine Or.inr ⟨by rfl, ?_⟩; with_reducible rfl) | (refine Or.inl ⟨by rfl, ?_⟩; intro w hSw; (try dsimp only at hSw); go_simp; first | done | with_reducible rfl)
      try simp only [Act.put, List.setIfInBounds_toArray, List.set_cons_zero, List.set_cons_succ]
      refine wpAnyH_take (i := 5) (v := ?_) (arr_at rfl) (by kernel_rfl) (by kernel_rfl) (by kernel_rfl) (fun _ _ _ h => h) ?_ (by assumption) ?_
      rotate_left
      · first | (refine Or.inr ⟨by rfl, ?_⟩; with_reducible rfl) | (refine Or.inl ⟨by rfl, ?_⟩; intro w hSw; (try dsimp only at hSw); go_simp; first | done | with_reducible rfl)
      try simp only [Act.put, List.setIfInBounds_toArray, List.set_cons_zero, List.set_cons_succ]
      refine wpAnyH_take (i := 6) (v := ?_) (arr_at rfl) (by kernel_rfl) (by kernel_rfl) (by kernel_rfl) (fun _ _ _ h => h) ?_ (by assumption) ?_
      rotate_left
      · first | (refine Or.inr ⟨by rfl, ?_⟩; with_reducible rfl) | (refine Or.inl ⟨by rfl, ?_⟩; intro w hSw; (try dsimp only at hSw); go_simp; first | done | with_reducible rfl)
      try simp only [Act.put, List.setIfInBounds_toArray, List.set_cons_zero, List.set_cons_succ]
      refine wpAnyH_ready (rs := [2, 7]) (by kernel_rfl) (by simp) ?_
      refine AllReadyH.cons (arr_at rfl) (fun K hK => ?_) (AllReadyH.cons (arr_at rfl) (fun K hK => ?_) AllReadyH.nil)
      · go_simp
        go_at_call 16; refine (IH.out _).mono ?_; rintro e wd ⟨rfl, hq⟩; replace B := Bl.then B hq; (first | (replace hc := cell_keep hc hq) | skip); clear hq
        refine hK.out _ _ ?_ (fun hHeld => ?_)
        · (try dsimp only); exact Nat.zero_le _
        clear hK K
        try simp only [Act.put, List.setIfInBounds_toArray, List.set_cons_zero, List.set_cons_succ]
        refine wpAnyH_ready (rs := [7]) (by kernel_rfl) (by simp) ?_
        refine AllReadyH.cons (arr_at rfl) (fun K hK => ?_) AllReadyH.nil
        go_simp
        have hc := byte_cell wd (48 + (n : Int) % 10) 5; replace B := B.alloc B.size (.cells #[.int .u8 (48 + (n : Int) % 10)] 5)
        refine hK.out _ _ ?_ (fun hHeld => ?_)
        · (try dsimp only); exact Nat.zero_le _
        clear hK K
        try simp only [Act.put, List.setIfInBounds_toArray, List.set_cons_zero, List.set_cons_succ]
        refine wpAnyH_ready (rs := [8]) (by kernel_rfl) (by simp) ?_
        refine AllReadyH.cons (arr_at rfl) (fun K hK => ?_) AllReadyH.nil
        have hv := conv_at (by omega) (by omega) hc; go_simp
        refine hK.out _ _ ?_ (fun hHeld => ?_)
        · (try dsimp only); exact Nat.zero_le _
        clear hK K
        try simp only [Act.put, List.setIfInBounds_toArray, List.set_cons_zero, List.set_cons_succ]
        refine wpAnyH_take (i := 9) (v := ?_) (arr_at rfl) (by kernel_rfl) (by kernel_rfl) (by kernel_rfl) (fun _ _ _ h => h) ?_ (by assumption) ?_
        rotate_left
        · first | (refine Or.inr ⟨by rfl, ?_⟩; with_reducible rfl) | (refine Or.inl ⟨by rfl, ?_⟩; intro w hSw; (try dsimp only at hSw); go_simp; first | done | with_reducible rfl)
        try simp only [Act.put, List.setIfInBounds_toArray, List.set_cons_zero, List.set_cons_succ]
        refine wpAnyH_take (i := 10) (v := ?_) (arr_at rfl) (by kernel_rfl) (by kernel_rfl) (by kernel_rfl) (fun _ _ _ h => h) ?_ (by assumption) ?_
        rotate_left
        · first | (refine Or.inr ⟨by rfl, ?_⟩; with_reducible rfl) | (refine Or.inl ⟨by rfl, ?_⟩; intro w hSw; (try dsimp only at hSw); go_simp; first | done | with_reducible rfl)
        try simp only [Act.put, List.setIfInBounds_toArray, List.set_cons_zero, List.set_cons_succ]
        refine wpAnyH_done (by kernel_rfl) ?_ _
        go_wp2; go_ret; exact ⟨by rw [HD.out]; first | rfl | (congr; omega), B⟩
      · go_simp
        have hc := byte_cell wc (48 + (n : Int) % 10) 5; replace B := B.alloc B.size (.cells #[.int .u8 (48 + (n : Int) % 10)] 5)
        refine hK.out _ _ ?_ (fun hHeld => ?_)
        · (try dsimp only); exact Nat.zero_le _
        clear hK K
        try simp only [Act.put, List.setIfInBounds_toArray, List.set_cons_zero, List.set_cons_succ]
        refine wpAnyH_ready (rs := [2, 8]) (by kernel_rfl) (by simp) ?_
        refine AllReadyH.cons (arr_at rfl) (fun K hK => ?_) (AllReadyH.cons (arr_at rfl) (fun K hK => ?_) AllReadyH.nil)
        · go_simp
          go_at_call 16; refine (IH.out _).mono ?_; rintro e wd ⟨rfl, hq⟩; replace B := Bl.then B hq; (first | (replace hc := cell_keep hc hq) | skip); clear hq
          refine hK.out _ _ ?_ (fun hHeld => ?_)
          · (try dsimp only); exact Nat.zero_le _
          clear hK K
          try simp only [Act.put, List.setIfInBounds_toArray, List.set_cons_zero, List.set_cons_succ]
          refine wpAnyH_ready (rs := [8]) (by kernel_rfl) (by simp) ?_
          refine AllReadyH.cons (arr_at rfl) (fun K hK => ?_) AllReadyH.nil
          have hv := conv_at (by omega) (by omega) hc; go_simp
          refine hK.out _ _ ?_ (fun hHeld => ?_)
          · (try dsimp only); exact Nat.zero_le _
          clear hK K
          try simp only [Act.put, List.setIfInBounds_toArray, List.set_cons_zero, List.set_cons_succ]
          refine wpAnyH_take (i := 9) (v := ?_) (arr_at rfl) (by kernel_rfl) (by kernel_rfl) (by kernel_rfl) (fun _ _ _ h => h) ?_ (by assumption) ?_
          rotate_left
          · first | (refine Or.inr ⟨by rfl, ?_⟩; with_reducible rfl) | (refine Or.inl ⟨by rfl, ?_⟩; intro w hSw; (try dsimp only at hSw); go_simp; first | done | with_reducible rfl)
          try simp only [Act.put, List.setIfInBounds_toArray, List.set_cons_zero, List.set_cons_succ]
          refine wpAnyH_take (i := 10) (v := ?_) (arr_at rfl) (by kernel_rfl) (by kernel_rfl) (by kernel_rfl) (fun _ _ _ h => h) ?_ (by assumption) ?_
          rotate_left
          · first | (refine Or.inr ⟨by rfl, ?_⟩; with_reducible rfl) | (refine Or.inl ⟨by rfl, ?_⟩; intro w hSw; (try dsimp only at hSw); go_simp; first | done | with_reducible rfl)
          try simp only [Act.put, List.setIfInBounds_toArray, List.set_cons_zero, List.set_cons_succ]
          refine wpAnyH_done (by kernel_rfl) ?_ _
          go_wp2; go_ret; exact ⟨by rw [HD.out]; first | rfl | (congr; omega), B⟩
        · have hv := conv_at (by omega) (by omega) hc; go_simp
          refine hK.out _ _ ?_ (fun hHeld => ?_)
          · (try dsimp only); exact Nat.zero_le _
          clear hK K
          try simp only [Act.put, List.setIfInBounds_toArray, List.set_cons_zero, List.set_cons_succ]
          refine wpAnyH_ready (rs := [2]) (by kernel_rfl) (by simp) ?_
          refine AllReadyH.cons (arr_at rfl) (fun K hK => ?_) AllReadyH.nil
          go_simp
          go_at_call 16; refine (IH.out _).mono ?_; rintro e wd ⟨rfl, hq⟩; replace B := Bl.then B hq; (first | (replace hc := cell_keep hc hq) | skip); clear hq
          refine hK.out _ _ ?_ (fun hHeld => ?_)
          · (try dsimp only); exact Nat.zero_le _
          clear hK K
          try simp only [Act.put, List.setIfInBounds_toArray, List.set_cons_zero, List.set_cons_succ]
          refine wpAnyH_take (i := 9) (v := ?_) (arr_at rfl) (by kernel_rfl) (by kernel_rfl) (by kernel_rfl) (fun _ _ _ h => h) ?_ (by assumption) ?_
          rotate_left
          · first | (refine Or.inr ⟨by rfl, ?_⟩; with_reducible rfl) | (refine Or.inl ⟨by rfl, ?_⟩; intro w hSw; (try dsimp only at hSw); go_simp; first | done | with_reducible rfl)
          try simp only [Act.put, List.setIfInBounds_toArray, List.set_cons_zero, List.set_cons_succ]
          refine wpAnyH_take (i := 10) (v := ?_) (arr_at rfl) (by kernel_rfl) (by kernel_rfl) (by kernel_rfl) (fun _ _ _ h => h) ?_ (by assumption) ?_
          rotate_left
          · first | (refine Or.inr ⟨by rfl, ?_⟩; with_reducible rfl) | (refine Or.inl ⟨by rfl, ?_⟩; intro w hSw; (try dsimp only at hSw); go_simp; first | done | with_reducible rfl)
          try simp only [Act.put, List.setIfInBounds_toArray, List.set_cons_zero, List.set_cons_succ]
          refine wpAnyH_done (by kernel_rfl) ?_ _
          go_wp2; go_ret; exact ⟨by rw [HD.out]; first | rfl | (congr; omega), B⟩
end Go.Proofs.YtjflfhjnbccpmaaGreatDoor
namespace Go.Proofs.YtjflfhjnbccpmaaGreatDoor
open Go.RowKit
def addrT (a : Int) : ByteArray := dec (a / 256) ++ ⟨#[46]⟩ ++ dec (a % 256)
def fmtE (ad ep : Int) : ByteArray := addrT ad ++ ⟨#[58]⟩ ++ dec ep
def fmtEnd (ad ep : Int) : ByteArray := if inB ad 0 65535 && inB ep 0 65535 then fmtE ad ep else ⟨#[]⟩
theorem c_dec (n : Int) (w : World) (h0 : 0 ≤ n) (h1 : n ≤ 1099511627776) : Calls Tryz.prog 16 #[.int .i64 n] w fun e w' => e = .returned (.string (dec n)) ∧ Below w.heap.size w w' := by
  obtain ⟨k, rfl⟩ := Int.eq_ofNat_of_zero_le h0
  exact c_decimal k w (by omega)
theorem addrT_size {a : Int} (h0 : 0 ≤ a) (h1 : a ≤ 65535) : (addrT a).size ≤ 1000 := by
  have x := dec_size (a / 256)
  have y := dec_size (a % 256)
  unfold addrT
  simp only [ByteArray.size_append]
  show _ + 1 + _ ≤ _
  omega
theorem c_sAddrText (a : Int) (w : World) (h0 : 0 ≤ a) (h1 : a ≤ 65535) : Calls Tryz.prog 86 #[.int .i64 a] w fun e w' => e = .returned (.string (addrT a)) ∧ Below w.heap.size w w' := by
  have x := dec_size (a / 256)
  have y := dec_size (a % 256)
  have hs1 : ¬ (9223372036854775807 < (dec (a / 256)).size + 1) := by omega
  have hs2 : ¬ (9223372036854775807 < (dec (a / 256)).size + 1 + (dec (a % 256)).size) := by omega
  go_enter Tryz.func86, Tryz.ntmps86
  go_wp2_with fail
  refine (c_dec (a / 256) _ (by omega) (by omega)).mono ?_
  rintro e w1 ⟨rfl, hq⟩
  have B := hq
  clear hq
  go_wp2_with fail
  refine (c_dec (a % 256) _ (by omega) (by omega)).mono ?_
  rintro e w2 ⟨rfl, hq⟩
  replace B := Bl.then B hq
  clear hq
  go_wp2
  go_ret
  exact ⟨rfl, B⟩
theorem c_iAddrText (a : Int) (w : World) (h0 : 0 ≤ a) (h1 : a ≤ 65535) (hE : TabE w) : Calls Tryz.prog 68 #[.int .i64 a] w fun e w' => e = .returned (.string (addrT a)) ∧ Below w.heap.size w w' := by
  have x := dec_size (a / 256)
  have y := dec_size (a % 256)
  have hs1 : ¬ (9223372036854775807 < (dec (a / 256)).size + 1) := by omega
  have hs2 : ¬ (9223372036854775807 < (dec (a / 256)).size + 1 + (dec (a % 256)).size) := by omega
  go_enter Tryz.func68, Tryz.ntmps68
  go_wp2_with fail
  refine (c_Itoa (a / 256) _ (by omega) (by omega) hE).mono ?_
  rintro e w1 ⟨rfl, hq⟩
  replace hE := hE.to hq
  have B := hq
  clear hq
  go_wp2_with fail
  refine (c_Itoa (a % 256) _ (by omega) (by omega) hE).mono ?_
  rintro e w2 ⟨rfl, hq⟩
  replace B := Bl.then B hq
  clear hq
  go_wp2
  go_ret
  exact ⟨rfl, B⟩
set_option maxHeartbeats 1600000 in
theorem c_sFormatEnd (ad ep : Int) (w : World) : Calls Tryz.prog 51 #[.agg #[.int .i64 ad, .int .i64 ep]] w fun e w' => e = .returned (.string (fmtEnd ad ep)) ∧ Below w.heap.size w w' := by
  have k0 := Blk.new w 70 #[.int .i64 ad, .int .i64 ep]
  have B : Below w.heap.size w (w.alloc (.cells #[.int .i64 ad, .int .i64 ep] 70)) := (Below.refl _ _).alloc (Nat.le_refl _) _
  go_enter Tryz.func51, Tryz.ntmps51
  go_wp2_with fail
  refine (c_validEnd ad ep _).mono ?_
  rintro e w1 ⟨rfl, hq⟩
  replace k0 := k0.to hq
  replace B := Bl.then B hq
  clear hq
  cases hv : inB ad 0 65535 && inB ep 0 65535
  · have HV : Hid (fmtEnd ad ep = ⟨#[]⟩) := by unfold fmtEnd; rw [hv]; rfl
    clear hv
    go_wp2
    go_ret
    exact ⟨by rw [HV.out]; rfl, B⟩
  · have HV : Hid (fmtEnd ad ep = addrT ad ++ ⟨#[58]⟩ ++ dec ep) := by unfold fmtEnd; rw [hv]; rfl
    simp only [Bool.and_eq_true] at hv
    have a1 := inB_true hv.1
    have a2 := inB_true hv.2
    have x := addrT_size a1.1 a1.2
    have y := dec_size ep
    have hs1 : ¬ (9223372036854775807 < (addrT ad).size + 1) := by omega
    have hs2 : ¬ (9223372036854775807 < (addrT ad).size + 1 + (dec ep).size) := by omega
    clear hv
    go_wp2_with fail
    refine wp_region_held_drew (S := (fun w' => w'.cell? ⟨w.heap.size, 0, none⟩ = some (.int .i64 ad) ∧ w'.cell? ⟨w.heap.size, 1, none⟩ = some (.int .i64 ep))) (by kernel_rfl) ?_ (fun hHeld => ?_)
    · (try dsimp only); (have x := k0.cell 0; have y := k0.cell 1; simp only [List.getElem?_toArray, List.getElem?_cons_zero, List.getElem?_cons_succ] at x y; exact ⟨x, y⟩)
    replace k0 : Blk w1.drew w.heap.size _ _ := k0; replace B : Below w.heap.size w w1.drew := Bl.drewN B 1; generalize World.drew w1 = wc at *
    refine wpAnyH_take (i := 0) (v := ?_) (arr_at rfl) (by kernel_rfl) (by kernel_rfl) (by kernel_rfl) (fun _ _ _ h => h) ?_ (by assumption) ?_
    rotate_left
    · first | (refine Or.inr ⟨by rfl, ?_⟩; with_reducible rfl) | (refine Or.inl ⟨by rfl, ?_⟩; intro w hSw; (try dsimp only at hSw); go_simp; first | done | with_reducible rfl)
    try simp only [Act.put, List.setIfInBounds_toArray, List.set_cons_zero, List.set_cons_succ]
    refine wpAnyH_take (i := 1) (v := ?_) (arr_at rfl) (by kernel_rfl) (by kernel_rfl) (by kernel_rfl) (fun _ _ _ h => h) ?_ (by assumption) ?_
    rotate_left
    · first | (refine Or.inr ⟨by rfl, ?_⟩; with_reducible rfl) | (refine Or.inl ⟨by rfl, ?_⟩; intro w hSw; (try dsimp only at hSw); go_simp; first | done | with_reducible rfl)
    try simp only [Act.put, List.setIfInBounds_toArray, List.set_cons_zero, List.set_cons_succ]
    refine wpAnyH_take (i := 4) (v := ?_) (arr_at rfl) (by kernel_rfl) (by kernel_rfl) (by kernel_rfl) (fun _ _ _ h => h) ?_ (by assumption) ?_
    rotate_left
    · first | (refine Or.inr ⟨by rfl, ?_⟩; with_reducible rfl) | (refine Or.inl ⟨by rfl, ?_⟩; intro w hSw; (try dsimp only at hSw); go_simp; first | done | with_reducible rfl)
    try simp only [Act.put, List.setIfInBounds_toArray, List.set_cons_zero, List.set_cons_succ]
    refine wpAnyH_take (i := 5) (v := ?_) (arr_at rfl) (by kernel_rfl) (by kernel_rfl) (by kernel_rfl) (fun _ _ _ h => h) ?_ (by assumption) ?_
    rotate_left
    · first | (refine Or.inr ⟨by rfl, ?_⟩; with_reducible rfl) | (refine Or.inl ⟨by rfl, ?_⟩; intro w hSw; (try dsimp only at hSw); go_simp; first | done | with_reducible rfl)
    try simp only [Act.put, List.setIfInBounds_toArray, List.set_cons_zero, List.set_cons_succ]
    refine wpAnyH_ready (rs := [2]) (by kernel_rfl) (by simp) ?_
    refine AllReadyH.cons (arr_at rfl) (fun K hK => ?_) AllReadyH.nil
    go_simp
    go_at_call 86; refine (c_sAddrText ad _ (by omega) (by omega)).mono ?_; rintro e wd ⟨rfl, hq⟩; replace k0 := k0.to hq; replace B := Bl.then B hq; clear hq
    refine hK.out _ _ ?_ (fun hHeld => ?_)
    · (try dsimp only); (have x := k0.cell 0; have y := k0.cell 1; simp only [List.getElem?_toArray, List.getElem?_cons_zero, List.getElem?_cons_succ] at x y; exact ⟨x, y⟩)
    clear hK K
    try simp only [Act.put, List.setIfInBounds_toArray, List.set_cons_zero, List.set_cons_succ]
    refine wpAnyH_take (i := 3) (v := ?_) (arr_at rfl) (by kernel_rfl) (by kernel_rfl) (by kernel_rfl) (fun _ _ _ h => h) ?_ (by assumption) ?_
    rotate_left
    · first | (refine Or.inr ⟨by rfl, ?_⟩; with_reducible rfl) | (refine Or.inl ⟨by rfl, ?_⟩; intro w hSw; (try dsimp only at hSw); go_simp; first | done | with_reducible rfl)
    try simp only [Act.put, List.setIfInBounds_toArray, List.set_cons_zero, List.set_cons_succ]
    refine wpAnyH_ready (rs := [6]) (by kernel_rfl) (by simp) ?_
    refine AllReadyH.cons (arr_at rfl) (fun K hK => ?_) AllReadyH.nil
    go_simp
    go_at_call 16; refine (c_dec ep _ (by omega) (by omega)).mono ?_; rintro e we ⟨rfl, hq⟩; replace k0 := k0.to hq; replace B := Bl.then B hq; clear hq
    refine hK.out _ _ ?_ (fun hHeld => ?_)
    · (try dsimp only); (have x := k0.cell 0; have y := k0.cell 1; simp only [List.getElem?_toArray, List.getElem?_cons_zero, List.getElem?_cons_succ] at x y; exact ⟨x, y⟩)
    clear hK K
    try simp only [Act.put, List.setIfInBounds_toArray, List.set_cons_zero, List.set_cons_succ]
    refine wpAnyH_take (i := 7) (v := ?_) (arr_at rfl) (by kernel_rfl) (by kernel_rfl) (by kernel_rfl) (fun _ _ _ h => h) ?_ (by assumption) ?_
    rotate_left
    · first | (refine Or.inr ⟨by rfl, ?_⟩; with_reducible rfl) | (refine Or.inl ⟨by rfl, ?_⟩; intro w hSw; (try dsimp only at hSw); go_simp; first | done | with_reducible rfl)
    try simp only [Act.put, List.setIfInBounds_toArray, List.set_cons_zero, List.set_cons_succ]
    refine wpAnyH_take (i := 8) (v := ?_) (arr_at rfl) (by kernel_rfl) (by kernel_rfl) (by kernel_rfl) (fun _ _ _ h => h) ?_ (by assumption) ?_
    rotate_left
    · first | (refine Or.inr ⟨by rfl, ?_⟩; with_reducible rfl) | (refine Or.inl ⟨by rfl, ?_⟩; intro w hSw; (try dsimp only at hSw); go_simp; first | done | with_reducible rfl)
    try simp only [Act.put, List.setIfInBounds_toArray, List.set_cons_zero, List.set_cons_succ]
    refine wpAnyH_done (by kernel_rfl) ?_ _
    go_wp2; go_ret; exact ⟨by rw [HV.out]; rfl, B⟩
set_option maxHeartbeats 1600000 in
theorem c_iFormatEnd (ad ep : Int) (w : World) (hE : TabE w) : Calls Tryz.prog 42 #[.agg #[.int .i64 ad, .int .i64 ep]] w fun e w' => e = .returned (.string (fmtEnd ad ep)) ∧ Below w.heap.size w w' := by
  have k0 := Blk.new w 70 #[.int .i64 ad, .int .i64 ep]
  have B : Below w.heap.size w (w.alloc (.cells #[.int .i64 ad, .int .i64 ep] 70)) := (Below.refl _ _).alloc (Nat.le_refl _) _
  replace hE := hE.to B
  go_enter Tryz.func42, Tryz.ntmps42
  go_wp2_with fail
  refine (c_endValid ad ep _).mono ?_
  rintro e w1 ⟨rfl, hq⟩
  replace k0 := k0.to hq
  replace B := Bl.then B hq
  replace hE := hE.to hq
  clear hq
  cases hv : inB ad 0 65535 && inB ep 0 65535
  · have HV : Hid (fmtEnd ad ep = ⟨#[]⟩) := by unfold fmtEnd; rw [hv]; rfl
    clear hv
    go_wp2
    go_ret
    exact ⟨by rw [HV.out]; rfl, B⟩
  · have HV : Hid (fmtEnd ad ep = addrT ad ++ ⟨#[58]⟩ ++ dec ep) := by unfold fmtEnd; rw [hv]; rfl
    simp only [Bool.and_eq_true] at hv
    have a1 := inB_true hv.1
    have a2 := inB_true hv.2
    have x := addrT_size a1.1 a1.2
    have y := dec_size ep
    have hs1 : ¬ (9223372036854775807 < (addrT ad).size + 1) := by omega
    have hs2 : ¬ (9223372036854775807 < (addrT ad).size + 1 + (dec ep).size) := by omega
    clear hv
    go_wp2_with fail
    refine wp_region_held_drew (S := (fun w' => w'.cell? ⟨w.heap.size, 0, none⟩ = some (.int .i64 ad) ∧ w'.cell? ⟨w.heap.size, 1, none⟩ = some (.int .i64 ep))) (by kernel_rfl) ?_ (fun hHeld => ?_)
    · (try dsimp only); (have x := k0.cell 0; have y := k0.cell 1; simp only [List.getElem?_toArray, List.getElem?_cons_zero, List.getElem?_cons_succ] at x y; exact ⟨x, y⟩)
    replace k0 : Blk w1.drew w.heap.size _ _ := k0; replace hE : TabE w1.drew := hE; replace B : Below w.heap.size w w1.drew := Bl.drewN B 1; generalize World.drew w1 = wc at *
    refine wpAnyH_take (i := 0) (v := ?_) (arr_at rfl) (by kernel_rfl) (by kernel_rfl) (by kernel_rfl) (fun _ _ _ h => h) ?_ (by assumption) ?_
    rotate_left
    · first | (refine Or.inr ⟨by rfl, ?_⟩; with_reducible rfl) | (refine Or.inl ⟨by rfl, ?_⟩; intro w hSw; (try dsimp only at hSw); go_simp; first | done | with_reducible rfl)
    try simp only [Act.put, List.setIfInBounds_toArray, List.set_cons_zero, List.set_cons_succ]
    refine wpAnyH_take (i := 1) (v := ?_) (arr_at rfl) (by kernel_rfl) (by kernel_rfl) (by kernel_rfl) (fun _ _ _ h => h) ?_ (by assumption) ?_
    rotate_left
    · first | (refine Or.inr ⟨by rfl, ?_⟩; with_reducible rfl) | (refine Or.inl ⟨by rfl, ?_⟩; intro w hSw; (try dsimp only at hSw); go_simp; first | done | with_reducible rfl)
    try simp only [Act.put, List.setIfInBounds_toArray, List.set_cons_zero, List.set_cons_succ]
    refine wpAnyH_take (i := 4) (v := ?_) (arr_at rfl) (by kernel_rfl) (by kernel_rfl) (by kernel_rfl) (fun _ _ _ h => h) ?_ (by assumption) ?_
    rotate_left
    · first | (refine Or.inr ⟨by rfl, ?_⟩; with_reducible rfl) | (refine Or.inl ⟨by rfl, ?_⟩; intro w hSw; (try dsimp only at hSw); go_simp; first | done | with_reducible rfl)
    try simp only [Act.put, List.setIfInBounds_toArray, List.set_cons_zero, List.set_cons_succ]
    refine wpAnyH_take (i := 5) (v := ?_) (arr_at rfl) (by kernel_rfl) (by kernel_rfl) (by kernel_rfl) (fun _ _ _ h => h) ?_ (by assumption) ?_
    rotate_left
    · first | (refine Or.inr ⟨by rfl, ?_⟩; with_reducible rfl) | (refine Or.inl ⟨by rfl, ?_⟩; intro w hSw; (try dsimp only at hSw); go_simp; first | done | with_reducible rfl)
    try simp only [Act.put, List.setIfInBounds_toArray, List.set_cons_zero, List.set_cons_succ]
    refine wpAnyH_ready (rs := [2]) (by kernel_rfl) (by simp) ?_
    refine AllReadyH.cons (arr_at rfl) (fun K hK => ?_) AllReadyH.nil
    go_simp
    go_at_call 68; refine (c_iAddrText ad _ (by omega) (by omega) hE).mono ?_; rintro e wd ⟨rfl, hq⟩; replace k0 := k0.to hq; replace hE := hE.to hq; replace B := Bl.then B hq; clear hq
    refine hK.out _ _ ?_ (fun hHeld => ?_)
    · (try dsimp only); (have x := k0.cell 0; have y := k0.cell 1; simp only [List.getElem?_toArray, List.getElem?_cons_zero, List.getElem?_cons_succ] at x y; exact ⟨x, y⟩)
    clear hK K
    try simp only [Act.put, List.setIfInBounds_toArray, List.set_cons_zero, List.set_cons_succ]
    refine wpAnyH_take (i := 3) (v := ?_) (arr_at rfl) (by kernel_rfl) (by kernel_rfl) (by kernel_rfl) (fun _ _ _ h => h) ?_ (by assumption) ?_
    rotate_left
    · first | (refine Or.inr ⟨by rfl, ?_⟩; with_reducible rfl) | (refine Or.inl ⟨by rfl, ?_⟩; intro w hSw; (try dsimp only at hSw); go_simp; first | done | with_reducible rfl)
    try simp only [Act.put, List.setIfInBounds_toArray, List.set_cons_zero, List.set_cons_succ]
    refine wpAnyH_ready (rs := [6]) (by kernel_rfl) (by simp) ?_
    refine AllReadyH.cons (arr_at rfl) (fun K hK => ?_) AllReadyH.nil
    go_simp
    go_at_call 31; refine (c_Itoa ep _ (by omega) (by omega) hE).mono ?_; rintro e we ⟨rfl, hq⟩; replace k0 := k0.to hq; replace hE := hE.to hq; replace B := Bl.then B hq; clear hq
    refine hK.out _ _ ?_ (fun hHeld => ?_)
    · (try dsimp only); (have x := k0.cell 0; have y := k0.cell 1; simp only [List.getElem?_toArray, List.getElem?_cons_zero, List.getElem?_cons_succ] at x y; exact ⟨x, y⟩)
    clear hK K
    try simp only [Act.put, List.setIfInBounds_toArray, List.set_cons_zero, List.set_cons_succ]
    refine wpAnyH_take (i := 7) (v := ?_) (arr_at rfl) (by kernel_rfl) (by kernel_rfl) (by kernel_rfl) (fun _ _ _ h => h) ?_ (by assumption) ?_
    rotate_left
    · first | (refine Or.inr ⟨by rfl, ?_⟩; with_reducible rfl) | (refine Or.inl ⟨by rfl, ?_⟩; intro w hSw; (try dsimp only at hSw); go_simp; first | done | with_reducible rfl)
    try simp only [Act.put, List.setIfInBounds_toArray, List.set_cons_zero, List.set_cons_succ]
    refine wpAnyH_take (i := 8) (v := ?_) (arr_at rfl) (by kernel_rfl) (by kernel_rfl) (by kernel_rfl) (fun _ _ _ h => h) ?_ (by assumption) ?_
    rotate_left
    · first | (refine Or.inr ⟨by rfl, ?_⟩; with_reducible rfl) | (refine Or.inl ⟨by rfl, ?_⟩; intro w hSw; (try dsimp only at hSw); go_simp; first | done | with_reducible rfl)
    try simp only [Act.put, List.setIfInBounds_toArray, List.set_cons_zero, List.set_cons_succ]
    refine wpAnyH_done (by kernel_rfl) ?_ _
    go_wp2; go_ret; exact ⟨by rw [HV.out]; rfl, B⟩
end Go.Proofs.YtjflfhjnbccpmaaGreatDoor
namespace Go.Proofs.YtjflfhjnbccpmaaGreatDoor
/-- The digits of a number. -/
def dl (n : Int) : List UInt8 := Lib.decDigits n.toNat
theorem dec_list (n : Int) : (dec n).data.toList = dl n := by unfold dec dl; simp
theorem digits_ne : ∀ u : Nat, Lib.decDigits u ≠ [] := by
  intro u
  rw [Lib.decDigits]
  split <;> simp
theorem digits_dig : ∀ u : Nat, ∀ b ∈ Lib.decDigits u, 48 ≤ b.toNat ∧ b.toNat ≤ 57 := by
  intro u
  induction u using Nat.strongRecOn with
  | ind u ih =>
    intro b hb
    rw [Lib.decDigits] at hb
    split at hb
    · rename_i h
      obtain rfl := List.mem_singleton.1 hb
      simp
      omega
    · rename_i h
      rcases List.mem_append.1 hb with hb | hb
      · exact ih (u / 10) (by omega) b hb
      · obtain rfl := List.mem_singleton.1 hb
        simp
        omega
theorem dl_dig {n : Int} {b : UInt8} (h : b ∈ dl n) : 48 ≤ b.toNat ∧ b.toNat ≤ 57 := digits_dig _ b h
def aL (a : Int) : List UInt8 := dl (a / 256) ++ 46 :: dl (a % 256)
theorem addrT_list (a : Int) : (addrT a).data.toList = aL a := by
  unfold addrT aL
  simp [ByteArray.data_append, ← dec_list]
theorem fmtE_list (a p : Int) : (fmtE a p).data.toList = aL a ++ 58 :: dl p := by
  unfold fmtE
  simp [ByteArray.data_append, ← dec_list, ← addrT_list]
theorem size_list (s : ByteArray) : s.size = s.data.toList.length := Array.length_toList.symm
/-- The byte at a place. -/
def byt (s : ByteArray) (k : Nat) : Int := ((s.data.toList[k]?.getD 0).toNat : Int)
end Go.Proofs.YtjflfhjnbccpmaaGreatDoor
namespace Go.Proofs.YtjflfhjnbccpmaaGreatDoor
/-- One digit more. -/
def stepD (a : Nat) (c : UInt8) : Nat := 10 * a + (c.toNat - 48)
def valL (s : List UInt8) : Nat := s.foldl stepD 0
def isDig (c : UInt8) : Bool := decide (48 ≤ c.toNat) && decide (c.toNat ≤ 57)
/-- The number of a numeral of at most five digits, -1 for other texts. -/
def numV (s : List UInt8) : Int := if decide (s.length ≤ 5) && (decide (s ≠ []) && (s.all isDig && decide (Lib.decDigits (valL s) = s))) then valL s else -1
theorem isDig_iff {c : UInt8} : isDig c = true ↔ 48 ≤ c.toNat ∧ c.toNat ≤ 57 := by unfold isDig; simp
theorem valL_snoc (l : List UInt8) (c : UInt8) : valL (l ++ [c]) = stepD (valL l) c := by unfold valL; rw [List.foldl_append]; rfl
theorem valL_digits : ∀ u : Nat, valL (Lib.decDigits u) = u := by
  intro u
  induction u using Nat.strongRecOn with
  | ind u ih =>
    rw [Lib.decDigits]
    split
    · rename_i h
      unfold valL stepD
      simp
      omega
    · rename_i h
      rw [valL_snoc, ih (u / 10) (by omega)]
      unfold stepD
      simp
      omega
theorem fold_lt : ∀ (l : List UInt8) (a : Nat), l.all isDig = true → l.foldl stepD a < (a + 1) * 10 ^ l.length
  | [], a, _ => by simp
  | c :: l, a, h => by
    rw [List.all_cons, Bool.and_eq_true] at h
    have hc := isDig_iff.1 h.1
    have ih := fold_lt l (stepD a c) h.2
    rw [List.foldl_cons, List.length_cons, Nat.pow_succ]
    have hs : stepD a c + 1 ≤ (a + 1) * 10 := by unfold stepD; omega
    have := Nat.mul_le_mul_right (10 ^ l.length) hs
    rw [Nat.mul_assoc, Nat.mul_comm 10] at this
    omega
theorem valL_lt {l : List UInt8} (h : l.all isDig = true) (hl : l.length ≤ 5) : valL l < 100000 := by
  have h1 := fold_lt l 0 h
  have h2 : 10 ^ l.length ≤ 10 ^ 5 := Nat.pow_le_pow_right (by omega) hl
  unfold valL
  omega
theorem digits_le : ∀ (k u : Nat), u < 10 ^ (k + 1) → (Lib.decDigits u).length ≤ k + 1
  | 0, u, h => by
    rw [Lib.decDigits, dif_pos (by omega)]
    simp
  | k + 1, u, h => by
    rw [Lib.decDigits]
    split
    · simp
    · have := digits_le k (u / 10) (by rw [Nat.pow_succ] at h; omega)
      rw [List.length_append]
      simp
      omega
theorem numV_bd (s : List UInt8) : -1 ≤ numV s ∧ numV s ≤ 99999 := by
  unfold numV
  split
  · rename_i h
    simp only [Bool.and_eq_true, decide_eq_true_eq] at h
    have := valL_lt h.2.2.1 h.1
    omega
  · omega
theorem numV_some {s : List UInt8} (h : 0 ≤ numV s) : dl (numV s) = s ∧ s.all isDig = true ∧ s.length ≤ 5 ∧ numV s = valL s := by
  unfold numV at h ⊢
  split at h
  · rename_i hc
    rw [if_pos hc]
    simp only [Bool.and_eq_true, decide_eq_true_eq] at hc
    exact ⟨by unfold dl; rw [Int.toNat_natCast]; exact hc.2.2.2, hc.2.2.1, hc.1, rfl⟩
  · omega
theorem dl_all (n : Int) : (dl n).all isDig = true := by
  rw [List.all_eq_true]
  intro b hb
  exact isDig_iff.2 (dl_dig hb)
theorem numV_dl {n : Int} (h0 : 0 ≤ n) (h1 : n ≤ 99999) : numV (dl n) = n := by
  have hv : valL (dl n) = n.toNat := valL_digits _
  have hl : (dl n).length ≤ 5 := digits_le 4 n.toNat (by omega)
  have hne : dl n ≠ [] := digits_ne _
  unfold numV
  rw [hv, if_pos (by simp only [Bool.and_eq_true, decide_eq_true_eq]; exact ⟨hl, hne, dl_all n, rfl⟩)]
  omega
/-- A text with a sign that is no digit has no number. -/
theorem numV_no {s : List UInt8} {c : UInt8} (hc : c ∈ s) (hd : isDig c = false) : numV s = -1 := by
  rcases Int.lt_or_le (numV s) 0 with h | h
  · have := (numV_bd s).1; omega
  · have := List.all_eq_true.1 (numV_some h).2.1 c hc
    rw [hd] at this; cases this
theorem parse_dig : ∀ (l : List UInt8) (a : Nat), l.all isDig = true → (a + 1) * 10 ^ l.length ≤ 1000000 → Lib.parseUint10 a l = .ok (l.foldl stepD a)
  | [], a, _, _ => rfl
  | c :: l, a, h, hb => by
    rw [List.all_cons, Bool.and_eq_true] at h
    have hc := isDig_iff.1 h.1
    rw [List.length_cons, Nat.pow_succ] at hb
    have hs : stepD a c + 1 ≤ (a + 1) * 10 := by unfold stepD; omega
    have h2 := Nat.mul_le_mul_right (10 ^ l.length) hs
    rw [Nat.mul_assoc, Nat.mul_comm 10] at h2
    have hp : 1 ≤ 10 ^ l.length := Nat.one_le_pow _ _ (by decide)
    have ha : a + 1 ≤ (a + 1) * (10 ^ l.length * 10) := Nat.le_mul_of_pos_right _ (by omega)
    have ih := parse_dig l (stepD a c) h.2 (by omega)
    have he : a * 10 + (c.toNat - 48) = stepD a c := by unfold stepD; omega
    unfold Lib.parseUint10
    rw [if_pos hc, if_neg (by omega), if_neg (by omega), he, ih]; rfl
theorem atoi_num {s : List UInt8} (h : 0 ≤ numV s) : Lib.atoiAll s = .ok (numV s) := by
  obtain ⟨h1, h2, h3, h4⟩ := numV_some h
  have hlt := valL_lt h2 h3
  rw [h4]
  cases s with
  | nil => unfold numV at h; simp at h
  | cons c r =>
    have hc := isDig_iff.1 (List.all_eq_true.1 h2 c (List.mem_cons_self ..))
    have hp := parse_dig (c :: r) 0 h2 (by
      have : 10 ^ (c :: r).length ≤ 10 ^ 5 := Nat.pow_le_pow_right (by omega) h3
      omega)
    unfold Lib.atoiAll
    have e1 : ¬ (c.toNat = 43) := by omega
    have e2 : ¬ (c.toNat = 45) := by omega
    simp only [e1, e2, or_self, if_false]
    unfold Lib.parseMag
    rw [if_neg (by simp), hp]
    show (if ¬ False ∧ 9223372036854775808 ≤ valL (c :: r) then Lib.NumEnd.range else if False ∧ 9223372036854775808 < valL (c :: r) then Lib.NumEnd.range else Lib.NumEnd.ok (valL (c :: r) : Int)) = _
    rw [if_neg (by omega), if_neg (by simp)]
theorem num_of_atoi {s : List UInt8} {v : Int} (h0 : 0 ≤ v) (hl : s.length ≤ 5) (hd : dl v = s) : numV s = v := by
  have h1 : v ≤ 99999 := by
    have h2 := dl_all v
    have h3 := valL_lt h2 (by rw [hd]; exact hl)
    have h4 : valL (dl v) = v.toNat := valL_digits _
    omega
  rw [← hd]
  exact numV_dl h0 h1
/-- The text before a sign, and behind it. -/
def cutc : List UInt8 → UInt8 → Option (List UInt8 × List UInt8)
  | [], _ => none
  | b :: l, c => if b = c then some ([], l) else (cutc l c).map (fun p => (b :: p.1, p.2))
theorem cutc_spec (c : UInt8) : ∀ l : List UInt8, (cutc l c = none ∧ Lib.index l [c] = -1 ∧ c ∉ l) ∨ (∃ x y, cutc l c = some (x, y) ∧ Lib.index l [c] = x.length ∧ l = x ++ c :: y ∧ c ∉ x)
  | [] => .inl ⟨rfl, rfl, by simp⟩
  | b :: l => by
    unfold cutc Lib.index
    by_cases h : b = c
    · subst h
      rw [if_pos rfl]
      exact .inr ⟨[], l, rfl, by simp, rfl, by simp⟩
    · have hcb : ¬ c = b := fun e => h e.symm
      have hp : ([c] : List UInt8).isPrefixOf (b :: l) = false := by simp [List.isPrefixOf, hcb]
      rw [if_neg h, hp]
      rcases cutc_spec c l with ⟨h1, h2, h3⟩ | ⟨x, y, h1, h2, h3, h4⟩
      · exact .inl ⟨by rw [h1]; rfl, by rw [h2]; rfl, by simp [h3, hcb]⟩
      · refine .inr ⟨b :: x, y, by rw [h1]; rfl, ?_, by rw [h3]; rfl, by simp [h4, hcb]⟩
        rw [h2]
        have : ((x.length : Int) == -1) = false := by rw [beq_eq_false_iff_ne]; omega
        rw [this]
        simp
theorem cut_none {l : List UInt8} {c : UInt8} (h : cutc l c = none) : Lib.cut l [c] = (l, [], false) := by
  rcases cutc_spec c l with ⟨_, h2, _⟩ | ⟨x, y, h1, _⟩
  · unfold Lib.cut; rw [h2]; rfl
  · rw [h] at h1; cases h1
theorem cut_some {l x y : List UInt8} {c : UInt8} (h : cutc l c = some (x, y)) : Lib.cut l [c] = (x, y, true) := by
  rcases cutc_spec c l with ⟨h1, _⟩ | ⟨x', y', h1, h2, h3, _⟩
  · rw [h] at h1; cases h1
  · rw [h] at h1
    cases h1
    unfold Lib.cut
    rw [h2, if_pos (by omega), Int.toNat_natCast, h3]
    simp
theorem cutc_eq {l x y : List UInt8} {c : UInt8} (h : cutc l c = some (x, y)) : l = x ++ c :: y ∧ c ∉ x := by
  rcases cutc_spec c l with ⟨h1, _⟩ | ⟨x', y', h1, _, h3, h4⟩
  · rw [h] at h1; cases h1
  · rw [h] at h1; cases h1; exact ⟨h3, h4⟩
theorem cutc_none_iff {l : List UInt8} {c : UInt8} : cutc l c = none ↔ c ∉ l := by
  rcases cutc_spec c l with ⟨h1, _, h3⟩ | ⟨x, y, h1, _, h3, _⟩
  · exact ⟨fun _ => h3, fun _ => h1⟩
  · refine ⟨fun h => (by rw [h1] at h; cases h), fun h => absurd (show c ∈ l by rw [h3]; simp) h⟩
/-- The parts of a text between the signs of a kind. -/
def spl : List UInt8 → UInt8 → List (List UInt8)
  | [], _ => [[]]
  | b :: l, c => if b = c then [] :: spl l c else match spl l c with
    | h :: t => (b :: h) :: t
    | [] => [[b]]
theorem spl_none {l : List UInt8} {c : UInt8} (h : c ∉ l) : spl l c = [l] := by
  induction l with
  | nil => rfl
  | cons b l ih =>
    rw [List.mem_cons, not_or] at h
    unfold spl
    rw [if_neg (fun e => h.1 e.symm), ih h.2]
theorem spl_app {x y : List UInt8} {c : UInt8} (h : c ∉ x) : spl (x ++ c :: y) c = x :: spl y c := by
  induction x with
  | nil => simp [spl]
  | cons b x ih =>
    rw [List.mem_cons, not_or] at h
    rw [List.cons_append]
    conv => lhs; unfold spl
    rw [if_neg (fun e => h.1 e.symm), ih h.2]
theorem spl_pos (l : List UInt8) (c : UInt8) : 1 ≤ (spl l c).length := by
  rcases cutc_spec c l with ⟨_, _, h⟩ | ⟨x, y, _, _, h, h2⟩
  · rw [spl_none h]; simp
  · rw [h, spl_app h2]; simp
theorem spl_two {l : List UInt8} {c : UInt8} (h : 2 ≤ (spl l c).length) : ∃ x y, cutc l c = some (x, y) ∧ spl l c = x :: spl y c := by
  rcases cutc_spec c l with ⟨_, _, h1⟩ | ⟨x, y, h0, _, h1, h2⟩
  · rw [spl_none h1] at h; simp at h
  · exact ⟨x, y, h0, by rw [h1, spl_app h2]⟩
/-- The address of a text, -1 for none. -/
def addrV (s : List UInt8) : Int := match cutc s 46 with
  | some (x, y) => if inB (numV x) 0 255 && inB (numV y) 0 255 then 256 * numV x + numV y else -1
  | none => -1
theorem addrV_bd (s : List UInt8) : -1 ≤ addrV s ∧ addrV s ≤ 65535 := by
  unfold addrV
  split
  · split
    · rename_i h
      simp only [Bool.and_eq_true] at h
      have := inB_true h.1
      have := inB_true h.2
      omega
    · omega
  · omega
theorem addrV_some {s : List UInt8} (h : 0 ≤ addrV s) : aL (addrV s) = s := by
  unfold addrV at h ⊢
  cases hc : cutc s 46 with
  | none => rw [hc] at h; simp at h
  | some p =>
    obtain ⟨x, y⟩ := p
    rw [hc] at h
    simp only at h ⊢
    split at h
    · rename_i hb
      rw [if_pos hb]
      simp only [Bool.and_eq_true] at hb
      have b1 := inB_true hb.1
      have b2 := inB_true hb.2
      have e1 : (256 * numV x + numV y) / 256 = numV x := by omega
      have e2 : (256 * numV x + numV y) % 256 = numV y := by omega
      unfold aL
      rw [e1, e2, (numV_some b1.1).1, (numV_some b2.1).1, (cutc_eq hc).1]
    · omega
/-- The end of a text. -/
def parE (s : List UInt8) : Option (Int × Int) := match cutc s 58 with
  | some (x, y) => if inB (addrV x) 0 65535 && inB (numV y) 0 65535 then some (addrV x, numV y) else none
  | none => none
theorem parE_text {s : ByteArray} {a p : Int} (h : parE s.data.toList = some (a, p)) : (inB a 0 65535 && inB p 0 65535) = true ∧ fmtEnd a p = s := by
  unfold parE at h
  cases hc : cutc s.data.toList 58 with
  | none => rw [hc] at h; cases h
  | some q =>
    obtain ⟨x, y⟩ := q
    rw [hc] at h
    simp only at h
    split at h
    · rename_i hb
      cases h
      refine ⟨hb, ?_⟩
      apply ByteArray.ext
      apply Array.toList_inj.1
      unfold fmtEnd
      rw [if_pos hb, fmtE_list]
      simp only [Bool.and_eq_true] at hb
      rw [addrV_some (inB_true hb.1).1, (numV_some (inB_true hb.2).1).1, ← (cutc_eq hc).1]
    · cases h
end Go.Proofs.YtjflfhjnbccpmaaGreatDoor
namespace Go.Proofs.YtjflfhjnbccpmaaGreatDoor
/-- The part of a mapping. -/
def partB (m : Mpg) : ByteArray := fmtEnd m.ad m.ep ++ ⟨#[32]⟩ ++ dec m.po ++ ⟨#[32]⟩ ++ dec m.la
def partL (m : Mpg) : List UInt8 := (partB m).data.toList
def tabL (l : List Mpg) : List UInt8 := Lib.join (l.map partL) [59, 32]
/-- The text of a table. -/
def tabT (l : List Mpg) : ByteArray := if vTab l then ⟨(tabL l).toArray⟩ else ⟨#[]⟩
/-- The text of the first mappings, as the reference makes it. -/
def accT (l : List Mpg) : Nat → ByteArray
  | 0 => ⟨#[]⟩
  | k + 1 => (if k = 0 then accT l k else accT l k ++ ⟨#[59, 32]⟩) ++ fmtEnd (mn l k).ad (mn l k).ep ++ ⟨#[32]⟩ ++ dec (mn l k).po ++ ⟨#[32]⟩ ++ dec (mn l k).la
theorem join_snoc {xs : List (List UInt8)} (h : xs ≠ []) (x sep : List UInt8) : Lib.join (xs ++ [x]) sep = Lib.join xs sep ++ (sep ++ x) := by
  cases xs with
  | nil => exact absurd rfl h
  | cons y r =>
    rw [List.cons_append, Lib.join_cons, Lib.join_cons]
    unfold Lib.joinTail
    simp
theorem accT_list (l : List Mpg) : ∀ k, k ≤ l.length → (accT l k).data.toList = tabL (l.take k)
  | 0, _ => by simp [accT, tabL, Lib.join_nil]
  | k + 1, h => by
    have ih := accT_list l k (by omega)
    have hm : l[k]? = some (mn l k) := by simp [mn, show k < l.length by omega]
    have ht : l.take (k + 1) = l.take k ++ [mn l k] := by rw [List.take_add_one, hm]; rfl
    unfold tabL at ih ⊢
    rw [ht, List.map_append]
    unfold accT
    by_cases hk : k = 0
    · subst hk
      rw [if_pos rfl]
      simp [Lib.join_one, partL, partB, ByteArray.data_append, accT]
    · rw [if_neg hk]
      have hne : (l.take k).map partL ≠ [] := by
        intro e
        have := congrArg List.length e
        rw [List.length_map, List.length_take, List.length_nil] at this
        omega
      rw [List.map_singleton, join_snoc hne, ← ih]
      simp [partL, partB, ByteArray.data_append]
theorem accT_all (l : List Mpg) (h : vTab l = true) : accT l l.length = tabT l := by
  have := accT_list l l.length (Nat.le_refl _)
  rw [List.take_length] at this
  unfold tabT
  rw [h, if_pos rfl, ← this]
theorem fmtEnd_size {a p : Int} (h1 : 0 ≤ a) (h2 : a ≤ 65535) (h3 : 0 ≤ p) (h4 : p ≤ 65535) : (fmtEnd a p).size ≤ 70000 := by
  have x := addrT_size h1 h2
  have y := dec_size p
  unfold fmtEnd fmtE
  split
  · simp only [ByteArray.size_append]
    show _ + 1 + _ ≤ _
    omega
  · exact Nat.zero_le _
/-- The sizes of a valid mapping's pieces. -/
theorem piece_size {l : List Mpg} (h : vTab l = true) {k : Nat} (hk : k < l.length) : (fmtEnd (mn l k).ad (mn l k).ep).size ≤ 70000 ∧ (dec (mn l k).po).size ≤ 1100 ∧ (dec (mn l k).la).size ≤ 10100 := by
  obtain ⟨⟨⟨a1, a2⟩, a3, a4⟩, ⟨b1, b2⟩, c1, c2⟩ := okM_iff.1 (tab_at h hk).1
  have x := dec_size (mn l k).po
  have y := dec_size (mn l k).la
  exact ⟨fmtEnd_size a1 a2 a3 a4, by omega, by omega⟩
theorem accT_size {l : List Mpg} (h : vTab l = true) : ∀ k, k ≤ l.length → (accT l k).size ≤ k * 90000
  | 0, _ => Nat.zero_le _
  | k + 1, hk => by
    have ih := accT_size h k (by omega)
    obtain ⟨p1, p2, p3⟩ := piece_size h (show k < l.length by omega)
    unfold accT
    simp only [ByteArray.size_append]
    have : (if k = 0 then accT l k else accT l k ++ ⟨#[59, 32]⟩).size ≤ (accT l k).size + 2 := by
      split
      · omega
      · rw [ByteArray.size_append]; exact Nat.le_refl _
    show _ + _ + 1 + _ + 1 + _ ≤ _
    omega
theorem tabL_len {l : List Mpg} (h : vTab l = true) : (tabL l).length ≤ 1000000 := by
  have h1 := accT_list l l.length (Nat.le_refl _)
  rw [List.take_length] at h1
  rw [← h1, ← size_list]
  have h2 := accT_size h l.length (Nat.le_refl _)
  have h3 := (vTab_iff.1 h).2
  omega
end Go.Proofs.YtjflfhjnbccpmaaGreatDoor
namespace Go.Proofs.YtjflfhjnbccpmaaGreatDoor
/-- A contact: the port outside, the end to which something was sent. -/
structure Con where
  po : Int
  ad : Int
  ep : Int
deriving DecidableEq
def con0 : Con := ⟨0, 0, 0⟩
/-- The contact at a place. -/
def cn (l : List Con) (k : Nat) : Con := l[k]?.getD con0
theorem cn_at {l : List Con} {k : Nat} (h : k < l.length) : cn l k = l[k] := by simp [cn, h]
theorem cn_take {l : List Con} {k j : Nat} (h : j < k) : cn (l.take k) j = cn l j := by simp [cn, h]
theorem cn_mem {l : List Con} {k : Nat} (h : k < l.length) : cn l k ∈ l := by simp [cn, h]
theorem mem_cn {l : List Con} {c : Con} (h : c ∈ l) : ∃ k, k < l.length ∧ cn l k = c := by
  obtain ⟨k, hk, e⟩ := List.getElem_of_mem h
  exact ⟨k, hk, by rw [cn_at hk]; exact e⟩
def okC (c : Con) : Bool := inB c.po 1000 1007 && (inB c.ad 0 65535 && inB c.ep 0 65535)
/-- The first n contacts hold one. -/
def inC (l : List Con) (c : Con) (n : Nat) : Bool := anyUp (fun k => decide (cn l k = c)) n
def conI (l : List Con) (i : Nat) : Bool := okC (cn l i) && !(inC l (cn l i) i)
/-- Valid contacts. -/
def vCon (l : List Con) : Bool := allUp (conI l) l.length && decide (l.length ≤ 10)
/-- A gate. -/
structure Gt where
  ba : Int
  bi : Int
  ou : Int
  tb : List Mpg
  cs : List Con
  fi : Int
  ho : Int
  no : Int
def tOk (g : Gt) (k : Nat) : Bool := inN g.ba g.bi (mn g.tb k).ad && (decide ((mn g.tb k).la ≤ g.no) && keepM g.no g.ho (mn g.tb k))
def cOk (g : Gt) (k : Nat) : Bool := decide (0 ≤ byP g.tb (cn g.cs k).po g.tb.length)
/-- The numbers of a valid gate. -/
def vNum (g : Gt) : Bool := vNet g.ba g.bi && (inB g.ou 0 65535 && (!(inN g.ba g.bi g.ou) && (inB g.fi 0 2 && (inB g.ho 1 500 && inB g.no 0 10000))))
/-- A valid gate. -/
def vGate (g : Gt) : Bool := vNum g && (vTab g.tb && (vCon g.cs && (allUp (tOk g) g.tb.length && allUp (cOk g) g.cs.length)))
/-- A packet of a session: from an end, to an end, without data. -/
structure Pk where
  fa : Int
  fp : Int
  ta : Int
  tp : Int
def vPk (p : Pk) : Bool := (inB p.fa 0 65535 && inB p.fp 0 65535) && (inB p.ta 0 65535 && inB p.tp 0 65535)
/-- Contacts with a further one behind all others. -/
def noteC (l : List Con) (c : Con) : List Con := (l.filter (fun d => !decide (d = c)) ++ [c]).drop ((l.filter (fun d => !decide (d = c)) ++ [c]).length - 10)
/-- What goes out, and the gate behind it. -/
def sendG (g : Gt) (p : Pk) : Option (Pk × Gt) := match mapT g.tb g.tb.length p.fa p.fp g.no with
  | none => none
  | some (tb, port) => some ({ p with fa := g.ou, fp := port }, { g with tb := tb, cs := noteC g.cs ⟨port, p.ta, p.tp⟩ })
def letQ (fi port fa fp : Int) (c : Con) : Bool := decide (c.po = port) && (decide (c.ad = fa) && (decide (fi = 1) || decide (c.ep = fp)))
/-- The filter lets a packet in. -/
def letG (fi : Int) (l : List Con) (port fa fp : Int) : Bool := decide (fi = 0) || anyUp (fun k => letQ fi port fa fp (cn l k)) l.length
/-- What comes in, and the gate behind it. -/
def recvG (g : Gt) (p : Pk) : Option (Pk × Gt) :=
  if byP g.tb p.tp g.tb.length < 0 then none
  else if letG g.fi g.cs p.tp p.fa p.fp then some ({ p with ta := (mn g.tb (byP g.tb p.tp g.tb.length).toNat).ad, tp := (mn g.tb (byP g.tb p.tp g.tb.length).toNat).ep }, g)
  else none
/-- The way of a packet. -/
def wayG (g : Gt) (p : Pk) : Int :=
  if vGate g && vPk p then
    if inN g.ba g.bi p.fa then (if p.ta = g.ou then 3 else if inN g.ba g.bi p.ta then 0 else 1)
    else if p.ta = g.ou then 2 else 0
  else -1
/-- A packet passes a gate. -/
def fwdG (g : Gt) (p : Pk) : Option (Pk × Gt) :=
  if wayG g p = 1 then sendG g p
  else if wayG g p = 2 then recvG g p
  else if wayG g p = 3 then (match sendG g p with | none => none | some (q, g') => recvG g' q)
  else none
/-- Contacts without those with some ports. -/
def dropC (l : List Con) (ps : List Int) : List Con := l.filter (fun c => !ps.contains c.po)
/-- Ports of the mappings that are not used any more. -/
def goneP (l : List Mpg) (now hold : Int) (k : Nat) : List Int := ((l.take k).filter (fun m => !keepM now hold m)).map (·.po)
/-- A gate at a later time. -/
def tickG (g : Gt) (now : Int) : Option Gt :=
  if vGate g && inB now g.no 10000 then some { g with tb := exM g.tb now g.ho g.tb.length, cs := dropC g.cs (goneP g.tb now g.ho g.tb.length), no := now } else none
def okL : List UInt8 := [111, 107]
def noL : List UInt8 := [110, 111]
def whatL : List UInt8 := [119, 104, 97, 116]
def sendW : List UInt8 := [115, 101, 110, 100]
def waitW : List UInt8 := [119, 97, 105, 116]
def filterW : List UInt8 := [102, 105, 108, 116, 101, 114]
def tableW : List UInt8 := [116, 97, 98, 108, 101]
def countW : List UInt8 := [99, 111, 117, 110, 116]
/-- A command that sends. -/
def sendL (g : Gt) (x y : List UInt8) : List UInt8 × Gt := match parE x, parE y with
  | some (a, b), some (c, d) => (match fwdG g ⟨a, b, c, d⟩ with
    | some (q, g') => ((fmtEnd q.fa q.fp).data.toList ++ 32 :: (fmtEnd q.ta q.tp).data.toList, g')
    | none => (noL, g))
  | _, _ => (noL, g)
/-- A command that waits. -/
def waitL (g : Gt) (n : Int) : List UInt8 × Gt := if n < 0 then (noL, g) else match tickG g (g.no + n) with
  | some g' => (okL, g')
  | none => (noL, g)
/-- A command that sets the filter. -/
def filterL (g : Gt) (n : Int) : List UInt8 × Gt := if inB n 0 2 then (okL, { g with fi := n }) else (noL, g)
/-- A word at a place. -/
def wn (ws : List (List UInt8)) (k : Nat) : List UInt8 := ws[k]?.getD []
/-- A command. -/
def lineL (g : Gt) (s : List UInt8) : List UInt8 × Gt :=
  if decide (wn (spl s 32) 0 = sendW) && decide ((spl s 32).length = 3) then sendL g (wn (spl s 32) 1) (wn (spl s 32) 2)
  else if decide (wn (spl s 32) 0 = waitW) && decide ((spl s 32).length = 2) then waitL g (numV (wn (spl s 32) 1))
  else if decide (wn (spl s 32) 0 = filterW) && decide ((spl s 32).length = 2) then filterL g (numV (wn (spl s 32) 1))
  else if s = tableW then ((tabT g.tb).data.toList, g)
  else if s = countW then (dl g.tb.length ++ 32 :: dl g.cs.length, g)
  else (whatL, g)
/-- The output of lines and the gate behind them. -/
def runL : Gt → List (List UInt8) → List UInt8 × Gt
  | g, [] => ([], g)
  | g, s :: ss => ((lineL g s).1 ++ 10 :: (runL (lineL g s).2 ss).1, (runL (lineL g s).2 ss).2)
/-- The gate of a session. -/
def gate0 : Gt := ⟨2560, 8, 51457, [], [], 2, 100, 0⟩
/-- The output of a session. -/
def sesL (ls : List (List UInt8)) : List UInt8 := (runL gate0 (ls.take 20)).1
theorem runL_app (g : Gt) (a b : List (List UInt8)) : runL g (a ++ b) = ((runL g a).1 ++ (runL (runL g a).2 b).1, (runL (runL g a).2 b).2) := by
  induction a generalizing g with
  | nil => rfl
  | cons s ss ih => simp only [List.cons_append, runL, ih, List.append_assoc]
/-- The output for the first lines is the beginning of the output for all. -/
theorem sesL_take (ls : List (List UInt8)) (n : Nat) : ∃ r, sesL ls = sesL (ls.take n) ++ r := by
  unfold sesL
  rw [List.take_take]
  rcases Nat.le_total n 20 with h | h
  · rw [Nat.min_eq_right h]
    refine ⟨(runL (runL gate0 (ls.take n)).2 ((ls.take 20).drop n)).1, ?_⟩
    have e : ls.take 20 = ls.take n ++ (ls.take 20).drop n := by
      have := List.take_append_drop n (ls.take 20)
      rw [List.take_take, Nat.min_eq_left h] at this
      exact this.symm
    have := congrArg (fun x => (runL gate0 x).1) e
    simp only [runL_app] at this
    exact this
  · rw [Nat.min_eq_left h]
    exact ⟨[], by simp⟩
end Go.Proofs.YtjflfhjnbccpmaaGreatDoor
namespace Go.Proofs.YtjflfhjnbccpmaaGreatDoor
open Go.RowKit
/-- The cells of a mapping. -/
def conC (r : Con) : List Value := [.int .i64 r.po, .int .i64 r.ad, .int .i64 r.ep]
def conCs (l : List Con) : List Value := l.flatMap conC
/-- The cells behind A begin with the mappings l. -/
def TK (w : World) (A : Option Addr) (l : List Con) : Prop := Rd w A (conCs l)
theorem conC_len (r : Con) : (conC r).length = 3 := rfl
theorem conCs_len (l : List Con) : (conCs l).length = l.length * 3 := by
  induction l with
  | nil => rfl
  | cons r l ih => unfold conCs at ih ⊢; rw [List.flatMap_cons, List.length_append, ih, conC_len, List.length_cons]; omega
theorem conCs_app (l m : List Con) : conCs (l ++ m) = conCs l ++ conCs m := by unfold conCs; rw [List.flatMap_append]
theorem conCs_at {l : List Con} : ∀ {k j : Nat}, k < l.length → j < 3 → (conCs l)[k * 3 + j]? = (conC (cn l k))[j]? := by
  induction l with
  | nil => intro k j hk; cases hk
  | cons r l ih =>
    intro k j hk hj
    unfold conCs
    rw [List.flatMap_cons]
    cases k with
    | zero => rw [Nat.zero_mul, Nat.zero_add, List.getElem?_append_left (by rw [conC_len]; exact hj)]; rfl
    | succ k =>
      rw [List.getElem?_append_right (by rw [conC_len]; omega), conC_len, show (k + 1) * 3 + j - 3 = k * 3 + j by omega]
      have := ih (k := k) (j := j) (by simpa using hk) hj
      unfold conCs at this
      rw [this]
      simp [cn]
section
variable {w w' : World} {A : Option Addr} {l : List Con}
theorem TK.nil (w : World) (A : Option Addr) : TK w A [] := Rd.nil w A
theorem TK.to (h : TK w A l) (hb : Below w.heap.size w w') : TK w' A l := Rd.to h hb
theorem TK.alloc (h : TK w A l) (o : Obj) : TK (w.alloc o) A l := Rd.alloc h o
theorem TK.drewN (h : TK w A l) (n : Nat) : TK (w.drewN n) A l := h
theorem TK.take (h : TK w A l) (k : Nat) : TK w A (l.take k) := fun i v hi => h i v (by
  have hle : l.take k ++ l.drop k = l := List.take_append_drop k l
  rw [← hle, conCs_app]
  rw [List.getElem?_append_left]
  · exact hi
  · rcases Nat.lt_or_ge i (conCs (l.take k)).length with h1 | h1
    · exact h1
    · rw [List.getElem?_eq_none h1] at hi; cases hi)
/-- The cells of the k-th mapping. -/
theorem TK.get (h : TK w A l) {k : Nat} (hk : k < l.length) :
    ∃ b off, A = some ⟨b, off, none⟩ ∧ b < w.heap.size ∧ w.cell? ⟨b, off + k * 3, none⟩ = some (.int .i64 (cn l k).po) ∧ w.cell? ⟨b, off + k * 3 + 1, none⟩ = some (.int .i64 (cn l k).ad) ∧
      w.cell? ⟨b, off + k * 3 + 2, none⟩ = some (.int .i64 (cn l k).ep) := by
  have hc : ∀ j v, j < 3 → (conC (cn l k))[j]? = some v → ∃ b off, A = some ⟨b, off, none⟩ ∧ b < w.heap.size ∧ w.cell? ⟨b, off + (k * 3 + j), none⟩ = some v := fun j v hj hv => h _ v ((conCs_at hk hj).trans hv)
  obtain ⟨b, off, rfl, hb, h0⟩ := hc 0 _ (by omega) rfl
  obtain ⟨_, _, e1, _, h1⟩ := hc 1 _ (by omega) rfl
  obtain ⟨_, _, e2, _, h2⟩ := hc 2 _ (by omega) rfl
  cases e1; cases e2
  exact ⟨b, off, rfl, hb, by simpa using h0, by simpa [Nat.add_assoc] using h1, by simpa [Nat.add_assoc] using h2⟩
end
end Go.Proofs.YtjflfhjnbccpmaaGreatDoor
namespace Go.Proofs.YtjflfhjnbccpmaaGreatDoor
open Go.RowKit
def eqK (r s : Con) : Bool := r.po == s.po && eqE r.ad r.ep s.ad s.ep
theorem eqK_iff {r s : Con} : eqK r s = true ↔ r = s := by
  obtain ⟨a, b, c⟩ := r
  obtain ⟨a', b', c'⟩ := s
  unfold eqK eqE
  simp [Bool.and_eq_true]
theorem eqK_dec (r s : Con) : eqK r s = decide (r = s) := by
  rw [Bool.eq_iff_iff, eqK_iff, decide_eq_true_eq]
theorem equalIn_con (W : World) (r s : Con) : (Op.equalIn 10000 129 (.agg #[.int .i64 r.po, .int .i64 r.ad, .int .i64 r.ep]) (.agg #[.int .i64 s.po, .int .i64 s.ad, .int .i64 s.ep])).run Tryz.prog W = .ok (eqK r s) W := by
  have hp : Tryz.prog.stoodInHeld 129 = false := by kernel_rfl
  have hf : Tryz.prog.underlying 129 = some (.struct (Tryz.prog.fieldsOf 129)) := by kernel_rfl
  have hi := fun d (W : World) (a b : Int) => run_equalIn_int (P := Tryz.prog) W d 3 .i64 .i64 a b Tryz.underlying3
  rw [show (10000 : Nat) = 9998 + 1 + 1 from rfl, run_equalIn_agg W _ _ _ _ hf hp]
  unfold Program.fieldsOf
  rw [Tryz.underlying129]
  unfold eqK
  have he := fun d (W : World) (a b c d' : Int) => (by
    have hp : Tryz.prog.stoodInHeld 70 = false := by kernel_rfl
    have hf : Tryz.prog.underlying 70 = some (.struct (Tryz.prog.fieldsOf 70)) := by kernel_rfl
    have hi := fun d (W : World) (a b : Int) => run_equalIn_int (P := Tryz.prog) W d 3 .i64 .i64 a b Tryz.underlying3
    rw [run_equalIn_agg W _ _ _ _ hf hp]
    unfold Program.fieldsOf
    rw [Tryz.underlying70]
    unfold eqE
    cases h1 : a == c
    · simp [Op.eqFields, hi, go_sem, h1]
    · simp [Op.eqFields, hi, go_sem, h1]
      by_cases h2 : b = d' <;> simp [h2] : (Op.equalIn (d + 1 + 1) 70 (.agg #[.int .i64 a, .int .i64 b]) (.agg #[.int .i64 c, .int .i64 d'])).run Tryz.prog W = .ok (eqE a b c d') W)
  cases h1 : r.po == s.po
  · simp [Op.eqFields, hi, go_sem, h1]
  simp [Op.eqFields, hi, he, go_sem, h1]
  cases h3 : eqE r.ad r.ep s.ad s.ep <;> rfl
theorem eql_con (W : World) (r s : Con) : (binOp .eql 129 (.agg #[.int .i64 r.po, .int .i64 r.ad, .int .i64 r.ep]) (.agg #[.int .i64 s.po, .int .i64 s.ad, .int .i64 s.ep])).run Tryz.prog W = .ok (.bool (eqK r s)) W := by
  rw [run_eql_struct, equalIn_con]; rfl
theorem neq_con (W : World) (r s : Con) : (binOp .neq 129 (.agg #[.int .i64 r.po, .int .i64 r.ad, .int .i64 r.ep]) (.agg #[.int .i64 s.po, .int .i64 s.ad, .int .i64 s.ep])).run Tryz.prog W = .ok (.bool (!eqK r s)) W := by
  rw [run_neq_struct, equalIn_con]; rfl
theorem guard_con (W : World) (op : BinOp) (x y : Operand) (xs ys : Array Value) : (eqGuard op 129 x y (.agg xs) (.agg ys)).run Tryz.prog W = .ok () W := run_eqGuard_agg W op _ x y xs ys (by kernel_rfl)
end Go.Proofs.YtjflfhjnbccpmaaGreatDoor
namespace Go.Proofs.YtjflfhjnbccpmaaGreatDoor
open Go.RowKit
/-- The function value g with what it captured gives p at every contact, in every world in which all that lay in w0 lies unturned. -/
def PredK (g : Nat) (lb : Array Value) (p : Con → Bool) (w0 : World) : Prop :=
  ∀ (W : World) (x : Con), Below w0.heap.size w0 W → Calls Tryz.prog g (#[.agg #[.int .i64 x.po, .int .i64 x.ad, .int .i64 x.ep]] ++ lb) W fun e w' => e = .returned (.bool (p x)) ∧ Below W.heap.size W w'
theorem c_IndexK (g : Nat) (lb : Array Value) (p : Con → Bool) (w0 : World) (eg : ∀ args w, (callFunc g args).run Tryz.prog w = .ok (.enter g args) w) (A : Option Addr) (n c : Nat) (l : List Con) (w : World)
    (hP : PredK g lb p w0) (hw : Below w0.heap.size w0 w) (hn : l.length = n) (h : TK w A l) (hl : n ≤ 1099511627776) :
    Calls Tryz.prog 167 #[.slice A n c, .func (.func g) #[] lb] w fun e w' => e = .returned (.int .i64 (idx (fun k => p (cn l k)) n)) ∧ Below w.heap.size w w' := by
  have HN := Lib.hid hn
  have HC : Hid (∀ W x, Below w.heap.size w W → Calls Tryz.prog g (#[.agg #[.int .i64 x.po, .int .i64 x.ad, .int .i64 x.ep]] ++ lb) W fun e w' => e = .returned (.bool (p x)) ∧ Below W.heap.size W w') := fun W x hW => hP W x (Bl.then hw hW)
  clear hn hP hw
  go_enter Tryz.func167, Tryz.ntmps167
  go_wp2
  go_loopw [8] (fun i wr => ∃ k : Nat, k ≤ n ∧ i = .int .i64 k ∧ Hid (∀ j, j < k → p (cn l j) = false) ∧ Hid (Below w.heap.size w wr)) (fun i _ => n - (intOf i).toNat)
  case atStart => exact ⟨0, Nat.zero_le _, rfl, fun j hj => absurd hj (by omega), Below.refl _ _⟩
  case round =>
    obtain ⟨k, hk, rfl, hF, hB⟩ := hrel
    by_cases hlt : k < n
    · obtain ⟨b, off, rfl, hb, c0, c1, c2⟩ := (h.to hB.out).get (k := k) (by rw [HN.out]; exact hlt)
      have hcall := HC.out wr (cn l k) hB.out
      generalize hx : cn l k = x at c0 c1 c2 hcall
      have HX := Lib.hid hx
      clear hx
      cases hp : p x
      · rw [hp] at hcall
        go_wp2_with (go_at_fn g; refine hcall.mono ?_; rintro e w' ⟨rfl, hq⟩)
        go_roundw
        case rel => exact ⟨k + 1, by omega, by go_num, upTo_succ hF.out (by rw [HX.out]; exact hp), Bl.then hB.out hq⟩
        case measure => simp [intOf]; omega
      · rw [hp] at hcall
        go_wp2_with (go_at_fn g; refine hcall.mono ?_; rintro e w' ⟨rfl, hq⟩)
        go_ret
        exact ⟨ret_int (by rw [idx_some hlt (by rw [HX.out]; exact hp) hF.out]), Bl.then hB.out hq⟩
    · go_wp2
      go_ret
      exact ⟨ret_int (by rw [idx_none (fun j hj => hF.out j (by omega))]), hB.out⟩
theorem c_ContainsK (g : Nat) (lb : Array Value) (p : Con → Bool) (w0 : World) (eg : ∀ args w, (callFunc g args).run Tryz.prog w = .ok (.enter g args) w) (A : Option Addr) (n c : Nat) (l : List Con) (w : World)
    (hP : PredK g lb p w0) (hw : Below w0.heap.size w0 w) (hn : l.length = n) (h : TK w A l) (hl : n ≤ 1099511627776) :
    Calls Tryz.prog 114 #[.slice A n c, .func (.func g) #[] lb] w fun e w' => e = .returned (.bool (decide (0 ≤ idx (fun k => p (cn l k)) n))) ∧ Below w.heap.size w w' := by
  have HC := Lib.hid (c_IndexK g lb p w0 eg A n c l w hP hw hn h hl)
  clear hn hP hw eg h
  go_enter Tryz.func114, Tryz.ntmps114
  go_wp2_with fail
  refine HC.out.mono ?_
  rintro e w' ⟨rfl, b⟩
  go_wp2
  go_ret
  exact ⟨ret_bool (by rfl), b⟩
end Go.Proofs.YtjflfhjnbccpmaaGreatDoor
namespace Go.Proofs.YtjflfhjnbccpmaaGreatDoor
open Go.RowKit
theorem run_clear_k {P : Program} (w : World) (t e ty : TypeId) (zs : Array Value) (ht : P.underlying t = some (.slice e)) (hv : ∀ w, (zeroValue e).run P w = .ok (.agg zs) w) (b o n c : Nat) (h1 : ∀ v ∈ (Builtin.zeroCells zs n).toList, v.oneCell' = true) (hn : 0 < n)
    (hc : ∀ j, j < (Builtin.zeroCells zs n).toList.length → (w.cell? ⟨b, o + j, none⟩).isSome = true) (hf : ∀ j, j < (Builtin.zeroCells zs n).toList.length → w.frozen? ⟨b, o + j, none⟩ = false) :
    (Builtin.clear_ #[t] ty #[.slice (some ⟨b, o, none⟩) n c]).run P w = .ok (.tuple #[]) (w.setCells b o (Builtin.zeroCells zs n).toList) := by
  have hst := run_storeCells_cells (P := P) b o (Builtin.zeroCells zs n).toList 0 w (by simpa using hc) (by simpa using hf) h1
  simp only [Nat.add_zero] at hst
  obtain ⟨m, rfl⟩ : ∃ m, n = m + 1 := ⟨n - 1, by omega⟩
  simp [Builtin.clear_, run_underlying ht, hv, Value.cells, hst]
theorem zero_one {zs : Array Value} {n : Nat} (h : ∀ v ∈ zs, v.oneCell' = true) (h0 : 0 < zs.size) : ∀ v ∈ (Builtin.zeroCells zs n).toList, v.oneCell' = true := by
  intro v hv
  unfold Builtin.zeroCells at hv
  simp only [Array.toList_map, List.mem_map] at hv
  obtain ⟨i, _, rfl⟩ := hv
  have hi : i % zs.size < zs.size := Nat.mod_lt _ h0
  rw [getElem!_pos zs _ hi]
  exact h _ (Array.getElem_mem hi)
theorem zero_len (zs : Array Value) (n : Nat) : (Builtin.zeroCells zs n).toList.length = n * zs.size := by
  rw [Array.length_toList, size_zeroCells]
theorem Blk.setsK {g : Nat} {t : TypeId} : ∀ {vs : List Value} {o : Nat} {w : World} {cur : Array Value}, Blk w g t cur →
    ∃ cur', Blk (w.setCells g o vs) g t cur' ∧ cur'.size = cur.size ∧ (∀ j, j < o → cur'[j]? = cur[j]?) ∧ w.grownBy (w.setCells g o vs) (some g)
  | [], o, w, cur, h => ⟨cur, h, rfl, fun _ _ => rfl, World.grownBy.refl w _⟩
  | v :: r, o, w, cur, h => by
    obtain ⟨cur', h1, h2, h3, h4⟩ := Blk.setsK (vs := r) (o := o + 1) (h.set_ o v)
    exact ⟨cur', h1, by rw [h2]; simp, fun j hj => by rw [h3 j (by omega), Array.getElem?_setIfInBounds_ne (by omega)], grown_trans (grown_put g o v) h4⟩
/-- What is kept of the first j. -/
def keptG {α : Type} (p : α → Bool) (l : List α) (j : Nat) : List α := (l.take j).filter (fun x => !p x)
section
variable {α : Type} {p : α → Bool} {l : List α} {j : Nat}
theorem keptG_succ (h : j < l.length) : keptG p l (j + 1) = if p l[j] then keptG p l j else keptG p l j ++ [l[j]] := by
  unfold keptG
  rw [List.take_add_one, List.getElem?_eq_getElem h, List.filter_append]
  cases hp : p l[j] <;> simp [hp]
theorem keptG_all (hj : j ≤ l.length) (h : ∀ k (hk : k < l.length), k < j → p l[k] = false) : keptG p l j = l.take j := by
  unfold keptG
  rw [List.filter_eq_self]
  intro x hx
  obtain ⟨k, hk, rfl⟩ := List.getElem_of_mem hx
  rw [List.length_take] at hk
  rw [List.getElem_take, h k (by omega) (by omega)]
  rfl
theorem keptG_end (p : α → Bool) (l : List α) : keptG p l l.length = l.filter (fun x => !p x) := by unfold keptG; rw [List.take_length]
end
section
variable {cs : Array Value} {L : List Value} {i : Nat} {a b c d : Value}
theorem sets4 (hL : L.length = i * 4) (hs : i * 4 + 3 < cs.size) (h : ∀ t, t < i * 4 → cs[t]? = L[t]?) :
    ∀ t, t < (i + 1) * 4 → ((((cs.setIfInBounds (i * 4) a).setIfInBounds (i * 4 + 1) b).setIfInBounds (i * 4 + 2) c).setIfInBounds (i * 4 + 3) d)[t]? = (L ++ [a, b, c, d])[t]? := by
  intro t ht
  rcases Nat.lt_or_ge t (i * 4) with h1 | h1
  · rw [Array.getElem?_setIfInBounds_ne (by omega), Array.getElem?_setIfInBounds_ne (by omega), Array.getElem?_setIfInBounds_ne (by omega), Array.getElem?_setIfInBounds_ne (by omega), List.getElem?_append_left (by omega), h t h1]
  · rw [List.getElem?_append_right (by omega), hL]
    obtain ⟨r, rfl⟩ : ∃ r, t = i * 4 + r := ⟨t - i * 4, by omega⟩
    rw [Nat.add_sub_cancel_left]
    match r, (show r < 4 by omega) with
    | 0, _ => show _ = some a; rw [show i * 4 + 0 = i * 4 from rfl, Array.getElem?_setIfInBounds_ne (by omega), Array.getElem?_setIfInBounds_ne (by omega), Array.getElem?_setIfInBounds_ne (by omega), Array.getElem?_setIfInBounds_self_of_lt (by omega)]
    | 1, _ => rw [Array.getElem?_setIfInBounds_ne (by omega), Array.getElem?_setIfInBounds_ne (by omega), Array.getElem?_setIfInBounds_self_of_lt (by simp; omega)]; rfl
    | 2, _ => rw [Array.getElem?_setIfInBounds_ne (by omega), Array.getElem?_setIfInBounds_self_of_lt (by simp; omega)]; rfl
    | 3, _ => rw [Array.getElem?_setIfInBounds_self_of_lt (by simp; omega)]; rfl
theorem far4 {t : Nat} (h : i * 4 + 4 ≤ t) : ((((cs.setIfInBounds (i * 4) a).setIfInBounds (i * 4 + 1) b).setIfInBounds (i * 4 + 2) c).setIfInBounds (i * 4 + 3) d)[t]? = cs[t]? := by
  rw [Array.getElem?_setIfInBounds_ne (by omega), Array.getElem?_setIfInBounds_ne (by omega), Array.getElem?_setIfInBounds_ne (by omega), Array.getElem?_setIfInBounds_ne (by omega)]
theorem sets3 (hL : L.length = i * 3) (hs : i * 3 + 2 < cs.size) (h : ∀ t, t < i * 3 → cs[t]? = L[t]?) :
    ∀ t, t < (i + 1) * 3 → (((cs.setIfInBounds (i * 3) a).setIfInBounds (i * 3 + 1) b).setIfInBounds (i * 3 + 2) c)[t]? = (L ++ [a, b, c])[t]? := by
  intro t ht
  rcases Nat.lt_or_ge t (i * 3) with h1 | h1
  · rw [Array.getElem?_setIfInBounds_ne (by omega), Array.getElem?_setIfInBounds_ne (by omega), Array.getElem?_setIfInBounds_ne (by omega), List.getElem?_append_left (by omega), h t h1]
  · rw [List.getElem?_append_right (by omega), hL]
    obtain ⟨r, rfl⟩ : ∃ r, t = i * 3 + r := ⟨t - i * 3, by omega⟩
    rw [Nat.add_sub_cancel_left]
    match r, (show r < 3 by omega) with
    | 0, _ => show _ = some a; rw [show i * 3 + 0 = i * 3 from rfl, Array.getElem?_setIfInBounds_ne (by omega), Array.getElem?_setIfInBounds_ne (by omega), Array.getElem?_setIfInBounds_self_of_lt (by omega)]
    | 1, _ => rw [Array.getElem?_setIfInBounds_ne (by omega), Array.getElem?_setIfInBounds_self_of_lt (by simp; omega)]; rfl
    | 2, _ => rw [Array.getElem?_setIfInBounds_self_of_lt (by simp; omega)]; rfl
theorem far3 {t : Nat} (h : i * 3 + 3 ≤ t) : (((cs.setIfInBounds (i * 3) a).setIfInBounds (i * 3 + 1) b).setIfInBounds (i * 3 + 2) c)[t]? = cs[t]? := by
  rw [Array.getElem?_setIfInBounds_ne (by omega), Array.getElem?_setIfInBounds_ne (by omega), Array.getElem?_setIfInBounds_ne (by omega)]
end
end Go.Proofs.YtjflfhjnbccpmaaGreatDoor
