/- Contracts of the reference's functions that make tables: freePort, expired, expire. -/
import Derived.Test.YthlaldikdlljfaaDoorT3
import Derived.Test.YthlaldikdlljfaaDoorRG2
namespace Go.Proofs.YthlaldikdlljfaaDoor
open Go.RowKit

def fpP (l : List Mpg) (n : Nat) (want : Int) (k : Nat) : Bool := (((1000 : Int) + k) % 2 == want % 2) && decide (byP l ((1000 : Int) + k) n < 0)
def fpQ (l : List Mpg) (n : Nat) (k : Nat) : Bool := decide (byP l ((1000 : Int) + k) n < 0)
/-- The port for a new mapping, -1 for none. -/
def fpt (l : List Mpg) (n : Nat) (want : Int) : Int :=
  if (inB want 1000 1007 && decide (byP l want n < 0)) = true then want
  else if 0 ≤ idx (fpP l n want) 8 then 1000 + idx (fpP l n want) 8
  else if 0 ≤ idx (fpQ l n) 8 then 1000 + idx (fpQ l n) 8 else -1
theorem fpt_bd (l : List Mpg) (n : Nat) (want : Int) : -1 ≤ fpt l n want ∧ fpt l n want ≤ 1007 := by
  have h1 := idx_bd (fpP l n want) 8
  have h2 := idx_bd (fpQ l n) 8
  unfold fpt
  split
  · rename_i h
    simp only [Bool.and_eq_true] at h
    have := inB_true h.1
    omega
  · split
    · omega
    · split <;> omega
theorem fpt_own {l : List Mpg} {n : Nat} {want : Int} (h : (inB want 1000 1007 && decide (byP l want n < 0)) = true) : fpt l n want = want := by unfold fpt; rw [if_pos h]
theorem fpt_par {l : List Mpg} {n : Nat} {want : Int} (h : (inB want 1000 1007 && decide (byP l want n < 0)) = false) {k : Nat} (hk : idx (fpP l n want) 8 = k) : fpt l n want = 1000 + k := by
  unfold fpt
  rw [h, if_neg (by decide), if_pos (by omega), hk]
theorem fpt_any {l : List Mpg} {n : Nat} {want : Int} (h : (inB want 1000 1007 && decide (byP l want n < 0)) = false) (hk : idx (fpP l n want) 8 = -1) : fpt l n want = if 0 ≤ idx (fpQ l n) 8 then 1000 + idx (fpQ l n) 8 else -1 := by
  unfold fpt
  rw [h, if_neg (by decide), if_neg (by omega)]

set_option maxHeartbeats 1600000 in
theorem c_freePort (A : Option Addr) (n c : Nat) (l : List Mpg) (want : Int) (w : World) (hn : l.length = n) (h : TM w A l) (hl : n ≤ 1099511627776) (h0 : 0 ≤ want) :
    Calls Tryd.prog 119 #[.slice A n c, .int .i64 want] w fun e w' => e = .returned (.int .i64 (fpt l n want)) ∧ w = w' := by
  have HN := Lib.hid hn
  clear hn
  go_enter Tryd.func119, Tryd.ntmps119
  go_wp2_with fail
  refine (c_inRange _ _ _ _).mono ?_
  rintro e w' ⟨rfl, rfl⟩
  cases h1 : inB want 1000 1007
  · have HF1 : Hid (∀ {k : Nat}, idx (fpP l n want) 8 = k → fpt l n want = 1000 + k) := fun {k} e => fpt_par (by rw [h1]; rfl) e
    have HF0 : Hid (idx (fpP l n want) 8 = -1 → fpt l n want = if 0 ≤ idx (fpQ l n) 8 then 1000 + idx (fpQ l n) 8 else -1) := fun e => fpt_any (by rw [h1]; rfl) e
    go_wp2
    go_loop [5] (fun i => ∃ k : Nat, k ≤ 8 ∧ i = .int .i64 ((1000 : Int) + k) ∧ Hid (∀ j, j < k → fpP l n want j = false)) (fun i => 1008 - (intOf i).toNat)
    case atStart => exact ⟨0, by omega, rfl, fun j hj => absurd hj (by omega)⟩
    case round =>
      obtain ⟨k, hk, rfl, hF⟩ := hrel
      by_cases hk8 : k < 8
      · have t9 : decide ((1000 : Int) + k ≤ 1007) = true := by rw [decide_eq_true_eq]; omega
        have e1 : IntKind.i64.wrap ((1000 : Int) + k + 1) = 1000 + k + 1 := IntWalk.i64_in _ (by omega)
        have hp : fpP l n want k = ((((1000 : Int) + k) % 2 == want % 2) && decide (byP l ((1000 : Int) + k) n < 0)) := rfl
        have HPP := Lib.hid hp
        clear hp
        cases tq : (((1000 : Int) + k) % 2 == want % 2)
        · have HT := Lib.hid tq
          go_wp2
          go_round
          case rel => exact ⟨k + 1, by omega, by first | rfl | (congr 1; omega), upTo_succ hF.out (by rw [HPP.out, HT.out]; rfl)⟩
          case measure => simp [intOf]; omega
        · have HT := Lib.hid tq
          go_wp2_with fail
          refine (c_sByPort _ _ _ l ((1000 : Int) + k) _ HN.out h hl).mono ?_
          rintro e w' ⟨rfl, rfl⟩
          generalize byP l ((1000 : Int) + k) n = z at HPP
          by_cases hz : z < 0
          · have tz : decide (z < 0) = true := by rw [decide_eq_true_eq]; exact hz
            have HZ := Lib.hid tz
            go_wp2
            go_ret
            exact ⟨ret_int (by rw [HF1.out (k := k) (idx_some hk8 (by rw [HPP.out, HT.out, HZ.out]; rfl) hF.out)]), rfl⟩
          · have tz : decide (z < 0) = false := by rw [decide_eq_false_iff_not]; exact hz
            have HZ := Lib.hid tz
            go_wp2
            go_round
            case rel => exact ⟨k + 1, by omega, by first | rfl | (congr 1; omega), upTo_succ hF.out (by rw [HPP.out, HT.out, HZ.out]; rfl)⟩
            case measure => simp [intOf]; omega
      · obtain rfl : k = 8 := by omega
        go_wp2
        go_loop [6] (fun i => ∃ k : Nat, k ≤ 8 ∧ i = .int .i64 ((1000 : Int) + k) ∧ Hid (∀ j, j < k → fpQ l n j = false)) (fun i => 1008 - (intOf i).toNat)
        case atStart => exact ⟨0, by omega, rfl, fun j hj => absurd hj (by omega)⟩
        case round =>
          obtain ⟨k, hk, rfl, hQ⟩ := hrel
          by_cases hk8 : k < 8
          · have t9 : decide ((1000 : Int) + k ≤ 1007) = true := by rw [decide_eq_true_eq]; omega
            have e1 : IntKind.i64.wrap ((1000 : Int) + k + 1) = 1000 + k + 1 := IntWalk.i64_in _ (by omega)
            have hq : fpQ l n k = decide (byP l ((1000 : Int) + k) n < 0) := rfl
            have HQQ := Lib.hid hq
            clear hq
            go_wp2_with fail
            refine (c_sByPort _ _ _ l ((1000 : Int) + k) _ HN.out h hl).mono ?_
            rintro e w' ⟨rfl, rfl⟩
            generalize byP l ((1000 : Int) + k) n = z at HQQ
            by_cases hz : z < 0
            · have tz : decide (z < 0) = true := by rw [decide_eq_true_eq]; exact hz
              have HZ := Lib.hid tz
              go_wp2
              go_ret
              exact ⟨ret_int (by rw [HF0.out (idx_none hF.out) , idx_some (P := fpQ l n) hk8 (by rw [HQQ.out, HZ.out]) hQ.out, if_pos (by omega)]), rfl⟩
            · have tz : decide (z < 0) = false := by rw [decide_eq_false_iff_not]; exact hz
              have HZ := Lib.hid tz
              go_wp2
              go_round
              case rel => exact ⟨k + 1, by omega, by first | rfl | (congr 1; omega), upTo_succ hQ.out (by rw [HQQ.out, HZ.out])⟩
              case measure => simp [intOf]; omega
          · obtain rfl : k = 8 := by omega
            go_wp2
            go_ret
            exact ⟨ret_int (by rw [HF0.out (idx_none hF.out), idx_none (P := fpQ l n) hQ.out]; rfl), rfl⟩
  · have hb := inB_true h1
    have HB1 := Lib.hid h1
    go_wp2_with fail
    refine (c_sByPort _ _ _ l want _ HN.out h hl).mono ?_
    rintro e w' ⟨rfl, rfl⟩
    generalize hx0 : byP l want n = x
    have HX0 := Lib.hid hx0
    clear hx0
    by_cases hx : x < 0
    · have t0 : decide (x < 0) = true := by rw [decide_eq_true_eq]; exact hx
      have HT0 := Lib.hid t0
      go_wp2
      go_ret
      exact ⟨ret_int (by rw [fpt_own (by rw [HB1.out, HX0.out, HT0.out]; rfl)]), rfl⟩
    · have t0 : decide (x < 0) = false := by rw [decide_eq_false_iff_not]; exact hx
      have HF1 : Hid (∀ {k : Nat}, idx (fpP l n want) 8 = k → fpt l n want = 1000 + k) := fun {k} e => fpt_par (by rw [HX0.out, t0]; simp) e
      have HF0 : Hid (idx (fpP l n want) 8 = -1 → fpt l n want = if 0 ≤ idx (fpQ l n) 8 then 1000 + idx (fpQ l n) 8 else -1) := fun e => fpt_any (by rw [HX0.out, t0]; simp) e
      go_wp2
      go_loop [5] (fun i => ∃ k : Nat, k ≤ 8 ∧ i = .int .i64 ((1000 : Int) + k) ∧ Hid (∀ j, j < k → fpP l n want j = false)) (fun i => 1008 - (intOf i).toNat)
      case atStart => exact ⟨0, by omega, rfl, fun j hj => absurd hj (by omega)⟩
      case round =>
        obtain ⟨k, hk, rfl, hF⟩ := hrel
        by_cases hk8 : k < 8
        · have t9 : decide ((1000 : Int) + k ≤ 1007) = true := by rw [decide_eq_true_eq]; omega
          have e1 : IntKind.i64.wrap ((1000 : Int) + k + 1) = 1000 + k + 1 := IntWalk.i64_in _ (by omega)
          have hp : fpP l n want k = ((((1000 : Int) + k) % 2 == want % 2) && decide (byP l ((1000 : Int) + k) n < 0)) := rfl
          have HPP := Lib.hid hp
          clear hp
          cases tq : (((1000 : Int) + k) % 2 == want % 2)
          · have HT := Lib.hid tq
            go_wp2
            go_round
            case rel => exact ⟨k + 1, by omega, by first | rfl | (congr 1; omega), upTo_succ hF.out (by rw [HPP.out, HT.out]; rfl)⟩
            case measure => simp [intOf]; omega
          · have HT := Lib.hid tq
            go_wp2_with fail
            refine (c_sByPort _ _ _ l ((1000 : Int) + k) _ HN.out h hl).mono ?_
            rintro e w' ⟨rfl, rfl⟩
            generalize byP l ((1000 : Int) + k) n = z at HPP
            by_cases hz : z < 0
            · have tz : decide (z < 0) = true := by rw [decide_eq_true_eq]; exact hz
              have HZ := Lib.hid tz
              go_wp2
              go_ret
              exact ⟨ret_int (by rw [HF1.out (k := k) (idx_some hk8 (by rw [HPP.out, HT.out, HZ.out]; rfl) hF.out)]), rfl⟩
            · have tz : decide (z < 0) = false := by rw [decide_eq_false_iff_not]; exact hz
              have HZ := Lib.hid tz
              go_wp2
              go_round
              case rel => exact ⟨k + 1, by omega, by first | rfl | (congr 1; omega), upTo_succ hF.out (by rw [HPP.out, HT.out, HZ.out]; rfl)⟩
              case measure => simp [intOf]; omega
        · obtain rfl : k = 8 := by omega
          go_wp2
          go_loop [6] (fun i => ∃ k : Nat, k ≤ 8 ∧ i = .int .i64 ((1000 : Int) + k) ∧ Hid (∀ j, j < k → fpQ l n j = false)) (fun i => 1008 - (intOf i).toNat)
          case atStart => exact ⟨0, by omega, rfl, fun j hj => absurd hj (by omega)⟩
          case round =>
            obtain ⟨k, hk, rfl, hQ⟩ := hrel
            by_cases hk8 : k < 8
            · have t9 : decide ((1000 : Int) + k ≤ 1007) = true := by rw [decide_eq_true_eq]; omega
              have e1 : IntKind.i64.wrap ((1000 : Int) + k + 1) = 1000 + k + 1 := IntWalk.i64_in _ (by omega)
              have hq : fpQ l n k = decide (byP l ((1000 : Int) + k) n < 0) := rfl
              have HQQ := Lib.hid hq
              clear hq
              go_wp2_with fail
              refine (c_sByPort _ _ _ l ((1000 : Int) + k) _ HN.out h hl).mono ?_
              rintro e w' ⟨rfl, rfl⟩
              generalize byP l ((1000 : Int) + k) n = z at HQQ
              by_cases hz : z < 0
              · have tz : decide (z < 0) = true := by rw [decide_eq_true_eq]; exact hz
                have HZ := Lib.hid tz
                go_wp2
                go_ret
                exact ⟨ret_int (by rw [HF0.out (idx_none hF.out) , idx_some (P := fpQ l n) hk8 (by rw [HQQ.out, HZ.out]) hQ.out, if_pos (by omega)]), rfl⟩
              · have tz : decide (z < 0) = false := by rw [decide_eq_false_iff_not]; exact hz
                have HZ := Lib.hid tz
                go_wp2
                go_round
                case rel => exact ⟨k + 1, by omega, by first | rfl | (congr 1; omega), upTo_succ hQ.out (by rw [HQQ.out, HZ.out])⟩
                case measure => simp [intOf]; omega
            · obtain rfl : k = 8 := by omega
              go_wp2
              go_ret
              exact ⟨ret_int (by rw [HF0.out (idx_none hF.out), idx_none (P := fpQ l n) hQ.out]; rfl), rfl⟩

/-- A row of the call's own that reads as mappings. -/
def MO (w : World) (base : Nat) (v : Value) (l : List Mpg) : Prop := w.ownsRow base 48 4 v l.length (mapCs l)
section
variable {w w' : World} {base g n c : Nat} {v : Value} {A : Option Addr} {l : List Mpg}
theorem MO.kept (h : MO w base v l) (hg : w.grownBy w' (some g)) (hlt : g < base) : MO w' base v l := own_kept h hg hlt
theorem MO.to (h : MO w base v l) (hb : Below w.heap.size w w') : MO w' base v l := own_to h hb (Nat.le_refl _)
theorem MO.alloc (h : MO w base v l) (o : Obj) : MO (w.alloc o) base v l := World.ownsRow.alloc h o
theorem MO.drewN (h : MO w base v l) (k : Nat) : MO (w.drewN k) base v l := h.to (Bl.of_drewN w k)
theorem MO.tm (h : MO w base (.slice A n c) l) (hn : l.length = n) : TM w A l := by
  unfold MO at h
  rw [hn] at h
  exact Rd.of_ownS h
theorem MO.empty {n : Nat} (hb : base ≤ w.heap.size) (hn : n = w.heap.size) : MO (w.alloc (.cells #[] 48)) base (.slice (some ⟨n, 0, none⟩) 0 0) [] := by
  subst hn
  exact World.ownsRow_made w #[] 0 hb (by unfold maxLen; omega) (by simp)
theorem MO.slice (h : MO w base v l) : ∃ A c, v = .slice A l.length c ∧ l.length ≤ c ∧ c ≤ maxLen ∧ ∀ a, A = some a → base ≤ a.block ∧ a.block < w.heap.size := own_slice h
theorem MO.low {b' : Nat} (h : MO w base v l) (hb : b' ≤ base) : MO w b' v l := own_base h hb
end
theorem mapCs_one (l : List Mpg) : ∀ u ∈ mapCs l, u.oneCell' = true := fun u hu => by
  unfold mapCs at hu
  obtain ⟨r, _, hr⟩ := List.mem_flatMap.1 hu
  simp only [mapC, List.mem_cons, List.not_mem_nil, or_false] at hr
  rcases hr with rfl | rfl | rfl | rfl <;> rfl
theorem TM.of_blk0 {w : World} {l : List Mpg} {g : Nat} {t : TypeId} {cur : Array Value} (hb : Blk w g t cur) (h : ∀ j, j < l.length * 4 → cur[j]? = (mapCs l)[j]?) : TM w (some ⟨g, 0, none⟩) l := fun i v hi => by
  have hil : i < l.length * 4 := by
    rcases Nat.lt_or_ge i (l.length * 4) with h1 | h1
    · exact h1
    · rw [List.getElem?_eq_none (by rw [mapCs_len]; exact h1)] at hi; cases hi
  exact ⟨g, 0, rfl, hb.lt, by rw [Nat.zero_add, hb.cell, h i hil]; exact hi⟩
theorem lit_map {w : World} {t n : Nat} {cs : Array Value} (r : Mpg) (hn : n = w.heap.size) (hc : cs = (mapC r).toArray) : TM (w.alloc (.cells cs t)) (some ⟨n, 0, none⟩) [r] := by
  subst hn hc
  refine TM.of_blk0 (Blk.new w t _) (fun j _ => ?_)
  simp [mapCs]
theorem mapT_info : (Tryd.prog.info? 48).map (fun i => (i.zero, i.size, i.bytes)) = some (some (.agg #[.int .i64 0, .int .i64 0, .int .i64 0, .int .i64 0]), 4, 32) := by kernel_rfl
/-- What a function leaves that hands back new mappings in a row of its own. -/
def NewM (l : List Mpg) (w : World) (e : Ending) (w' : World) : Prop := ∃ v, e = .returned v ∧ MO w' w.heap.size v l ∧ Below w.heap.size w w'

def keepM (now hold : Int) (m : Mpg) : Bool := !decide (hold ≤ now - m.la)
/-- The mappings of the first k that are still used. -/
def exM (l : List Mpg) (now hold : Int) (k : Nat) : List Mpg := (l.take k).filter (keepM now hold)
theorem exM_succ {l : List Mpg} {now hold : Int} {k : Nat} (hk : k < l.length) : exM l now hold (k + 1) = exM l now hold k ++ if hold ≤ now - (mn l k).la then [] else [mn l k] := by
  unfold exM
  rw [List.take_add_one, List.getElem?_eq_getElem hk, List.filter_append]
  congr 1
  have : mn l k = l[k] := by simp [mn, hk]
  rw [this]
  unfold keepM
  by_cases h : hold ≤ now - l[k].la <;> simp [h]
theorem exM_len (l : List Mpg) (now hold : Int) (k : Nat) : (exM l now hold k).length ≤ k := by
  unfold exM
  exact Nat.le_trans (List.length_filter_le _ _) (by rw [List.length_take]; omega)

end Go.Proofs.YthlaldikdlljfaaDoor
