/- Contracts of the reference's functions that make tables: expire, mapEnd, MapEnd. -/
import Derived.Test.YtaceadddggkkmaaT9
import Derived.Deep.DeepMust
namespace Go.Proofs.Ytaceadddggkkmaa
open Go.RowKit

set_option maxHeartbeats 1600000 in
theorem c_expire (A : Option Addr) (n c : Nat) (l : List Mpg) (now hold : Int) (w : World) (hn : l.length = n) (h : TM w A l) (hl : n ≤ 1048576)
    (hb : ∀ k, k < l.length → -4611686018427387904 ≤ now - (mn l k).la ∧ now - (mn l k).la ≤ 4611686018427387904) :
    Calls Try.prog 62 #[.slice A n c, .int .i64 now, .int .i64 hold] w (NewM (exM l now hold n) w) := by
  have HN := Lib.hid hn
  have HA : Hid (∀ W, Below w.heap.size w W → TM W A l) := fun W b => h.to b
  have HBD := Lib.hid hb
  clear hn h hb
  have ho : MO (w.alloc (.cells #[] 63)) w.heap.size (.slice (some ⟨w.heap.size, 0, none⟩) 0 0) [] := MO.empty (Nat.le_refl _) rfl
  have B0 : Below w.heap.size w (w.alloc (.cells #[] 63)) := (Below.refl _ _).alloc (Nat.le_refl _) _
  go_enter Try.func62, Try.ntmps62
  go_wp2
  go_loopw [7, 8] (fun v i wr => ∃ (k : Nat) (v' : Value), k ≤ n ∧ i = .int .i64 k ∧ v' = v ∧ Hid (MO wr w.heap.size v' (exM l now hold k)) ∧ Hid (Below w.heap.size w wr)) (fun _ i _ => n - (intOf i).toNat)
  case atStart => exact ⟨0, _, Nat.zero_le _, rfl, rfl, ho, B0⟩
  case round =>
    clear ho B0
    obtain ⟨k, v', hk, rfl, rfl, HO, HW⟩ := hrel
    by_cases hlt : k < n
    · have hkl : Hid (k < l.length) := Lib.hid (by rw [HN.out]; exact hlt)
      obtain ⟨b0, off, rfl, hb0, c0, c1, c2, c3⟩ := (HA.out _ HW.out).get hkl.out
      have hs := exM_succ (l := l) (now := now) (hold := hold) hkl.out
      have hml := exM_len l now hold k
      go_wp2_with fail
      refine (c_expired (mn l k) now hold _ (HBD.out k hkl.out).1 (HBD.out k hkl.out).2).mono ?_
      rintro e w1 ⟨rfl, hq⟩
      have ho1 := HO.out.to hq
      have B1 := Bl.then HW.out hq
      clear c0 c1 c2 c3 hq
      by_cases hh : hold ≤ now - (mn l k).la
      · have t0 : decide (hold ≤ now - (mn l k).la) = true := by rw [decide_eq_true_eq]; exact hh
        rw [if_pos hh, List.append_nil] at hs
        have HSS := Lib.hid hs
        clear hs hh
        go_wp2
        go_roundw
        case rel => exact ⟨k + 1, v', by omega, by go_num, rfl, by rw [HSS.out]; exact ho1, B1⟩
        case measure => simp [intOf]; omega
      · have t0 : decide (hold ≤ now - (mn l k).la) = false := by rw [decide_eq_false_iff_not]; exact hh
        rw [if_neg hh] at hs
        have HSS := Lib.hid hs
        clear hs hh
        obtain ⟨b0', off', e', -, c0, c1, c2, c3⟩ := (HA.out _ B1).get hkl.out
        cases e'
        have s1 := B1.size
        generalize hlle : exM l now hold k = ll at ho1 hml
        have HLL := Lib.hid hlle
        clear hlle
        have hL : TM (w1.alloc (.cells #[.int .i64 (mn l k).ad, .int .i64 (mn l k).ep, .int .i64 (mn l k).po, .int .i64 (mn l k).la] 63)) (some ⟨w1.heap.size, 0, none⟩) [mn l k] := lit_map (w := w1) (mn l k) rfl rfl
        have hoR : (w1.alloc (.cells #[.int .i64 (mn l k).ad, .int .i64 (mn l k).ep, .int .i64 (mn l k).po, .int .i64 (mn l k).la] 63)).ownsRow w.heap.size 63 4 v' ll.length (mapCs ll) := World.ownsRow.alloc ho1 _
        have hnl := mapCs_len [mn l k]
        have hnc := mapCs_one [mn l k]
        unfold TM at hL
        generalize hnle : mapCs [mn l k] = nl at hnl hnc hL
        have HNL := Lib.hid hnle
        clear hnle
        go_wp2_with (at_builtin; go_must (obtain ⟨i0, hi, hz0, hz1, hz2⟩ := info_parts mapT_info; refine wpList_append_rd _ rfl _ _ 42 rfl w.heap.size 63 i0 _ 4 32 Try.underlying42 hi hz0 hz1 hz2 rfl (by omega) _ ll.length (mapCs ll) rfl hoR (some ⟨w1.heap.size, 0, none⟩) 1 1 nl rfl hL hnl hnc (by unfold maxLen; omega) (by omega) (by simp; omega) ?_; intro v1 w5 ho5 hg5 hat5; clear hi hz0 hz1 hz2 hat5))
        have B5 := (B1.alloc B1.size (.cells #[.int .i64 (mn l k).ad, .int .i64 (mn l k).ep, .int .i64 (mn l k).po, .int .i64 (mn l k).la] 63)).grown hg5 (by have := B1.size; simp; omega) (fun j hj => (World.ownsRow.lt hoR j hj).1)
        go_roundw
        case rel =>
          refine ⟨k + 1, v1, by omega, by go_num, rfl, ?_, B5⟩
          rw [HSS.out, HLL.out]
          show MO _ _ _ _
          unfold MO
          rw [mapCs_app, HNL.out, List.length_append]
          exact ho5
        case measure => simp [intOf]; omega
    · obtain rfl : k = n := by omega
      go_wp2
      go_ret
      exact ⟨v', rfl, HO.out, HW.out⟩

/-- A table with a mapping of an end, and its port. -/
def mapT (l : List Mpg) (n : Nat) (x y now : Int) : Option (List Mpg × Int) :=
  if 0 ≤ byE l x y n then some (l.set (byE l x y n).toNat { mn l (byE l x y n).toNat with la := max (mn l (byE l x y n).toNat).la now }, (mn l (byE l x y n).toNat).po)
  else if fpt l n y < 0 then none else some (l ++ [⟨x, y, fpt l n y, now⟩], fpt l n y)
/-- What mapEnd hands back. -/
def EndM (q : Option (List Mpg × Int)) (w : World) (e : Ending) (w' : World) : Prop :=
  Below w.heap.size w w' ∧ match q with
    | none => e = .returned (.tuple #[.slice none 0 0, .int .i64 (-1), .bool false])
    | some (l', p) => ∃ v, e = .returned (.tuple #[v, .int .i64 p, .bool true]) ∧ MO w' w.heap.size v l'
theorem mapCs_set {l : List Mpg} {k : Nat} (hk : k < l.length) (t : Int) : (mapCs l).set (k * 4 + 3) (.int .i64 t) = mapCs (l.set k { mn l k with la := t }) := by
  apply List.ext_getElem?
  intro j
  by_cases hj : j < l.length * 4
  · have e : j = j / 4 * 4 + j % 4 := by omega
    have hi4 : j % 4 < 4 := Nat.mod_lt _ (by omega)
    have hjl : j / 4 < l.length := by omega
    generalize j / 4 = q at e hjl
    generalize j % 4 = i at e hi4
    subst e
    rw [mapCs_at (by rw [List.length_set]; exact hjl) hi4, List.getElem?_set]
    have hset : mn (l.set k { mn l k with la := t }) q = if k = q then { mn l k with la := t } else mn l q := by
      unfold mn
      rw [List.getElem?_set]
      by_cases h : k = q
      · subst h
        rw [if_pos rfl, if_pos rfl, if_pos hk]; rfl
      · rw [if_neg h, if_neg h]
    rw [hset]
    by_cases hq : k = q
    · subst hq
      rw [if_pos rfl]
      by_cases hi : i = 3
      · subst hi
        rw [if_pos rfl, if_pos (by rw [mapCs_len]; omega)]; rfl
      · rw [if_neg (by omega), mapCs_at hk hi4]
        rcases i with _ | _ | _ | i
        · rfl
        · rfl
        · rfl
        · omega
    · rw [if_neg hq, if_neg (by omega), mapCs_at hjl hi4]
  · rw [List.getElem?_eq_none (by rw [List.length_set, mapCs_len]; omega), List.getElem?_eq_none (by rw [mapCs_len, List.length_set]; omega)]
end Go.Proofs.Ytaceadddggkkmaa
