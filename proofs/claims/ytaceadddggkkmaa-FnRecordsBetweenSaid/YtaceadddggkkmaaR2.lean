/- Contract of the function that tells who has which port. -/
import Derived.Test.YtaceadddggkkmaaR1
import Derived.Test.YtaceadddggkkmaaRE
namespace Go.Proofs.Ytaceadddggkkmaa
open Go.RowKit

/-- What owners leaves: a map that tells who has which port, or nothing where a record does not fit. -/
def OwnQ (l : List Rec) (now : Int) (w : World) (e : Ending) (w' : World) : Prop :=
  (allUp (fit l) (upTo l now) = true ∧ ∃ g, e = .returned (.tuple #[.map (some g), .bool true]) ∧ w.heap.size ≤ g ∧ OM w' g l.length (fun p => ownP l p (upTo l now)) ∧ Below w.heap.size w w') ∨
  (allUp (fit l) (upTo l now) = false ∧ e = .returned (.tuple #[.map none, .bool false]) ∧ Below w.heap.size w w')

set_option maxHeartbeats 1600000 in
theorem c_owners (A : Option Addr) (n c : Nat) (l : List Rec) (now : Int) (w : World) (hn : l.length = n) (h : RR w A l) (hl : n ≤ 1099511627776) (hpo : ∀ k, k < n → 0 ≤ (rn l k).po ∧ (rn l k).po ≤ 65535) :
    Calls Try.prog 52 #[.slice A n c, .int .i64 now] w (OwnQ l now w) := by
  have HN := Lib.hid hn
  have HPO := Lib.hid hpo
  clear hn hpo
  have hmm := @run_makeMap Try.prog
  have hneq := neq_end
  have hgd := guard_end
  go_enter Try.func52, Try.ntmps52
  go_wp2
  go_loopw [14] (fun i wr => ∃ k : Nat, k ≤ n ∧ i = .int .i64 k ∧ Hid (∀ j, j < k → fit l j = true) ∧ Hid (∀ j, j < k → (rn l j).at_ ≤ now) ∧ Hid (OM wr w.heap.size k (fun p => ownP l p k)) ∧ Hid (Below w.heap.size w wr)) (fun i _ => n - (intOf i).toNat)
  case atStart => exact ⟨0, Nat.zero_le _, rfl, fun j hj => absurd hj (by omega), fun j hj => absurd hj (by omega), OM.made w, (Below.refl _ _).alloc (Nat.le_refl _) _⟩
  case round =>
    obtain ⟨k, hk, rfl, hF, hT, HM, HB⟩ := hrel
    have hM := HM.out
    by_cases hlt : k < n
    · obtain ⟨b, off, rfl, hb, c0, c1, c2, c3, c4⟩ := (h.to HB.out).get (k := k) (by rw [HN.out]; omega)
      have hpo := HPO.out k hlt
      by_cases hgt : now < (rn l k).at_
      · have t1 : decide (now < (rn l k).at_) = true := by rw [decide_eq_true_eq]; exact hgt
        have HU : Hid (upTo l now = k) := upTo_eq (by rw [HN.out]; omega) hT.out (fun _ => hgt)
        go_wp2
        go_ret2
        refine .inl ⟨by rw [HU.out]; exact allUp_true hF.out, _, rfl, Nat.le_refl _, ?_, HB.out.alloc HB.out.size _⟩
        rw [HU.out, HN.out]
        exact (HM.out.alloc _).mono hk
      have t1 : decide (now < (rn l k).at_) = false := by rw [decide_eq_false_iff_not]; exact hgt
      have HBB : ∀ o o', Below w.heap.size w ((wr.alloc o).alloc o') := fun o o' => (HB.out.alloc HB.out.size o).alloc (by have := HB.out.size; simp; omega) o'
      have HA : Hid ((rn l k).at_ ≤ now) := Int.not_lt.1 hgt
      have hbad : fit l k = false → Hid (allUp (fit l) (upTo l now) = false) := fun hf => by
        obtain ⟨u1, u2, u3⟩ := upTo_spec l now
        rcases Nat.lt_or_ge k (upTo l now) with h1 | h1
        · exact allUp_false h1 hf
        · rcases Nat.lt_or_ge (upTo l now) k with h2 | h2
          · have := hT.out _ h2
            have := u3 (by rw [HN.out]; omega)
            omega
          · obtain h3 : upTo l now = k := by omega
            have := u3 (by rw [HN.out]; omega)
            rw [h3] at this
            have := HA.out
            omega
      clear hgt
      cases ho : (rn l k).ov
      · rw [ho] at c4
        cases hw : ownP l (rn l k).po k with
        | none =>
          have HS : Hid (fit l k = true) := by unfold fit; rw [ho, hw]; rfl
          have HN2 : Hid (∀ q, ownP l q (k + 1) = if (rn l k).po = q then some ((rn l k).ad, (rn l k).ep) else ownP l q k) := fun q => by show (if _ then _ else _) = _; rw [ho]; rfl
          clear hbad ho
          go_wp2_with (first
            | (at_lookup; refine wpList_look_none rfl _ _ rfl rfl (hM.alloc _) _ rfl (by omega) (by omega) hw ?_)
            | (at_mapUpdate; refine wpList_store_end rfl _ _ _ rfl rfl ((hM.alloc _).alloc _) (by omega) _ _ _ rfl rfl (by omega) (by omega) ?_; intro w1 hM1 hg1))
          go_roundw
          case rel => exact ⟨k + 1, by omega, by go_num, upTo_succ hF.out HS.out, upTo_succ hT.out HA.out, hM1.congr (fun q => HN2.out q), (HBB _ _).grown hg1 (by have := HB.out.size; simp; omega) (fun k hk => by injection hk with hk; omega)⟩
          case measure => simp [intOf]; omega
        | some xy =>
          obtain ⟨x, y⟩ := xy
          have HS := hbad (by unfold fit; rw [ho, hw]; rfl)
          clear hbad ho
          go_wp2_with (at_lookup; refine wpList_look_some rfl _ _ rfl rfl (hM.alloc _) _ rfl (by omega) (by omega) _ _ hw ?_)
          go_ret2
          exact .inr ⟨HS.out, rfl, HBB _ _⟩
      · rw [ho] at c4
        cases hw : ownP l (rn l k).po k with
        | none =>
          have HS := hbad (by unfold fit; rw [ho, hw]; rfl)
          clear hbad ho
          go_wp2_with (at_lookup; refine wpList_look_none rfl _ _ rfl rfl (hM.alloc _) _ rfl (by omega) (by omega) hw ?_)
          go_ret2
          exact .inr ⟨HS.out, rfl, HBB _ _⟩
        | some xy =>
          obtain ⟨x, y⟩ := xy
          by_cases hxy : x = (rn l k).ad ∧ y = (rn l k).ep
          · obtain ⟨rfl, rfl⟩ := hxy
            have HS : Hid (fit l k = true) := by unfold fit; rw [ho, hw, if_pos rfl]; simp [Hid]
            have HN2 : Hid (∀ q, ownP l q (k + 1) = if (rn l k).po = q then none else ownP l q k) := fun q => by show (if _ then _ else _) = _; rw [ho]; rfl
            have hne := eqE_true (a := (rn l k).ad) (b := (rn l k).ep) ⟨rfl, rfl⟩
            clear hbad ho
            go_wp2_with (first
              | (at_lookup; refine wpList_look_some rfl _ _ rfl rfl (hM.alloc _) _ rfl (by omega) (by omega) _ _ hw ?_)
              | (at_delete; refine wpList_drop_end rfl _ _ rfl rfl ((hM.alloc _).alloc _) _ rfl (by omega) (by omega) ?_; intro w1 hM1 hg1))
            go_roundw
            case rel => exact ⟨k + 1, by omega, by go_num, upTo_succ hF.out HS.out, upTo_succ hT.out HA.out, (hM1.congr (fun q => HN2.out q)).mono (by omega), (HBB _ _).grown hg1 (by have := HB.out.size; simp; omega) (fun k hk => by injection hk with hk; omega)⟩
            case measure => simp [intOf]; omega
          · have HS := hbad (by unfold fit; rw [ho, hw, if_pos rfl, beq_eq_false_iff_ne]; intro e; injection e with e; injection e with e1 e2; exact hxy ⟨e1, e2⟩)
            have hne := eqE_false (a := x) (b := y) (c := (rn l k).ad) (d := (rn l k).ep) hxy
            clear hbad ho hxy
            go_wp2_with (at_lookup; refine wpList_look_some rfl _ _ rfl rfl (hM.alloc _) _ rfl (by omega) (by omega) _ _ hw ?_)
            go_ret2
            exact .inr ⟨HS.out, rfl, HBB _ _⟩
    · obtain hkn : k = n := by omega
      subst hkn
      have HU : Hid (upTo l now = k) := upTo_eq (by rw [HN.out]; omega) hT.out (fun h => by rw [HN.out] at h; omega)
      go_wp2
      go_ret2
      refine .inl ⟨by rw [HU.out]; exact allUp_true hF.out, _, rfl, Nat.le_refl _, ?_, HB.out⟩
      rw [HU.out, HN.out]
      exact HM.out
end Go.Proofs.Ytaceadddggkkmaa
