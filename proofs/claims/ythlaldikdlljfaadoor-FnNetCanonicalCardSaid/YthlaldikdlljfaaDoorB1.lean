/- Contracts of the functions on nets. -/
import Derived.Test.YthlaldikdlljfaaDoorC2
import Derived.Deep.RegionHeld3
import Derived.IntWalk
namespace Go.Proofs.YthlaldikdlljfaaDoor
open Go.RowKit

/-- The number of addresses of a net of these bits. -/
def sz (bi : Int) : Int := 2 ^ (16 - bi).toNat
theorem sz_bd {bi : Int} (h : inB bi 0 16 = true) : 1 ≤ sz bi ∧ sz bi ≤ 65536 := by
  have := inB_true h
  obtain ⟨k, rfl⟩ : ∃ k : Nat, bi = k := ⟨bi.toNat, by omega⟩
  have hk : k ≤ 16 := by omega
  have h17 : ∀ k : Fin 17, (1 : Int) ≤ 2 ^ (16 - (k.val : Int)).toNat ∧ (2 : Int) ^ (16 - (k.val : Int)).toNat ≤ 65536 := by decide
  exact h17 ⟨k, by omega⟩
/-- A valid net. -/
def vNet (ba bi : Int) : Bool := inB bi 0 16 && (inB ba 0 65535 && (ba.tmod (sz bi) == 0))
/-- An address within a net. -/
def inN (ba bi a : Int) : Bool := inB a ba (ba + sz bi - 1)
theorem vNet_bits {ba bi : Int} (h : vNet ba bi = true) : inB bi 0 16 = true := by unfold vNet at h; simp only [Bool.and_eq_true] at h; exact h.1
theorem vNet_base {ba bi : Int} (h : vNet ba bi = true) : inB ba 0 65535 = true := by unfold vNet at h; simp only [Bool.and_eq_true] at h; exact h.2.1

theorem keep2 {w w1 w2 : World} {v0 v1 : Value} (hq : Below w1.heap.size w1 w2) (h0 : w1.cell? ⟨w.heap.size, 0, none⟩ = some v0) (h1 : w1.cell? ⟨w.heap.size, 1, none⟩ = some v1)
    (hB : Below w.heap.size w w1) (hl : w.heap.size < w1.heap.size) :
    w2.cell? ⟨w.heap.size, 0, none⟩ = some v0 ∧ w2.cell? ⟨w.heap.size, 1, none⟩ = some v1 ∧ Below w.heap.size w w2 ∧ w.heap.size < w2.heap.size :=
  ⟨(hq.cell hl).trans h0, (hq.cell hl).trans h1, Bl.then hB hq, Nat.lt_of_lt_of_le hl hq.size⟩

theorem c_size (ba bi : Int) (w : World) (hb : inB bi 0 16 = true) :
    Calls Tryd.prog 73 #[.agg #[.int .i64 ba, .int .i64 bi]] w fun e w' => e = .returned (.int .i64 (sz bi)) ∧ Below w.heap.size w w' := by
  have hbb := inB_true hb
  have hsb := sz_bd hb
  go_enter Tryd.func73, Tryd.ntmps73
  go_wp2
  go_ret
  exact ⟨ret_int (by unfold sz at hsb ⊢; exact wrap64_id (by omega) (by omega)), (Below.refl _ _).alloc (Nat.le_refl _) _⟩

theorem c_ssize (ba bi : Int) (w : World) (hb : inB bi 0 16 = true) :
    Calls Tryd.prog 78 #[.agg #[.int .i64 ba, .int .i64 bi]] w fun e w' => e = .returned (.int .i64 (sz bi)) ∧ Below w.heap.size w w' := by
  have hbb := inB_true hb
  go_enter Tryd.func78, Tryd.ntmps78
  go_wp2
  go_loopw [3, 4] (fun o i wr => ∃ k : Nat, bi + k ≤ 16 ∧ i = .int .i64 (bi + k) ∧ o = .int .i64 (2 ^ k) ∧ wr = w.alloc (.cells #[.int .i64 ba, .int .i64 bi] 31)) (fun o i _ => 17 - (intOf i).toNat)
  case atStart => exact ⟨0, by omega, by simp, by simp, by simp⟩
  case round =>
    obtain ⟨k, hk, rfl, rfl, rfl⟩ := hrel
    have hp : (2 : Int) ^ k ≤ 65536 ∧ 1 ≤ (2 : Int) ^ k := by
      have h17 : ∀ k : Fin 17, (2 : Int) ^ k.val ≤ 65536 ∧ 1 ≤ (2 : Int) ^ k.val := by decide
      exact h17 ⟨k, by omega⟩
    by_cases hlt : bi + k < 16
    · go_wp2
      go_roundw
      case rel => exact ⟨k + 1, by omega, by go_num, by rw [Int.pow_succ]; go_num, by simp⟩
      case measure => simp [intOf]; omega
    · go_wp2
      go_ret
      exact ⟨ret_int (by unfold sz; rw [show (16 - bi).toNat = k by omega]), (Below.refl _ _).alloc (Nat.le_refl _) _⟩

theorem c_inV (n lo hi : Int) (b : Bool) (w : World) (h : inB n lo hi = b) : Calls Tryd.prog 71 #[.int .i64 n, .int .i64 lo, .int .i64 hi] w fun e w' => e = .returned (.bool b) ∧ w = w' := by subst h; exact c_in n lo hi w
theorem c_inRangeV (n lo hi : Int) (b : Bool) (w : World) (h : inB n lo hi = b) : Calls Tryd.prog 75 #[.int .i64 n, .int .i64 lo, .int .i64 hi] w fun e w' => e = .returned (.bool b) ∧ w = w' := by subst h; exact c_inRange n lo hi w
theorem c_isWordV (n : Int) (b : Bool) (w : World) (h : inB n 0 65535 = b) : Calls Tryd.prog 72 #[.int .i64 n] w fun e w' => e = .returned (.bool b) ∧ w = w' := by subst h; exact c_isWord n w
theorem c_validAddrV (n : Int) (b : Bool) (w : World) (h : inB n 0 65535 = b) : Calls Tryd.prog 74 #[.int .i64 n] w fun e w' => e = .returned (.bool b) ∧ w = w' := by subst h; exact c_validAddr n w
theorem c_ValidNet (ba bi : Int) (w : World) :
    Calls Tryd.prog 38 #[.agg #[.int .i64 ba, .int .i64 bi]] w fun e w' => e = .returned (.bool (vNet ba bi)) ∧ Below w.heap.size w w' := by
  cases hb : inB bi 0 16
  · go_enter Tryd.func38, Tryd.ntmps38
    go_wp2
    go_quiet ((go_at_call 71; exact quiet_eq (fun W _ => c_inV _ _ _ _ W hb)))
    go_wp2
    go_ret
    exact ⟨ret_bool (by unfold vNet; rw [hb]; rfl), Bl.drewN ((Below.refl _ _).alloc (Nat.le_refl _) _) _⟩
  cases ha : inB ba 0 65535
  · go_enter Tryd.func38, Tryd.ntmps38
    go_wp2
    go_quiet (first | (go_at_call 71; exact quiet_eq (fun W _ => c_inV _ _ _ _ W hb)) | (go_at_call 72; exact quiet_eq (fun W _ => c_isWordV _ _ W ha)))
    go_wp2
    go_ret
    exact ⟨ret_bool (by unfold vNet; rw [hb, ha]; rfl), Bl.drewN ((Below.refl _ _).alloc (Nat.le_refl _) _) _⟩
  have hsb := sz_bd hb
  have hz : sz bi ≠ 0 := by omega
  cases ht : ba.tmod (sz bi) == 0
  all_goals
    go_enter Tryd.func38, Tryd.ntmps38
    go_wp2
    go_region_held3 (fun w' => w'.cell? ⟨w.heap.size, 0, none⟩ = some (.int .i64 ba) ∧ w'.cell? ⟨w.heap.size, 1, none⟩ = some (.int .i64 bi) ∧ Below w.heap.size w w' ∧ w.heap.size < w'.heap.size) (first | exact ⟨by simp [go_sem], by simp [go_sem], Bl.drewN ((Below.refl _ _).alloc (Nat.le_refl _) _) 1, (Blk.new w _ _).lt⟩ | exact keep2 (by assumption) (by first | assumption | simp [go_sem]) (by first | assumption | simp [go_sem]) (by first | assumption | exact Bl.drewN ((Below.refl _ _).alloc (Nat.le_refl _) _) 1) (by first | assumption | exact (Blk.new w _ _).lt))
      (first
        | (go_at_call 73; refine (c_size _ _ _ hb).mono ?_; rintro e w' ⟨rfl, hq⟩)
        | (go_at_call 72; refine (c_isWord _ _).mono ?_; rw [ha]; rintro e w' ⟨rfl, rfl⟩)
        | (go_at_call 71; refine (c_in _ _ _ _).mono ?_; rw [hb]; rintro e w' ⟨rfl, rfl⟩))
    rename_i hH
    go_wp2
    go_ret
    exact ⟨ret_bool (by unfold vNet; rw [hb, ha, ht]; rfl), hH.2.2.1⟩
theorem c_validNet (ba bi : Int) (w : World) :
    Calls Tryd.prog 47 #[.agg #[.int .i64 ba, .int .i64 bi]] w fun e w' => e = .returned (.bool (vNet ba bi)) ∧ Below w.heap.size w w' := by
  cases hb : inB bi 0 16
  · go_enter Tryd.func47, Tryd.ntmps47
    go_wp2
    go_quiet ((go_at_call 75; exact quiet_eq (fun W _ => c_inRangeV _ _ _ _ W hb)))
    go_wp2
    go_ret
    exact ⟨ret_bool (by unfold vNet; rw [hb]; rfl), Bl.drewN ((Below.refl _ _).alloc (Nat.le_refl _) _) _⟩
  cases ha : inB ba 0 65535
  · go_enter Tryd.func47, Tryd.ntmps47
    go_wp2
    go_quiet (first | (go_at_call 75; exact quiet_eq (fun W _ => c_inRangeV _ _ _ _ W hb)) | (go_at_call 74; exact quiet_eq (fun W _ => c_validAddrV _ _ W ha)))
    go_wp2
    go_ret
    exact ⟨ret_bool (by unfold vNet; rw [hb, ha]; rfl), Bl.drewN ((Below.refl _ _).alloc (Nat.le_refl _) _) _⟩
  have hsb := sz_bd hb
  have hz : sz bi ≠ 0 := by omega
  cases ht : ba.tmod (sz bi) == 0
  all_goals
    go_enter Tryd.func47, Tryd.ntmps47
    go_wp2
    go_region_held3 (fun w' => w'.cell? ⟨w.heap.size, 0, none⟩ = some (.int .i64 ba) ∧ w'.cell? ⟨w.heap.size, 1, none⟩ = some (.int .i64 bi) ∧ Below w.heap.size w w' ∧ w.heap.size < w'.heap.size) (first | exact ⟨by simp [go_sem], by simp [go_sem], Bl.drewN ((Below.refl _ _).alloc (Nat.le_refl _) _) 1, (Blk.new w _ _).lt⟩ | exact keep2 (by assumption) (by first | assumption | simp [go_sem]) (by first | assumption | simp [go_sem]) (by first | assumption | exact Bl.drewN ((Below.refl _ _).alloc (Nat.le_refl _) _) 1) (by first | assumption | exact (Blk.new w _ _).lt))
      (first
        | (go_at_call 78; refine (c_ssize _ _ _ hb).mono ?_; rintro e w' ⟨rfl, hq⟩)
        | (go_at_call 74; refine (c_validAddr _ _).mono ?_; rw [ha]; rintro e w' ⟨rfl, rfl⟩)
        | (go_at_call 75; refine (c_inRange _ _ _ _).mono ?_; rw [hb]; rintro e w' ⟨rfl, rfl⟩))
    rename_i hH
    go_wp2
    go_ret
    exact ⟨ret_bool (by unfold vNet; rw [hb, ha, ht]; rfl), hH.2.2.1⟩

end Go.Proofs.YthlaldikdlljfaaDoor
