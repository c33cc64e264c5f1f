/- Contracts of the functions on plans: addresses and blocks. -/
import Derived.Test.YtaneiilbkkfnoaaB2s
namespace Go.Proofs.Ytaneiilbkkfnoaa
open Go.RowKit

/-- Below from the function's box on, with one more call behind. -/
theorem two {w w1 w2 : World} (h : Below w.heap.size w w1) (k : Below w1.heap.size w1 w2) : Below w.heap.size w w2 := Bl.then h k

theorem c_InNet (ba bi a : Int) (w : World) :
    Calls Try.prog 26 #[.agg #[.int .i64 ba, .int .i64 bi], .int .i64 a] w fun e w' => e = .returned (.bool (vNet ba bi && (inB a 0 65535 && inN ba bi a))) ∧ Below w.heap.size w w' := by
  cases hv : vNet ba bi
  · go_enter Try.func26, Try.ntmps26
    go_wp2_with (go_at_call 44; refine (c_ValidNet _ _ _).mono ?_; rw [hv]; rintro e w1 ⟨rfl, hq⟩; have k0 : w1.cell? ⟨w.heap.size, 0, none⟩ = some (.int .i64 ba) := (hq.cell (Blk.new w _ _).lt).trans (by simp [go_sem]); have k1 : w1.cell? ⟨w.heap.size, 1, none⟩ = some (.int .i64 bi) := (hq.cell (Blk.new w _ _).lt).trans (by simp [go_sem]); have kB : Below w.heap.size w w1 := Bl.then ((Below.refl _ _).alloc (Nat.le_refl _) _) hq)
    go_ret
    exact ⟨ret_bool rfl, kB⟩
  cases ha : inB a 0 65535
  · go_enter Try.func26, Try.ntmps26
    go_wp2_with (first
      | (go_at_call 44; refine (c_ValidNet _ _ _).mono ?_; rw [hv]; rintro e w1 ⟨rfl, hq⟩; have k0 : w1.cell? ⟨w.heap.size, 0, none⟩ = some (.int .i64 ba) := (hq.cell (Blk.new w _ _).lt).trans (by simp [go_sem]); have k1 : w1.cell? ⟨w.heap.size, 1, none⟩ = some (.int .i64 bi) := (hq.cell (Blk.new w _ _).lt).trans (by simp [go_sem]); have kB : Below w.heap.size w w1 := Bl.then ((Below.refl _ _).alloc (Nat.le_refl _) _) hq)
      | (go_at_call 50; refine (c_isWordV _ _ _ ha).mono ?_; rintro e w' ⟨rfl, rfl⟩))
    go_ret
    exact ⟨ret_bool rfl, kB⟩
  · go_enter Try.func26, Try.ntmps26
    go_wp2_with (first
      | (go_at_call 44; refine (c_ValidNet _ _ _).mono ?_; rw [hv]; rintro e w1 ⟨rfl, hq⟩; have k0 : w1.cell? ⟨w.heap.size, 0, none⟩ = some (.int .i64 ba) := (hq.cell (Blk.new w _ _).lt).trans (by simp [go_sem]); have k1 : w1.cell? ⟨w.heap.size, 1, none⟩ = some (.int .i64 bi) := (hq.cell (Blk.new w _ _).lt).trans (by simp [go_sem]); have kB : Below w.heap.size w w1 := Bl.then ((Below.refl _ _).alloc (Nat.le_refl _) _) hq)
      | (go_at_call 50; refine (c_isWordV _ _ _ ha).mono ?_; rintro e w' ⟨rfl, rfl⟩)
      | (go_at_call 52; refine (c_has _ _ _ _ hv).mono ?_; rintro e w2 ⟨rfl, hq2⟩))
    go_ret
    exact ⟨ret_bool (by simp), two kB hq2⟩

/-- A valid plan's block owner test. -/
def ownB (ba bi fi si a : Int) : Bool := vPlan ba bi fi si && inN ba bi a

theorem c_owns (ba bi fi si a : Int) (w : World) :
    Calls Try.prog 45 #[.agg #[.int .i64 ba, .int .i64 bi, .int .i64 fi, .int .i64 si], .int .i64 a] w fun e w' => e = .returned (.bool (ownB ba bi fi si a)) ∧ Below w.heap.size w w' := by
  cases hv : vPlan ba bi fi si
  · go_enter Try.func45, Try.ntmps45
    go_wp2_with (go_at_call 19; refine (c_ValidPlan _ _ _ _ _).mono ?_; rw [hv]; rintro e w1 ⟨rfl, hq⟩; have k0 : w1.cell? ⟨w.heap.size, 0, none⟩ = some (.int .i64 ba) := (hq.cell (Blk.new w _ _).lt).trans (by simp [go_sem]); have k1 : w1.cell? ⟨w.heap.size, 1, none⟩ = some (.int .i64 bi) := (hq.cell (Blk.new w _ _).lt).trans (by simp [go_sem]); have k2 : w1.cell? ⟨w.heap.size, 2, none⟩ = some (.int .i64 fi) := (hq.cell (Blk.new w _ _).lt).trans (by simp [go_sem]); have k3 : w1.cell? ⟨w.heap.size, 3, none⟩ = some (.int .i64 si) := (hq.cell (Blk.new w _ _).lt).trans (by simp [go_sem]); have kB : Below w.heap.size w w1 := Bl.then ((Below.refl _ _).alloc (Nat.le_refl _) _) hq)
    go_ret
    exact ⟨ret_bool (by unfold ownB; rw [hv]; rfl), kB⟩
  · have hn := vPlan_net hv
    go_enter Try.func45, Try.ntmps45
    go_wp2_with (first | (go_at_call 19; refine (c_ValidPlan _ _ _ _ _).mono ?_; rw [hv]; rintro e w1 ⟨rfl, hq⟩; have k0 : w1.cell? ⟨w.heap.size, 0, none⟩ = some (.int .i64 ba) := (hq.cell (Blk.new w _ _).lt).trans (by simp [go_sem]); have k1 : w1.cell? ⟨w.heap.size, 1, none⟩ = some (.int .i64 bi) := (hq.cell (Blk.new w _ _).lt).trans (by simp [go_sem]); have k2 : w1.cell? ⟨w.heap.size, 2, none⟩ = some (.int .i64 fi) := (hq.cell (Blk.new w _ _).lt).trans (by simp [go_sem]); have k3 : w1.cell? ⟨w.heap.size, 3, none⟩ = some (.int .i64 si) := (hq.cell (Blk.new w _ _).lt).trans (by simp [go_sem]); have kB : Below w.heap.size w w1 := Bl.then ((Below.refl _ _).alloc (Nat.le_refl _) _) hq) | (go_at_call 52; refine (c_has _ _ _ _ hn).mono ?_; rintro e w2 ⟨rfl, hq2⟩))
    go_ret
    exact ⟨ret_bool (by unfold ownB; rw [hv]; simp), two kB hq2⟩

/-- The first port of the block of an address; -1 if it has none. -/
def blkOf (ba bi fi si a : Int) : Int := if ownB ba bi fi si a then fi + (a - ba) * si else -1

theorem own_bd {ba bi fi si a : Int} (h : ownB ba bi fi si a = true) : 0 ≤ a - ba ∧ a - ba ≤ 65535 ∧ 0 ≤ ba ∧ ba ≤ 65535 ∧ 1 ≤ fi ∧ fi ≤ 65535 ∧ 1 ≤ si ∧ si ≤ 16 ∧ 0 ≤ (a - ba) * si ∧ fi + (a - ba) * si + si - 1 ≤ 65535 := by
  unfold ownB at h
  rw [Bool.and_eq_true] at h
  obtain ⟨hv, hi⟩ := h
  have h1 := vPlan_first hv; have h2 := vPlan_size hv; have h3 := vPlan_last hv
  have h4 := inB_true (vNet_base (vPlan_net hv)); have h5 := sz_bd (vNet_bits (vPlan_net hv)); have h6 := inB_true hi
  have h7 : 0 ≤ (a - ba) * si := Int.mul_nonneg (by omega) (by omega)
  have h8 : (a - ba + 1) * si ≤ sz bi * si := Int.mul_le_mul_of_nonneg_right (by omega) (by omega)
  rw [Int.add_mul, Int.one_mul] at h8
  exact ⟨by omega, by omega, by omega, by omega, by omega, by omega, by omega, by omega, h7, by omega⟩

theorem c_block (ba bi fi si a : Int) (w : World) (ho : ownB ba bi fi si a = true) :
    Calls Try.prog 46 #[.agg #[.int .i64 ba, .int .i64 bi, .int .i64 fi, .int .i64 si], .int .i64 a] w fun e w' => e = .returned (.int .i64 (fi + (a - ba) * si)) ∧ Below w.heap.size w w' := by
  have hb := own_bd ho
  have e1 : IntKind.i64.wrap (a - ba) = a - ba := IntWalk.i64_in _ (by omega)
  have e2 : IntKind.i64.wrap ((a - ba) * si) = (a - ba) * si := IntWalk.i64_in _ (by omega)
  have e3 : IntKind.i64.wrap (fi + (a - ba) * si) = fi + (a - ba) * si := IntWalk.i64_in _ (by omega)
  go_enter Try.func46, Try.ntmps46
  go_wp2
  go_ret
  exact ⟨ret_int (by first | rfl | (simp only [IntKind.wrap] at e1 e2 e3; simp [e1, e2, e3])), ((Below.refl _ _).alloc (Nat.le_refl _) _)⟩

theorem c_BlockOf (ba bi fi si a : Int) (w : World) :
    Calls Try.prog 20 #[.agg #[.int .i64 ba, .int .i64 bi, .int .i64 fi, .int .i64 si], .int .i64 a] w fun e w' => e = .returned (.int .i64 (blkOf ba bi fi si a)) ∧ Below w.heap.size w w' := by
  cases ho : ownB ba bi fi si a
  · go_enter Try.func20, Try.ntmps20
    go_wp2_with (go_at_call 45; refine (c_owns _ _ _ _ _ _).mono ?_; rw [ho]; rintro e w1 ⟨rfl, hq⟩; have k0 : w1.cell? ⟨w.heap.size, 0, none⟩ = some (.int .i64 ba) := (hq.cell (Blk.new w _ _).lt).trans (by simp [go_sem]); have k1 : w1.cell? ⟨w.heap.size, 1, none⟩ = some (.int .i64 bi) := (hq.cell (Blk.new w _ _).lt).trans (by simp [go_sem]); have k2 : w1.cell? ⟨w.heap.size, 2, none⟩ = some (.int .i64 fi) := (hq.cell (Blk.new w _ _).lt).trans (by simp [go_sem]); have k3 : w1.cell? ⟨w.heap.size, 3, none⟩ = some (.int .i64 si) := (hq.cell (Blk.new w _ _).lt).trans (by simp [go_sem]); have kB : Below w.heap.size w w1 := Bl.then ((Below.refl _ _).alloc (Nat.le_refl _) _) hq)
    go_ret
    exact ⟨ret_int (by unfold blkOf; rw [ho]; rfl), kB⟩
  · go_enter Try.func20, Try.ntmps20
    go_wp2_with (first | (go_at_call 45; refine (c_owns _ _ _ _ _ _).mono ?_; rw [ho]; rintro e w1 ⟨rfl, hq⟩; have k0 : w1.cell? ⟨w.heap.size, 0, none⟩ = some (.int .i64 ba) := (hq.cell (Blk.new w _ _).lt).trans (by simp [go_sem]); have k1 : w1.cell? ⟨w.heap.size, 1, none⟩ = some (.int .i64 bi) := (hq.cell (Blk.new w _ _).lt).trans (by simp [go_sem]); have k2 : w1.cell? ⟨w.heap.size, 2, none⟩ = some (.int .i64 fi) := (hq.cell (Blk.new w _ _).lt).trans (by simp [go_sem]); have k3 : w1.cell? ⟨w.heap.size, 3, none⟩ = some (.int .i64 si) := (hq.cell (Blk.new w _ _).lt).trans (by simp [go_sem]); have kB : Below w.heap.size w w1 := Bl.then ((Below.refl _ _).alloc (Nat.le_refl _) _) hq) | (go_at_call 46; refine (c_block _ _ _ _ _ _ ho).mono ?_; rintro e w2 ⟨rfl, hq2⟩))
    go_ret
    exact ⟨ret_int (by unfold blkOf; rw [ho]; rfl), two kB hq2⟩
end Go.Proofs.Ytaneiilbkkfnoaa
