/- Plain words on pools of addresses (no program). No conditions. -/
import Derived.Test.YtcfleoobhgagoaaPlain
import Derived.Test.YtcfleoobhgagoaaBase
namespace Go.Proofs.Ytcfleoobhgagoaa

/-- All numbers lie in lo .. hi. -/
def allIn (zs : List Int) (lo hi : Int) : Bool := allUp (fun k => inB (nth zs k) lo hi) zs.length
/-- The list has the number x. -/
def hasB (zs : List Int) (x : Int) : Bool := anyUp (fun k => nth zs k == x) zs.length
/-- Two lists are one. -/
def eqL (xs ys : List Int) : Bool := decide (xs = ys)
def vPoolAt (zs : List Int) (k : Nat) : Bool := inB (nth zs k) 0 65535 && (k == 0 || decide (nth zs (k - 1) < nth zs k))
/-- The pool is valid. -/
def vPool (zs : List Int) : Bool := allUp (vPoolAt zs) zs.length && inB zs.length 1 5
/-- The place of an address in a pool of m. -/
def spr (a m : Int) : Int := (a * 37 + 11) % 251 % m
def pAddr (zs : List Int) (a : Int) : Int := if vPool zs && inB a 0 65535 then nth zs (spr a zs.length).toNat else -1
/-- May be asked for. -/
def askB (as : List Int) : Bool := decide (as.length ≤ 12) && allIn as 0 65535

theorem spr_bd {a m : Int} (hm : 1 ≤ m) : 0 ≤ spr a m ∧ spr a m < m := ⟨Int.emod_nonneg _ (by omega), Int.emod_lt_of_pos _ (by omega)⟩
theorem vPool_len {zs : List Int} (h : vPool zs = true) : 1 ≤ zs.length ∧ zs.length ≤ 5 := by
  unfold vPool at h
  rw [Bool.and_eq_true] at h
  have := inB_true h.2
  omega
theorem nth_ext {xs ys : List Int} (hl : xs.length = ys.length) (h : ∀ k, k < xs.length → nth xs k = nth ys k) : xs = ys := by
  apply List.ext_getElem hl
  intro k h1 h2
  have := h k h1
  simpa [nth, h1, h2] using this
theorem eqL_same (xs : List Int) : eqL xs xs = true := by simp [eqL]
theorem eqL_len {xs ys : List Int} (h : xs.length ≠ ys.length) : eqL xs ys = false := by
  simp only [eqL, decide_eq_false_iff_not]; intro e; exact h (by rw [e])
theorem eqL_at {xs ys : List Int} {k : Nat} (h : nth xs k ≠ nth ys k) : eqL xs ys = false := by
  simp only [eqL, decide_eq_false_iff_not]; intro e; exact h (by rw [e])
theorem eqL_all {xs ys : List Int} (hl : xs.length = ys.length) (h : ∀ k, k < xs.length → nth xs k = nth ys k) : eqL xs ys = true := by
  simp only [eqL, decide_eq_true_eq]; exact nth_ext hl h
theorem vPool_split {zs : List Int} : vPool zs = (allUp (fun k => k == 0 || decide (nth zs (k - 1) < nth zs k)) zs.length && (inB zs.length 1 5 && allIn zs 0 65535)) := by
  rw [Bool.eq_iff_iff]
  unfold vPool allIn
  simp only [Bool.and_eq_true, allUp_iff, vPoolAt]
  constructor
  · rintro ⟨h1, h2⟩; exact ⟨fun j hj => (h1 j hj).2, h2, fun j hj => (h1 j hj).1⟩
  · rintro ⟨h1, h2, h3⟩; exact ⟨fun j hj => ⟨h3 j hj, h1 j hj⟩, h2⟩
end Go.Proofs.Ytcfleoobhgagoaa
