/- Contracts of slices.Clone, IndexFunc, DeleteFunc and Clip at []int, over any predicate that only reads. -/
import Derived.Test.YtcfleoobhgagoaaC6
import Derived.Test.YtcfleoobhgagoaaTP
import Derived.Test.YtcfleoobhgagoaaGen
import Derived.Lib.SliceRun
import Derived.Shelf.Abstract
namespace Go.Proofs.Ytcfleoobhgagoaa
open Go.RowKit

/-- The function value g with what it captured gives p at every number, in every world in which all that lay in w0 lies unturned; it may draw. -/
def PredQ (g : Nat) (lb : Array Value) (p : Int → Bool) (w0 : World) : Prop :=
  ∀ (W : World) (x : Int), Below w0.heap.size w0 W → Calls Try.prog g (#[.int .i64 x] ++ lb) W fun e w' => e = .returned (.bool (p x)) ∧ ∃ q, w' = W.drewN q

theorem Blk.sets {g : Nat} {t : TypeId} : ∀ {vs : List Value} {o : Nat} {w : World} {cur : Array Value}, Blk w g t cur →
    ∃ cur', Blk (w.setCells g o vs) g t cur' ∧ cur'.size = cur.size ∧ (∀ j, j < o → cur'[j]? = cur[j]?) ∧ w.grownBy (w.setCells g o vs) (some g)
  | [], o, w, cur, h => ⟨cur, h, rfl, fun _ _ => rfl, World.grownBy.refl w _⟩
  | v :: r, o, w, cur, h => by
    obtain ⟨cur', h1, h2, h3, h4⟩ := Blk.sets (vs := r) (o := o + 1) (h.set_ o v)
    exact ⟨cur', h1, by rw [h2]; simp, fun j hj => by rw [h3 j (by omega), Array.getElem?_setIfInBounds_ne (by omega)], grown_trans (grown_put g o v) h4⟩

theorem c_Clip (A : Option Addr) (n c : Nat) (w : World) (hn : n ≤ c) (_ : c ≤ maxLen) : Calls Try.prog 57 #[.slice A n c] w fun e w' => e = .returned (.slice A n n) ∧ w = w' := by
  go_enter Try.func57, Try.ntmps57
  go_wp2
  go_ret
  exact ⟨by simp, rfl⟩

theorem c_IndexFunc (g : Nat) (lb : Array Value) (p : Int → Bool) (w0 : World) (eg : ∀ args w, (callFunc g args).run Try.prog w = .ok (.enter g args) w) (A : Option Addr) (n c : Nat) (zs : List Int) (w : World)
    (hP : PredQ g lb p w0) (hw : Below w0.heap.size w0 w) (hn : zs.length = n) (h : RI w A zs) (hl : n ≤ 1099511627776) :
    Calls Try.prog 64 #[.slice A n c, .func (.func g) #[] lb] w fun e w' => e = .returned (.int .i64 (idx (fun k => p (nth zs k)) n)) ∧ ∃ q, w' = w.drewN q := by
  have HN := Lib.hid hn
  have HC : Hid (∀ q x, Calls Try.prog g (#[.int .i64 x] ++ lb) (w.drewN q) fun e w' => e = .returned (.bool (p x)) ∧ ∃ q', w' = (w.drewN q).drewN q') := fun q x => hP _ x (Bl.drewN hw q)
  clear hn hP hw
  go_enter Try.func64, Try.ntmps64
  go_wp2
  go_loopw [8] (fun i wr => ∃ k q : Nat, k ≤ n ∧ i = .int .i64 k ∧ Hid (∀ j, j < k → p (nth zs j) = false) ∧ wr = w.drewN q) (fun i _ => n - (intOf i).toNat)
  case atStart => exact ⟨0, 0, Nat.zero_le _, rfl, fun j hj => absurd hj (by omega), rfl⟩
  case round =>
    obtain ⟨k, q, hk, rfl, hF, rfl⟩ := hrel
    by_cases hlt : k < n
    · obtain ⟨b, off, rfl, hb, hc⟩ := h.get (k := k) (by rw [HN.out]; exact hlt)
      have hcall := HC.out q (nth zs k)
      generalize hx : nth zs k = x at hc hcall
      have HX := Lib.hid hx
      clear hx
      cases hp : p x
      · rw [hp] at hcall
        go_wp2_with (go_at_fn g; refine hcall.mono ?_; rintro e w' ⟨rfl, q', rfl⟩)
        go_roundw
        case rel => exact ⟨k + 1, _, by omega, by go_num, upTo_succ hF.out (by rw [HX.out]; exact hp), rfl⟩
        case measure => simp [intOf]; omega
      · rw [hp] at hcall
        go_wp2_with (go_at_fn g; refine hcall.mono ?_; rintro e w' ⟨rfl, q', rfl⟩)
        go_ret
        exact ⟨ret_int (by rw [idx_some hlt (by rw [HX.out]; exact hp) hF.out]), _, rfl⟩
    · go_wp2
      go_ret
      exact ⟨ret_int (by rw [idx_none (fun j hj => hF.out j (by omega))]), _, rfl⟩

theorem c_Clone (A : Option Addr) (n c : Nat) (zs : List Int) (w : World) (hn : zs.length = n) (h : RI w A zs) (hl : n ≤ 1099511627) :
    Calls Try.prog 59 #[.slice A n c] w fun e w' => ∃ A' c', e = .returned (.slice A' n c') ∧ c' ≤ maxLen ∧ OW w' w.heap.size w'.heap.size A' n c' zs ∧ Below w.heap.size w w' := by
  have hnil := fun W a n c => Lib.run_eql_slice_nil (P := Try.prog) W 22 3 a n c 0 0 Try.underlying22
  obtain ⟨i0, hi, hz0, hz1, hz2⟩ := info_parts int_info
  cases A with
  | none =>
    have h0 : n = 0 := by
      rcases Nat.eq_zero_or_pos n with h0 | h0
      · exact h0
      · obtain ⟨_, _, e, _⟩ := h.get (k := 0) (by omega)
        cases e
    subst h0
    go_enter Try.func59, Try.ntmps59
    go_wp2
    go_ret
    exact ⟨none, 0, rfl, by unfold maxLen; omega, ⟨RI.empty hn, hn, Nat.le_refl _, .inl rfl⟩, Below.refl _ _⟩
  | some a =>
    have HN := Lib.hid hn
    clear hn
    go_enter Try.func59, Try.ntmps59
    go_wp2_with (at_builtin; refine wpList_append_rd _ rfl _ _ 22 rfl w.heap.size 3 i0 _ 1 8 Try.underlying22 hi hz0 hz1 hz2 rfl (by omega) _ 0 [] rfl (own_empty (Nat.le_refl _) rfl) (some a) n c (zs.map (Value.int .i64)) rfl (Rd.alloc h _) (by have := HN.out; simpa using this) (one_ints zs) (by unfold maxLen; omega) (by omega) (by simp) ?_; intro v1 w1 hown1 hg1 hat1)
    go_ret
    replace hown1 : w1.ownsRow w.heap.size 3 1 v1 n (zs.map (Value.int .i64)) := by simpa using hown1
    obtain ⟨A', c', rfl, hc1, hc2, _⟩ := own_slice hown1
    exact ⟨A', c', rfl, hc2, (OV.blk hown1 (Nat.le_refl _)).ow, ((Below.refl _ _).alloc (Nat.le_refl _) (.cells #[] 3)).grown hg1 (by simp) (fun k hk => by have e : w.heap.size = k := Option.some.inj hk; omega)⟩
end Go.Proofs.Ytcfleoobhgagoaa
