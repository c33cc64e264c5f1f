/- Contracts of the searches in a table: IndexFunc and ContainsFunc at mappings, byEnd, byPort, byInside. -/
import Derived.Test.YthlaldikdlljfaaDoorTC
import Derived.Test.YthlaldikdlljfaaDoorRE
import Derived.Test.YthlaldikdlljfaaDoorGen
import Derived.Lib.SliceRun
import Derived.Shelf.Abstract
import Derived.BigQuiet
namespace Go.Proofs.YthlaldikdlljfaaDoor
open Go.RowKit

/-- The function value g with what it captured gives p at every mapping, in every world in which all that lay in w0 lies unturned. -/
def PredM (g : Nat) (lb : Array Value) (p : Mpg → Bool) (w0 : World) : Prop :=
  ∀ (W : World) (x : Mpg), Below w0.heap.size w0 W → Calls Tryd.prog g (#[.agg #[.int .i64 x.ad, .int .i64 x.ep, .int .i64 x.po, .int .i64 x.la]] ++ lb) W fun e w' => e = .returned (.bool (p x)) ∧ Below W.heap.size W w'

theorem c_IndexM (g : Nat) (lb : Array Value) (p : Mpg → Bool) (w0 : World) (eg : ∀ args w, (callFunc g args).run Tryd.prog w = .ok (.enter g args) w) (A : Option Addr) (n c : Nat) (l : List Mpg) (w : World)
    (hP : PredM g lb p w0) (hw : Below w0.heap.size w0 w) (hn : l.length = n) (h : TM w A l) (hl : n ≤ 1099511627776) :
    Calls Tryd.prog 84 #[.slice A n c, .func (.func g) #[] lb] w fun e w' => e = .returned (.int .i64 (idx (fun k => p (mn l k)) n)) ∧ Below w.heap.size w w' := by
  have HN := Lib.hid hn
  have HC : Hid (∀ W x, Below w.heap.size w W → Calls Tryd.prog g (#[.agg #[.int .i64 x.ad, .int .i64 x.ep, .int .i64 x.po, .int .i64 x.la]] ++ lb) W fun e w' => e = .returned (.bool (p x)) ∧ Below W.heap.size W w') := fun W x hW => hP W x (Bl.then hw hW)
  clear hn hP hw
  go_enter Tryd.func84, Tryd.ntmps84
  go_wp2
  go_loopw [8] (fun i wr => ∃ k : Nat, k ≤ n ∧ i = .int .i64 k ∧ Hid (∀ j, j < k → p (mn l j) = false) ∧ Hid (Below w.heap.size w wr)) (fun i _ => n - (intOf i).toNat)
  case atStart => exact ⟨0, Nat.zero_le _, rfl, fun j hj => absurd hj (by omega), Below.refl _ _⟩
  case round =>
    obtain ⟨k, hk, rfl, hF, hB⟩ := hrel
    by_cases hlt : k < n
    · obtain ⟨b, off, rfl, hb, c0, c1, c2, c3⟩ := (h.to hB.out).get (k := k) (by rw [HN.out]; exact hlt)
      have hcall := HC.out wr (mn l k) hB.out
      generalize hx : mn l k = x at c0 c1 c2 c3 hcall
      have HX := Lib.hid hx
      clear hx
      cases hp : p x
      · rw [hp] at hcall
        go_wp2_with (go_at_fn g; refine hcall.mono ?_; rintro e w' ⟨rfl, hq⟩)
        go_roundw
        case rel => exact ⟨k + 1, by omega, by go_num, upTo_succ hF.out (by rw [HX.out]; exact hp), Bl.then hB.out hq⟩
        case measure => simp [intOf]; omega
      · rw [hp] at hcall
        go_wp2_with (go_at_fn g; refine hcall.mono ?_; rintro e w' ⟨rfl, hq⟩)
        go_ret
        exact ⟨ret_int (by rw [idx_some hlt (by rw [HX.out]; exact hp) hF.out]), Bl.then hB.out hq⟩
    · go_wp2
      go_ret
      exact ⟨ret_int (by rw [idx_none (fun j hj => hF.out j (by omega))]), hB.out⟩

theorem p_byPort (b : Nat) (p : Int) (w0 : World) (hc : w0.cell? ⟨b, 0, none⟩ = some (.int .i64 p)) (hb : b < w0.heap.size) : PredM 86 #[.pointer (some ⟨b, 0, none⟩)] (fun m => isP m p) w0 := by
  intro W x hW
  have hs := hW.size
  have hbW : b < W.heap.size := by omega
  have hcW : W.cell? ⟨b, 0, none⟩ = some (.int .i64 p) := (hW.cell (p := ⟨b, 0, none⟩) hb).trans hc
  clear hW hc
  go_enter Tryd.func86, Tryd.ntmps86
  go_wp2
  go_ret
  exact ⟨ret_bool (by unfold isP; rfl), (Below.refl _ _).alloc (Nat.le_refl _) _⟩
theorem p_byEnd (b : Nat) (x y : Int) (w0 : World) (hx : w0.cell? ⟨b, 0, none⟩ = some (.int .i64 x)) (hy : w0.cell? ⟨b, 1, none⟩ = some (.int .i64 y)) (hb : b < w0.heap.size) : PredM 85 #[.pointer (some ⟨b, 0, none⟩)] (fun m => isE m x y) w0 := by
  intro W m hW
  have hs := hW.size
  have hbW : b < W.heap.size := by omega
  have hcx : W.cell? ⟨b, 0, none⟩ = some (.int .i64 x) := (hW.cell (p := ⟨b, 0, none⟩) hb).trans hx
  have hcy : W.cell? ⟨b, 1, none⟩ = some (.int .i64 y) := (hW.cell (p := ⟨b, 1, none⟩) hb).trans hy
  clear hW hx hy
  have heql := eql_end
  have hgd := guard_end
  go_enter Tryd.func85, Tryd.ntmps85
  go_wp2
  go_ret
  exact ⟨ret_bool (by unfold isE eqE; rfl), (Below.refl _ _).alloc (Nat.le_refl _) _⟩

theorem c_byPort (A : Option Addr) (n c : Nat) (l : List Mpg) (p : Int) (w : World) (hn : l.length = n) (h : TM w A l) (hl : n ≤ 1099511627776) :
    Calls Tryd.prog 61 #[.slice A n c, .int .i64 p] w fun e w' => e = .returned (.int .i64 (byP l p n)) ∧ Below w.heap.size w w' := by
  have k0 := Blk.new w 3 #[.int .i64 p]
  have hp := p_byPort w.heap.size p _ (k0.cell 0) k0.lt
  have HN := Lib.hid hn
  have HP := Lib.hid hp
  clear hn hp k0
  go_enter Tryd.func61, Tryd.ntmps61
  go_wp2_with fail
  refine (c_IndexM 86 #[.pointer (some ⟨w.heap.size, 0, none⟩)] (fun m => isP m p) _ (enters_of Tryd.func86 (by kernel_rfl) rfl) A n c l _ HP.out (Below.refl _ _) HN.out (h.alloc _) hl).mono ?_
  rintro e w' ⟨rfl, b⟩
  go_wp2
  go_ret
  exact ⟨ret_int (by rfl), Bl.then ((Below.refl _ _).alloc (Nat.le_refl _) _) b⟩
theorem c_byEnd (A : Option Addr) (n c : Nat) (l : List Mpg) (x y : Int) (w : World) (hn : l.length = n) (h : TM w A l) (hl : n ≤ 1099511627776) :
    Calls Tryd.prog 60 #[.slice A n c, .agg #[.int .i64 x, .int .i64 y]] w fun e w' => e = .returned (.int .i64 (byE l x y n)) ∧ Below w.heap.size w w' := by
  have k0 := Blk.new w 25 #[.int .i64 x, .int .i64 y]
  have hp := p_byEnd w.heap.size x y _ (k0.cell 0) (k0.cell 1) k0.lt
  have HN := Lib.hid hn
  have HP := Lib.hid hp
  clear hn hp k0
  go_enter Tryd.func60, Tryd.ntmps60
  go_wp2_with fail
  refine (c_IndexM 85 #[.pointer (some ⟨w.heap.size, 0, none⟩)] (fun m => isE m x y) _ (enters_of Tryd.func85 (by kernel_rfl) rfl) A n c l _ HP.out (Below.refl _ _) HN.out (h.alloc _) hl).mono ?_
  rintro e w' ⟨rfl, b⟩
  go_wp2
  go_ret
  exact ⟨ret_int (by rfl), Bl.then ((Below.refl _ _).alloc (Nat.le_refl _) _) b⟩

theorem c_sByPort (A : Option Addr) (n c : Nat) (l : List Mpg) (p : Int) (w : World) (hn : l.length = n) (h : TM w A l) (hl : n ≤ 1099511627776) :
    Calls Tryd.prog 127 #[.slice A n c, .int .i64 p] w fun e w' => e = .returned (.int .i64 (byP l p n)) ∧ w = w' := by
  have HN := Lib.hid hn
  clear hn
  go_enter Tryd.func127, Tryd.ntmps127
  go_wp2
  go_loop [5] (fun i => ∃ k : Nat, k ≤ n ∧ i = .int .i64 k ∧ Hid (∀ j, j < k → isP (mn l j) p = false)) (fun i => n - (intOf i).toNat)
  case atStart => exact ⟨0, Nat.zero_le _, rfl, fun j hj => absurd hj (by omega)⟩
  case round =>
    obtain ⟨k, hk, rfl, hF⟩ := hrel
    by_cases hlt : k < n
    · obtain ⟨b, off, rfl, hb, -, -, c2, -⟩ := h.get (k := k) (by rw [HN.out]; exact hlt)
      cases hp : isP (mn l k) p
      · have t1 : ((mn l k).po == p) = false := by rw [beq_eq_false_iff_ne]; intro e; rw [isP_iff.2 e] at hp; cases hp
        go_wp2
        go_round
        case rel => exact ⟨k + 1, by omega, by go_num, upTo_succ hF.out hp⟩
        case measure => simp [intOf]; omega
      · have t1 : ((mn l k).po == p) = true := by rw [beq_iff_eq]; exact isP_iff.1 hp
        go_wp2
        go_ret
        exact ⟨ret_int (by unfold byP; rw [idx_some hlt hp hF.out]), rfl⟩
    · go_wp2
      go_ret
      exact ⟨ret_int (by unfold byP; rw [idx_none (fun j hj => hF.out j (by omega))]), rfl⟩
theorem c_byInside (A : Option Addr) (n c : Nat) (l : List Mpg) (x y : Int) (w : World) (hn : l.length = n) (h : TM w A l) (hl : n ≤ 1099511627776) :
    Calls Tryd.prog 118 #[.slice A n c, .agg #[.int .i64 x, .int .i64 y]] w fun e w' => e = .returned (.int .i64 (byE l x y n)) ∧ Below w.heap.size w w' := by
  have HN := Lib.hid hn
  clear hn
  have heql := eql_end
  have hgd := guard_end
  go_enter Tryd.func118, Tryd.ntmps118
  go_wp2
  go_loopw [5] (fun i wr => ∃ k q : Nat, k ≤ n ∧ i = .int .i64 k ∧ Hid (∀ j, j < k → isE (mn l j) x y = false) ∧ wr = (w.alloc (.cells #[.int .i64 x, .int .i64 y] 25)).drewN q) (fun i _ => n - (intOf i).toNat)
  case atStart => exact ⟨0, 0, Nat.zero_le _, rfl, fun j hj => absurd hj (by omega), rfl⟩
  case round =>
    obtain ⟨k, q, hk, rfl, hF, rfl⟩ := hrel
    by_cases hlt : k < n
    · obtain ⟨b, off, rfl, hb, c0, c1, -, -⟩ := h.get (k := k) (by rw [HN.out]; exact hlt)
      have e2 : 0 ≤ (k : Int) ∧ (k : Int) < n := by omega
      cases hp : isE (mn l k) x y
      · have t1 : eqE (mn l k).ad (mn l k).ep x y = false := eqE_false (fun e => by rw [isE_iff.2 e] at hp; cases hp)
        have HP := Lib.hid hp
        clear hp
        go_wp2
        go_quiet (fail)
        go_wp2
        go_roundw
        case rel => exact ⟨k + 1, _, by omega, by go_num, upTo_succ hF.out HP.out, rfl⟩
        case measure => simp [intOf]; omega
      · have t1 : eqE (mn l k).ad (mn l k).ep x y = true := eqE_true (isE_iff.1 hp)
        have HP := Lib.hid hp
        clear hp
        go_wp2
        go_quiet (fail)
        go_wp2
        go_ret
        exact ⟨ret_int (by unfold byE; rw [idx_some hlt HP.out hF.out]), Bl.drewN (Bl.drewN ((Below.refl _ _).alloc (Nat.le_refl _) _) _) _⟩
    · go_wp2
      go_ret
      exact ⟨ret_int (by unfold byE; rw [idx_none (fun j hj => hF.out j (by omega))]), Bl.drewN ((Below.refl _ _).alloc (Nat.le_refl _) _) _⟩
end Go.Proofs.YthlaldikdlljfaaDoor
