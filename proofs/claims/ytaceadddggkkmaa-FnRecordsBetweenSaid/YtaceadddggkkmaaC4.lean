/- Contracts of the laws' helpers that mark a list and look whether the marks stand; of the comparison of two lists. -/
import Derived.Test.YtaceadddggkkmaaC3
namespace Go.Proofs.Ytaceadddggkkmaa
open Go.RowKit

theorem c_equalInts (A B : Option Addr) (c d : Nat) (xs ys : List Int) (w : World) (hA : RI w A xs) (hB : RI w B ys) (hl : xs.length ≤ 1099511627776) :
    Calls Try.prog 41 #[.slice A xs.length c, .slice B ys.length d] w fun e w' => e = .returned (.bool (eqL xs ys)) ∧ ∃ q, w' = w.drewN q := by
  by_cases hne : xs.length = ys.length
  · have HL := Lib.hid hne
    rw [← hne]
    clear hne
    go_enter Try.func41, Try.ntmps41
    go_wp2
    go_loopw [5] (fun i wr => ∃ k q : Nat, k ≤ xs.length ∧ i = .int .i64 k ∧ Hid (∀ j, j < k → nth xs j = nth ys j) ∧ wr = w.drewN q) (fun i _ => xs.length - (intOf i).toNat)
    case atStart => exact ⟨0, 0, by omega, rfl, fun j hj => absurd hj (by omega), rfl⟩
    case round =>
      obtain ⟨k, q, hk, rfl, hP, rfl⟩ := hrel
      by_cases hlt : k < xs.length
      · obtain ⟨b, off, rfl, hb, hc⟩ := hA.get hlt
        obtain ⟨b', off', rfl, hb', hc'⟩ := hB.get (k := k) (by rw [← HL.out]; exact hlt)
        by_cases he : nth xs k = nth ys k
        · have hq : (nth xs k != nth ys k) = false := by simp [he]
          have HE := Lib.hid he
          clear he
          go_wp2
          go_quiet (fail)
          go_wp2
          go_roundw
          case rel => exact ⟨k + 1, _, by omega, by go_num, upTo_succ hP.out HE.out, rfl⟩
          case measure => simp [intOf]; omega
        · have hq : (nth xs k != nth ys k) = true := by simp [he]
          go_wp2
          go_quiet (fail)
          go_wp2
          go_ret
          exact ⟨ret_bool (by rw [eqL_at he]), _, World.drewN_drewN _ _ _⟩
      · go_wp2
        go_ret
        exact ⟨ret_bool (by rw [eqL_all HL.out (fun j hj => hP.out j (by omega))]), _, rfl⟩
  · go_enter Try.func41, Try.ntmps41
    go_wp2
    go_ret
    exact ⟨ret_bool (by rw [eqL_len hne]), 0, rfl⟩

/-- k, k + 1, .. -/
def upFrom (k : Int) (n : Nat) : List Int := (List.range n).map (fun j => k + (j : Nat))
theorem upFrom_len (k : Int) (n : Nat) : (upFrom k n).length = n := by simp [upFrom]
theorem upFrom_nth {k : Int} {n j : Nat} (h : j < n) : nth (upFrom k n) j = k + j := by simp [upFrom, nth, h]

theorem c_markIntS (A : Option Addr) (n c base : Nat) (zs : List Int) (k : Int) (w : World) (h : w.ownsRow base 3 1 (.slice A n c) n (zs.map (Value.int .i64))) (hn : n ≤ 1099511627776) (k0 : 0 ≤ k) (k1 : k ≤ 1099511627776) :
    Calls Try.prog 45 #[.slice A n c, .int .i64 k] w fun e w' => e = .returned (.int .i64 (k + n)) ∧ w'.ownsRow base 3 1 (.slice A n c) n ((upFrom k n).map (Value.int .i64)) ∧ w.grownBy w' (Value.slice A n c).ownBlock := by
  go_enter Try.func45, Try.ntmps45
  go_wp2
  go_loopw [1, 5] (fun m i wr => ∃ (j : Nat) (xs : List Int), j ≤ n ∧ i = .int .i64 j ∧ m = .int .i64 (k + j) ∧ Hid (xs.length = n) ∧ Hid (∀ t, t < j → nth xs t = k + t) ∧ Hid (wr.ownsRow base 3 1 (.slice A n c) n (xs.map (Value.int .i64))) ∧ Hid (w.grownBy wr (Value.slice A n c).ownBlock)) (fun _ i _ => n - (intOf i).toNat)
  case atStart => exact ⟨0, zs, Nat.zero_le _, rfl, by simp, (by have e := own_len h; simp at e; exact e), fun j hj => absurd hj (by omega), h, World.grownBy.refl w _⟩
  case round =>
    obtain ⟨j, xs, hj, rfl, rfl, hl, hP, ho, hg⟩ := hrel
    by_cases hlt : j < n
    · obtain ⟨g, cap, hv, hb1, hb2⟩ := ho.out.form (by omega)
      injection hv with e1 e2 e3
      subst e1 e3
      have hxl : j < xs.length := by rw [hl.out]; exact hlt
      have hcell : wr.cell? ⟨g, j, none⟩ = some (.int .i64 (nth xs j)) := by
        rw [ho.out.cellAt _ (by omega)]; simp [nth, hxl]
      have hfz := ho.out.frozenAt j
      have hst := ho.out.stored j (.int .i64 (k + j))
      have HS := Lib.hid hst
      clear hst
      go_wp2
      go_roundw
      case rel =>
        refine ⟨j + 1, xs.set j (k + j), by omega, by go_num, ?_, by simpa [Hid] using hl.out, upTo_succ (fun t ht => ?_) ?_, ?_, grown_trans hg.out HS.out.2⟩
        · congr 1; omega
        · have := hP.out t ht
          unfold nth at this ⊢
          rw [List.getElem?_set_ne (by omega)]; exact this
        · simp [nth, hxl]
        · show (wr.setCell _ _).ownsRow _ _ _ _ _ _
          rw [List.map_set]; exact HS.out.1
      case measure => simp [intOf]; omega
    · obtain rfl : j = n := by omega
      go_wp2
      go_ret
      have he : xs = upFrom k j := nth_ext (by rw [upFrom_len]; exact hl.out) (fun t ht => by rw [hl.out] at ht; rw [hP.out t ht, upFrom_nth ht])
      exact ⟨rfl, he ▸ ho.out, hg.out⟩

theorem c_heldIntS (A : Option Addr) (c : Nat) (zs : List Int) (k : Int) (w : World) (h : RI w A zs) (hn : zs.length ≤ 1099511627776) (k0 : 0 ≤ k) (k1 : k ≤ 1099511627776) (hz : ∀ j, j < zs.length → nth zs j = k + j) :
    Calls Try.prog 46 #[.slice A zs.length c, .int .i64 k] w fun e w' => e = .returned (.int .i64 (k + zs.length)) ∧ w = w' := by
  have HZ := Lib.hid hz
  clear hz
  go_enter Try.func46, Try.ntmps46
  go_wp2
  go_loop [1, 5] (fun m i => ∃ j : Nat, j ≤ zs.length ∧ i = .int .i64 j ∧ m = .int .i64 (k + j)) (fun _ i => zs.length - (intOf i).toNat)
  case atStart => exact ⟨0, Nat.zero_le _, rfl, by simp⟩
  case round =>
    obtain ⟨j, hj, rfl, rfl⟩ := hrel
    by_cases hlt : j < zs.length
    · obtain ⟨b, off, rfl, hb, hc⟩ := h.get hlt
      rw [HZ.out j hlt] at hc
      go_wp2
      go_round
      case rel => exact ⟨j + 1, by omega, by go_num, by congr 1; omega⟩
      case measure => simp [intOf]; omega
    · obtain hjj : j = zs.length := by omega
      subst hjj
      go_wp2
      go_ret
      exact ⟨rfl, rfl⟩


/-- What a function leaves that hands back a new list: the list zs, in a block of its own, all else as it was. -/
def NewI (zs : List Int) (w : World) (e : Ending) (w' : World) : Prop :=
  ∃ A n c, e = .returned (.slice A n c) ∧ zs.length = n ∧ OV w' w.heap.size w'.heap.size 3 1 A n c (zs.map (Value.int .i64)) ∧ Below w.heap.size w w'
theorem OV.of_blk {w : World} {lo g : Nat} {zs : List Int} (h : Blk w g 3 (ints zs)) (hl : lo ≤ g) (hn : zs.length ≤ 1099511627776) : OV w lo w.heap.size 3 1 (some ⟨g, 0, none⟩) zs.length zs.length (zs.map (Value.int .i64)) := by
  have := h.own (base := lo) (n := zs.length) (size := 1) hl (by rw [size_ints]; omega) (by unfold maxLen; omega)
  refine OV.blk ?_ (Nat.le_refl _)
  simpa [ints] using this
/-- The counts, or nothing where nothing may be asked. -/
def pcsV (zs qs : List Int) : List Int := if vPool zs && askB qs then pcs zs qs else []
theorem CntQ.new {zs qs : List Int} {w w' : World} {e : Ending} (h : CntQ zs qs w e w') (hl : zs.length ≤ 1099511627776) : NewI (pcsV zs qs) w e w' := by
  rcases h with ⟨hv, rfl, hb⟩ | ⟨hv, g, rfl, hk, hg, hb⟩
  · have e1 : pcsV zs qs = [] := by unfold pcsV; rw [hv]; rfl
    rw [e1]
    exact ⟨none, 0, 0, rfl, rfl, ⟨World.ownsRow_nil _ _ _ _, fun a h => by cases h⟩, hb⟩
  · have e1 : pcsV zs qs = pcs zs qs := by unfold pcsV; rw [hv]; rfl
    rw [e1]
    have := OV.of_blk hk hg (by rw [pcs_len]; exact hl)
    rw [pcs_len] at this
    exact ⟨_, _, _, rfl, pcs_len _ _, this, hb⟩
theorem n_markIntS (A : Option Addr) (n c lo hi : Nat) (zs : List Int) (k : Int) (w : World) (h : OV w lo hi 3 1 A n c (zs.map (Value.int .i64))) (hn : n ≤ 1099511627776) (k0 : 0 ≤ k) (k1 : k ≤ 1099511627776) :
    Calls Try.prog 45 #[.slice A n c, .int .i64 k] w fun e w' => e = .returned (.int .i64 (k + n)) ∧ OV w' lo hi 3 1 A n c ((upFrom k n).map (Value.int .i64)) ∧ Turn lo hi w w' := by
  refine (c_markIntS A n c lo zs k w h.1 hn k0 k1).mono ?_
  rintro e w' ⟨rfl, ho, hg⟩
  exact ⟨rfl, ⟨ho, h.2⟩, Turn.of_grown h hg⟩
theorem n_heldIntS (A : Option Addr) (n c lo hi : Nat) (k : Int) (w : World) (h : OV w lo hi 3 1 A n c ((upFrom k n).map (Value.int .i64))) (hn : n ≤ 1099511627776) (k0 : 0 ≤ k) (k1 : k ≤ 1099511627776) :
    Calls Try.prog 46 #[.slice A n c, .int .i64 k] w fun e w' => e = .returned (.int .i64 (k + n)) ∧ w = w' := by
  have hr := h.ri.1
  have := c_heldIntS A c (upFrom k n) k w hr (by rw [upFrom_len]; exact hn) k0 k1 (fun j hj => upFrom_nth (by rw [upFrom_len] at hj; exact hj))
  rw [upFrom_len] at this
  exact this
theorem n_eqIntS (A B : Option Addr) (n m c d : Nat) (xs ys : List Int) (w : World) (hA : RI w A xs) (hB : RI w B ys) (h1 : xs.length = n) (h2 : ys.length = m) (hl : n ≤ 1099511627776) :
    Calls Try.prog 44 #[.slice A n c, .slice B m d] w fun e w' => e = .returned (.bool (eqL xs ys)) ∧ Below w.heap.size w w' := by
  subst h1 h2
  refine (c_eqIntS A B c d xs ys w hA hB hl).mono ?_
  rintro e w' ⟨rfl, b⟩
  exact ⟨rfl, Bl.quiet b⟩
theorem n_equalInts (A B : Option Addr) (n m c d : Nat) (xs ys : List Int) (w : World) (hA : RI w A xs) (hB : RI w B ys) (h1 : xs.length = n) (h2 : ys.length = m) (hl : n ≤ 1099511627776) :
    Calls Try.prog 41 #[.slice A n c, .slice B m d] w fun e w' => e = .returned (.bool (eqL xs ys)) ∧ Below w.heap.size w w' := by
  subst h1 h2
  refine (c_equalInts A B c d xs ys w hA hB hl).mono ?_
  rintro e w' ⟨rfl, b⟩
  exact ⟨rfl, Bl.quiet b⟩
theorem pcsV_len (zs qs : List Int) : (pcsV zs qs).length ≤ 5 := by
  unfold pcsV
  split
  · rename_i h
    rw [Bool.and_eq_true] at h
    have := vPool_len h.1
    rw [pcs_len]; omega
  · simp
end Go.Proofs.Ytaceadddggkkmaa
