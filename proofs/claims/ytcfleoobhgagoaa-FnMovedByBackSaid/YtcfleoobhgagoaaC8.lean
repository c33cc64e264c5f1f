/- Contract of slices.DeleteFunc at []int, over any predicate that only reads. -/
import Derived.Test.YtcfleoobhgagoaaC7
namespace Go.Proofs.Ytcfleoobhgagoaa
open Go.RowKit

/-- What is kept of the first j. -/
def kept (p : Int → Bool) (zs : List Int) (j : Nat) : List Int := (zs.take j).filter (fun x => !p x)
theorem kept_succ {p : Int → Bool} {zs : List Int} {j : Nat} (h : j < zs.length) : kept p zs (j + 1) = if p (nth zs j) then kept p zs j else kept p zs j ++ [nth zs j] := by
  unfold kept
  rw [take_succ_nth h, List.filter_append]
  cases hp : p (nth zs j) <;> simp [hp]
theorem kept_all {p : Int → Bool} {zs : List Int} {j : Nat} (hj : j ≤ zs.length) (h : ∀ k, k < j → p (nth zs k) = false) : kept p zs j = zs.take j := by
  unfold kept
  rw [List.filter_eq_self]
  intro x hx
  obtain ⟨k, hk, he⟩ := List.getElem_of_mem hx
  rw [List.length_take] at hk
  have := h k (by omega)
  rw [← he, List.getElem_take]
  simp [nth, show k < zs.length by omega] at this
  simpa using this
theorem kept_le (p : Int → Bool) (zs : List Int) (j : Nat) : (kept p zs j).length ≤ j := by
  unfold kept
  exact Nat.le_trans (List.length_filter_le _ _) (by rw [List.length_take]; omega)
theorem kept_end (p : Int → Bool) (zs : List Int) : kept p zs zs.length = zs.filter (fun x => !p x) := by unfold kept; rw [List.take_length]
theorem nth_snoc_lt {xs : List Int} {x : Int} {k : Nat} (h : k < xs.length) : nth (xs ++ [x]) k = nth xs k := by simp [nth, List.getElem?_append_left h]
theorem nth_snoc_at {xs : List Int} {x : Int} : nth (xs ++ [x]) xs.length = x := by simp [nth]

theorem Turn.of_put {lo hi g : Nat} {w w' : World} (h : w.grownBy w' (some g)) (h1 : lo ≤ g) (h2 : g < hi) : Turn lo hi w w' :=
  ⟨h.os, h.tape, h.output, h.size, fun k hk hne => h.block k hk (fun e => by injection e with e; subst e; exact hne ⟨h1, h2⟩)⟩
theorem Turn.refl (lo hi : Nat) (w : World) : Turn lo hi w w := ⟨rfl, rfl, rfl, Nat.le_refl _, fun _ _ _ => rfl⟩
theorem Turn.drewN {lo hi : Nat} {w w' : World} (h : Turn lo hi w w') (q : Nat) : Turn lo hi w (w'.drewN q) := ⟨h.os, h.tape, h.output, h.size, h.block⟩
theorem Turn.trans {lo hi : Nat} {a b c : World} (h : Turn lo hi a b) (k : Turn lo hi b c) : Turn lo hi a c :=
  ⟨k.os.trans h.os, k.tape.trans h.tape, k.output.trans h.output, Nat.le_trans h.size k.size, fun i hi' hne => (k.block i (Nat.lt_of_lt_of_le hi' h.size) hne).trans (h.block i hi' hne)⟩
theorem OW.drewN {w : World} {lo hi n c : Nat} {A : Option Addr} {zs : List Int} (h : OW w lo hi A n c zs) (q : Nat) : OW (w.drewN q) lo hi A n c zs := h

set_option maxHeartbeats 1600000 in
theorem c_DeleteFunc (g : Nat) (lb : Array Value) (p : Int → Bool) (w0 : World) (eg : ∀ args w, (callFunc g args).run Try.prog w = .ok (.enter g args) w) (A : Option Addr) (lo hi n c : Nat) (zs : List Int) (w : World)
    (hP : PredQ g lb p w0) (hw : Below w0.heap.size w0 w) (h0 : w0.heap.size ≤ lo) (h : OW w lo hi A n c zs) (hnm : n ≤ 1099511627776) (hcm : c ≤ maxLen) :
    Calls Try.prog 58 #[.slice A n c, .func (.func g) #[] lb] w fun e w' => ∃ m, e = .returned (.slice A m c) ∧ OW w' lo hi A m c (zs.filter (fun x => !p x)) ∧ Turn lo hi w w' := by
  obtain ⟨h1, h2, h3, h4⟩ := id h
  unfold maxLen at hcm
  have hIF := c_IndexFunc g lb p w0 eg A n c zs w hP hw h2 h1 (by omega)
  rcases idx_cases (fun k => p (nth zs k)) n with ⟨k0, hk0, hp0, hF, hi0⟩ | ⟨hF, hi0⟩
  · obtain ⟨gg, cur, rfl, a1, a2, hb, hs⟩ := h4.resolve_left (by omega)
    rw [hi0] at hIF
    have hne1 : ((k0 : Int) == -1) = false := beq_eq_false_iff_ne.2 (by omega)
    have HN := Lib.hid h2
    have HC : Hid (∀ W x, w.grownBy W (some gg) → Calls Try.prog g (#[.int .i64 x] ++ lb) W fun e w' => e = .returned (.bool (p x)) ∧ ∃ q', w' = W.drewN q') := fun W x hg => hP _ x (hw.trans (below_of_grown hg hw.size (by omega)))
    have hst : Hid (∀ j, j < n → cur[j]? = some (.int .i64 (nth zs j))) := fun j hj => by
      obtain ⟨b', off', e, _, hc⟩ := h1.get (k := j) (by omega)
      cases e
      rw [← hb.cell, ← hc, Nat.zero_add]
    have hK0 : (kept p zs (k0 + 1)).length = k0 := by
      rw [kept_succ (by omega), if_pos hp0, kept_all (by omega) hF, List.length_take]; omega
    have HK : Hid (kept p zs (k0 + 1) = zs.take k0) := by rw [kept_succ (by omega), if_pos hp0, kept_all (by omega) hF]; rfl
    have hcl := fun ty (wr : World) (i : Nat) (hi' : i < n) (hc : ∀ j, j < n - i → (wr.cell? ⟨gg, 0 + i + j, none⟩).isSome = true) (hf : ∀ j, j < n - i → wr.frozen? ⟨gg, 0 + i + j, none⟩ = false) =>
      Lib.run_clear_slice (P := Try.prog) wr 22 3 ty (.int .i64 0) Try.underlying22 (fun _ => by kernel_rfl) rfl rfl gg (0 + i) (n - i) (c - i) (by omega) hc hf
    clear hi0 hF hp0 h h1 h4 h2 hP hw
    go_enter Try.func58, Try.ntmps58
    go_wp2_with (go_at_call 64; refine hIF.mono ?_; rintro e w' ⟨rfl, q0, rfl⟩)
    go_loopw [5, 6] (fun s5 s6 wr => ∃ (i j : Nat) (cs : Array Value), s5 = .int .i64 i ∧ s6 = .int .i64 j ∧ i < j ∧ j ≤ n ∧ Hid ((kept p zs j).length = i) ∧ Hid (cs.size = cur.size) ∧ Hid (Blk wr gg 3 cs) ∧
      Hid (∀ t, t < i → cs[t]? = some (.int .i64 (nth (kept p zs j) t))) ∧ Hid (∀ t, j ≤ t → t < n → cs[t]? = some (.int .i64 (nth zs t))) ∧ Hid (w.grownBy wr (some gg))) (fun _ s6 _ => n - (intOf s6).toNat)
    case atStart => exact ⟨k0, k0 + 1, cur, rfl, by go_num, by omega, by omega, hK0, rfl, hb, fun t ht => by rw [HK.out, nth_take ht]; exact hst.out t (by omega), fun t _ ht => hst.out t ht, grown_drewN (World.grownBy.refl w _) q0⟩
    case round =>
      obtain ⟨i, j, cs, rfl, rfl, hij, hjn, HL, HS, HB, H1, H2, HG⟩ := hrel
      have kb := HB.out
      by_cases hlt : j < n
      · have hc2 : wr.cell? ⟨gg, j, none⟩ = some (.int .i64 (nth zs j)) := (kb.cell j).trans (H2.out j (Nat.le_refl _) hlt)
        have hcall := HC.out wr (nth zs j) HG.out
        have hisz : i < cs.size := by have := HS.out; omega
        obtain ⟨old, hold⟩ : ∃ old, cs[i]? = some old := ⟨_, Array.getElem?_eq_getElem hisz⟩
        have hc1 : wr.cell? ⟨gg, i, none⟩ = some old := (kb.cell i).trans hold
        have hf1 := kb.frozen i
        have HKS := Lib.hid (kept_succ (p := p) (zs := zs) (j := j) (by rw [HN.out]; exact hlt))
        generalize hx : nth zs j = x at hc2 hcall
        have HX := Lib.hid hx
        clear hx hold
        cases hp : p x
        · rw [hp] at hcall
          go_wp2_with (go_at_fn g; refine hcall.mono ?_; rintro e w' ⟨rfl, q', rfl⟩)
          go_roundw
          case rel =>
            have hk1 : kept p zs (j + 1) = kept p zs j ++ [x] := by rw [HKS.out, HX.out, hp]; rfl
            have hl := HL.out
            refine ⟨i + 1, j + 1, cs.setIfInBounds i (.int .i64 x), by go_num, by go_num, by omega, by omega, by rw [hk1]; simp [Hid, hl], by simpa [Hid] using HS.out, ?_, ?_, ?_, ?_⟩
            · exact (kb.drewN q').set_ i _
            · intro t ht
              rw [hk1]
              by_cases e : t = i
              · subst e
                rw [Array.getElem?_setIfInBounds_self_of_lt hisz, ← hl, nth_snoc_at]
              · rw [Array.getElem?_setIfInBounds_ne (by omega), nth_snoc_lt (by omega)]
                exact H1.out t (by omega)
            · intro t ht1 ht2
              rw [Array.getElem?_setIfInBounds_ne (by omega)]
              exact H2.out t (by omega) ht2
            · exact grown_trans (grown_drewN HG.out q') (grown_put gg i _)
          case measure => simp [intOf]; omega
        · rw [hp] at hcall
          go_wp2_with (go_at_fn g; refine hcall.mono ?_; rintro e w' ⟨rfl, q', rfl⟩)
          go_roundw
          case rel =>
            have hk1 : kept p zs (j + 1) = kept p zs j := by rw [HKS.out, HX.out, hp]; rfl
            exact ⟨i, j + 1, cs, rfl, by go_num, by omega, by omega, by rw [hk1]; exact HL.out, HS.out, kb.drewN q', by rw [hk1]; exact H1.out, fun t h1 h2 => H2.out t (by omega) h2, grown_drewN HG.out q'⟩
          case measure => simp [intOf]; omega
      · obtain hjn' : j = n := by omega
        subst hjn'
        have hclear := fun ty => hcl ty wr i hij (fun t ht => by rw [Nat.zero_add, kb.cell, Array.getElem?_eq_getElem (by have := HS.out; omega)]; rfl) (fun t ht => kb.frozen _)
        simp only [Nat.zero_add] at hclear
        clear hcl
        go_wp2
        go_ret
        obtain ⟨cur', q1, q2, q3, q4⟩ := Blk.sets (vs := List.replicate (j - i) (.int .i64 0)) (o := i) kb
        have hl := HL.out
        have he : kept p zs j = zs.filter (fun x => !p x) := by rw [← HN.out]; exact kept_end p zs
        rw [he] at hl
        refine ⟨i, rfl, OW.of_blk rfl q1 a1 a2 hl (by omega) (by rw [q2]; have := HS.out; omega) (fun t ht => ?_), Turn.of_put (grown_trans HG.out q4) a1 a2⟩
        rw [q3 t ht, H1.out t ht, he]
  · rw [hi0] at hIF
    have hfil : zs.filter (fun x => !p x) = zs := by
      have := kept_all (p := p) (zs := zs) (j := zs.length) (Nat.le_refl _) (by rw [h2]; exact hF)
      rw [kept_end, List.take_length] at this
      exact this
    have HF := Lib.hid hfil
    clear hfil hF hi0 h1 h4
    go_enter Try.func58, Try.ntmps58
    go_wp2_with (go_at_call 64; refine hIF.mono ?_; rintro e w' ⟨rfl, q0, rfl⟩)
    go_ret
    exact ⟨n, rfl, by rw [HF.out]; exact h.drewN q0, (Turn.refl lo hi w).drewN q0⟩

end Go.Proofs.Ytcfleoobhgagoaa
