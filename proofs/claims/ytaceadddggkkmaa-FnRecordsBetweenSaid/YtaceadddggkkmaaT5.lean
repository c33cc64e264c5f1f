/- Contract of RecordsBetween, the program's. -/
import Derived.Test.YtaceadddggkkmaaT4
namespace Go.Proofs.Ytaceadddggkkmaa
open Go.RowKit

theorem c_ClipR (A : Option Addr) (n c : Nat) (w : World) (hn : n ≤ c) (_ : c ≤ maxLen) : Calls Try.prog 67 #[.slice A n c] w fun e w' => e = .returned (.slice A n n) ∧ w = w' := by
  go_enter Try.func67, Try.ntmps67
  go_wp2
  go_ret
  exact ⟨by simp, rfl⟩
theorem or_of_own {w : World} {base n c : Nat} {A : Option Addr} {l : List Rec} (hl : l.length = n) (h : RO w base (.slice A n c) l) : OR w base w.heap.size A n n l := by
  refine ⟨h.rr hl, hl, Nat.le_refl _, ?_⟩
  unfold RO at h
  rw [hl] at h
  rcases h.2 with ⟨_, h0⟩ | ⟨g, cap, cur, hv, hg, hh, hn, hm, hs, ht⟩
  · exact .inl h0
  · injection hv with hA
    exact .inr ⟨g, cur, hA, hg, (Array.getElem?_eq_some_iff.1 hh).1, hh, by rw [hs]; exact Nat.mul_le_mul_right 5 hn⟩
theorem OR.low {w : World} {lo hi lo' n c : Nat} {A : Option Addr} {l : List Rec} (h : OR w lo hi A n c l) (hl : lo' ≤ lo) : OR w lo' hi A n c l := by
  obtain ⟨h1, h2, h3, h4⟩ := h
  refine ⟨h1, h2, h3, h4.imp id ?_⟩
  rintro ⟨g, cur, e, a, b⟩
  exact ⟨g, cur, e, Nat.le_trans hl a, b⟩
theorem NewR.nil {l : List Rec} {w w' : World} (hl : l = []) (hB : Below w.heap.size w w') : NewR l w (.returned (.slice none 0 0)) w' := by
  subst hl
  exact ⟨none, 0, 0, rfl, rfl, ⟨RR.nil _ _, rfl, Nat.le_refl _, .inl rfl⟩, hB⟩
theorem between_bad1 {a b : List Mpg} {now : Int} (h : vTab a = false) : between a b now = [] := by unfold between; rw [h]; rfl
theorem between_bad2 {a b : List Mpg} {now : Int} (h : vTab b = false) : between a b now = [] := by unfold between; rw [h]; simp
theorem between_bad3 {a b : List Mpg} {now : Int} (h : inB now 0 10000 = false) : between a b now = [] := by unfold between; rw [h]; simp
theorem between_mis {a b : List Mpg} {now : Int} (h1 : vTab a = true) (h2 : vTab b = true) (h3 : inB now 0 10000 = true) : between a b now = mis a b now true a.length ++ mis b a now false b.length := by
  unfold between mis
  rw [h1, h2, h3, List.take_length, List.take_length]; rfl

set_option maxHeartbeats 3200000 in
theorem c_iBetween (A B : Option Addr) (n m c d : Nat) (a b : List Mpg) (now : Int) (w : World) (hn : a.length = n) (hm : b.length = m) (hc : n ≤ c) (hd : m ≤ d) (hA : TM w A a) (hB : TM w B b) (hl : n ≤ 1099511627776) (hl2 : m ≤ 1099511627776) :
    Calls Try.prog 29 #[.slice A n c, .slice B m d, .int .i64 now] w (NewR (between a b now) w) := by
  have HN := Lib.hid hn
  have HM := Lib.hid hm
  have HA : Hid (∀ W, Below w.heap.size w W → TM W A a) := fun W b => hA.to b
  have HB : Hid (∀ W, Below w.heap.size w W → TM W B b) := fun W b => hB.to b
  have k1 := Blk.new w 3 #[.int .i64 now]
  have B0 : Below w.heap.size w (w.alloc (.cells #[.int .i64 now] 3)) := (Below.refl _ _).alloc (Nat.le_refl _) _
  clear hn hm hA hB
  go_enter Try.func29, Try.ntmps29
  go_wp2_with fail
  refine (c_iValidTable _ _ _ a _ HN.out hc (HA.out _ B0) hl).mono ?_
  rintro e w1 ⟨rfl, hq⟩
  replace B0 := Bl.then B0 hq
  replace k1 := k1.to hq
  clear hq
  cases h1 : vTab a
  · have H1 := Lib.hid h1
    clear h1
    go_wp2
    go_ret
    exact NewR.nil (between_bad1 H1.out) B0
  have H1 := Lib.hid h1
  clear h1
  go_wp2_with fail
  refine (c_iValidTable _ _ _ b _ HM.out hd (HB.out _ B0) hl2).mono ?_
  rintro e w2 ⟨rfl, hq⟩
  replace B0 := Bl.then B0 hq
  replace k1 := k1.to hq
  clear hq
  cases h2 : vTab b
  · have H2 := Lib.hid h2
    clear h2
    go_wp2
    go_ret
    exact NewR.nil (between_bad2 H2.out) B0
  have H2 := Lib.hid h2
  clear h2
  have y0 := k1.cell 0
  simp only [List.getElem?_toArray, List.getElem?_cons_zero] at y0
  have hlt := k1.lt
  go_wp2_with fail
  refine (c_isTime _ _).mono ?_
  rintro e w' ⟨rfl, rfl⟩
  cases h3 : inB now 0 10000
  · have H3 := Lib.hid h3
    clear h3
    go_wp2
    go_ret
    exact NewR.nil (between_bad3 H3.out) B0
  have H3 := Lib.hid h3
  clear h3 y0
  have n8 : n ≤ 8 := by rw [← HN.out]; exact (vTab_iff.1 H1.out).2
  have m8 : m ≤ 8 := by rw [← HM.out]; exact (vTab_iff.1 H2.out).2
  have k2 := Blk.new w2 23 #[.slice none 0 0]
  replace k1 := k1.alloc (.cells #[.slice none 0 0] 23)
  have hs2 := B0.size
  replace B0 : Below w.heap.size w (w2.alloc (.cells #[.slice none 0 0] 23)) := B0.alloc B0.size _
  have ml1 := mis_len a b now true n
  have K2 : w2.heap.size ≠ w.heap.size := by omega
  have sa := (World.size_alloc w2 (.cells #[.slice none 0 0] 23))
  go_wp2_with (go_at_fn 64; fail)
  refine (c_missing _ _ _ _ _ _ _ _ (w2.heap.size + 1) a b now true [] (.slice none 0 0) w _ HN.out HM.out HA.out HB.out B0 n8 m8 (by simp) k1 k2 ⟨rfl, .inl ⟨rfl, rfl⟩⟩ (Nat.le_refl _) hs2 (by omega) (by omega) K2 (by simp)).mono ?_
  rintro e w3 ⟨rfl, v1, j1, j2, ho1, B1⟩
  rw [List.nil_append] at ho1
  have hs3 := (j2.lt)
  go_wp2_with (go_at_fn 64; fail)
  refine (c_missing _ _ _ _ _ _ _ _ (w2.heap.size + 1) b a now false (mis a b now true n) v1 w _ HM.out HN.out HB.out HA.out B1 m8 n8 (by omega) j1 j2 ho1 (Nat.le_refl _) hs2 (by omega) (by omega) K2 (by omega)).mono ?_
  rintro e w4 ⟨rfl, v2, i1, i2, ho2, B2⟩
  have hbt := between_mis H1.out H2.out H3.out
  rw [HN.out, HM.out] at hbt
  rw [← hbt] at ho2
  clear hbt
  obtain ⟨E, cE, rfl, hE, hEm, -⟩ := ho2.slice
  have z0 := i2.cell 0
  simp only [List.getElem?_toArray, List.getElem?_cons_zero] at z0
  have hlt2 := i2.lt
  go_wp2_with fail
  refine (c_ClipR _ _ _ _ hE hEm).mono ?_
  rintro e w' ⟨rfl, rfl⟩
  go_wp2
  go_ret
  exact ⟨E, _, _, rfl, rfl, (or_of_own rfl ho2).low (by omega), B2⟩
end Go.Proofs.Ytaceadddggkkmaa
