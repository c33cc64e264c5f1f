/- Contract of the generator: plans. -/
import Derived.Test.YtaneiilbkkfnoaaG2
namespace Go.Proofs.Ytaneiilbkkfnoaa
open Go.RowKit

/-- What a generator of a plan leaves. -/
def GenP (w : World) (g p k : Nat) (e : Ending) (w' : World) : Prop :=
  ∃ (ba bi fi si : Int) (p' : Nat), e = .returned (.agg #[.int .i64 ba, .int .i64 bi, .int .i64 fi, .int .i64 si]) ∧ (-65536 ≤ ba ∧ ba ≤ 200000 ∧ -1 ≤ bi ∧ bi ≤ 17 ∧ 0 ≤ fi ∧ fi ≤ 65535 ∧ 0 ≤ si ∧ si ≤ 17) ∧ Rdr w' g p' ∧ p' ≤ p + k ∧ w.grownBy w' (some g)

set_option maxHeartbeats 1600000 in
theorem c_anyPlan (g p : Nat) (w : World) (hr : Rdr w g p) (hp : p ≤ 1099511624000) :
    Calls Try.prog 36 #[.pointer (some ⟨g, 0, none⟩)] w (GenP w g p 12) := by
  go_enter Try.func36, Try.ntmps36
  go_wp2_with fail
  have hgl := hr.lt
  have k0 := Blk.new w 26 #[.int .i64 0, .int .i64 0, .int .i64 0, .int .i64 0]
  have h := grown_alloc (World.grownBy.refl w (some g)) (.cells #[.int .i64 0, .int .i64 0, .int .i64 0, .int .i64 0] 26)
  replace hr := hr.alloc (.cells #[.int .i64 0, .int .i64 0, .int .i64 0, .int .i64 0] 26)
  have hne0 : w.heap.size ≠ g := by omega
  refine (c_one _ _ _ _ [8, 12, 14, 16] _ (hr.alloc _) (by omega) (lit_ints _ (by simp) rfl) (by simp) (by simp) (lit_far hr (by simp))).mono ?_
  rintro e w1 ⟨bi, rfl, hx, hr, h1⟩
  have hbi : 0 ≤ bi ∧ bi ≤ 16 := by
    simp only [List.mem_cons, List.not_mem_nil, or_false] at hx
    omega
  clear hx
  replace k0 := (k0.alloc (.cells (ints [8, 12, 14, 16]) 3)).grown h1 (by simpa using hne0)
  replace h := grown_trans (grown_alloc h _) h1
  clear h1
  go_wp2_with fail
  refine (c_one _ _ _ _ [1, 1024, 2000] _ (hr.alloc _) (by omega) (lit_ints _ rfl rfl) (by simp) (by simp) (lit_far hr rfl)).mono ?_
  rintro e w2 ⟨fi, rfl, hx, hr, h2⟩
  have hfi : 1 ≤ fi ∧ fi ≤ 2000 := by
    simp only [List.mem_cons, List.not_mem_nil, or_false] at hx
    omega
  clear hx
  replace k0 := (k0.alloc (.cells (ints [1, 1024, 2000]) 3)).grown h2 (by simpa using hne0)
  replace h := grown_trans (grown_alloc h _) h2
  clear h2
  go_wp2_with fail
  refine (c_one _ _ _ _ [1, 4, 8, 16, 3] _ (hr.alloc _) (by omega) (lit_ints _ rfl rfl) (by simp) (by simp) (lit_far hr rfl)).mono ?_
  rintro e w3 ⟨si, rfl, hx, hr, h3⟩
  have hsi : 1 ≤ si ∧ si ≤ 16 := by
    simp only [List.mem_cons, List.not_mem_nil, or_false] at hx
    omega
  clear hx
  replace k0 := (k0.alloc (.cells (ints [1, 4, 8, 16, 3]) 3)).grown h3 (by simpa using hne0)
  replace h := grown_trans (grown_alloc h _) h3
  clear h3
  have hszw : w.heap.size < w3.heap.size := k0.lt
  have hs1 : w.heap.size ≤ w3.heap.size := by omega
  have hne1 : w.heap.size ≠ w3.heap.size := by omega
  have hne : w3.heap.size ≠ g := by have := hr.lt; omega
  have k1 := Blk.new w3 26 #[.int .i64 2560, .int .i64 bi, .int .i64 fi, .int .i64 si]
  replace k0 := k0.alloc (.cells #[.int .i64 2560, .int .i64 bi, .int .i64 fi, .int .i64 si] 26)
  go_wp2_with fail
  refine (c_pick _ _ _ _ (hr.alloc _) (by omega)).mono ?_
  rintro e w4 ⟨x, rfl, a1, b1, -, hr, h4⟩
  replace k0 := k0.grown h4 (by simpa using hne0)
  replace k1 := k1.grown h4 (by simpa using hne)
  replace h := grown_trans (grown_alloc h _) h4
  clear h4 b1
  by_cases hx0 : x = 0
  · subst hx0
    go_wp2_with fail
    refine (c_anyNet _ _ _ hr (by omega)).mono ?_
    rintro e w5 ⟨na, nb, p5, rfl, hR, hr, hp5, h5⟩
    replace k0 := k0.grown h5 (by simpa using hne0)
    replace k1 := k1.grown h5 (by simpa using hne)
    replace h := grown_trans h h5
    clear h5
    have c0 : w5.cell? ⟨w3.heap.size, 0, none⟩ = some (.int .i64 2560) := k1.cell 0
    have c1 : w5.cell? ⟨w3.heap.size, 1, none⟩ = some (.int .i64 bi) := k1.cell 1
    have c2 : w5.cell? ⟨w3.heap.size, 2, none⟩ = some (.int .i64 fi) := k1.cell 2
    have c3 : w5.cell? ⟨w3.heap.size, 3, none⟩ = some (.int .i64 si) := k1.cell 3
    have y0 : w5.cell? ⟨w.heap.size, 0, none⟩ = some (.int .i64 0) := k0.cell 0
    have y1 : w5.cell? ⟨w.heap.size, 1, none⟩ = some (.int .i64 0) := k0.cell 1
    have y2 : w5.cell? ⟨w.heap.size, 2, none⟩ = some (.int .i64 0) := k0.cell 2
    have y3 : w5.cell? ⟨w.heap.size, 3, none⟩ = some (.int .i64 0) := k0.cell 3
    have cf0 := k1.frozen 0
    have yf0 := k0.frozen 0
    have cf1 := k1.frozen 1
    have yf1 := k0.frozen 1
    have cf2 := k1.frozen 2
    have yf2 := k0.frozen 2
    have cf3 := k1.frozen 3
    have yf3 := k0.frozen 3
    go_wp2
    generalize hw6 : (World.setCell (World.setCell (World.setCell (World.setCell (World.setCell (World.setCell w5 { block := w3.heap.size, off := 0 } (Value.int IntKind.i64 na)) { block := w3.heap.size, off := 1 } (Value.int IntKind.i64 nb)) { block := w.heap.size, off := 0 } (Value.int IntKind.i64 na)) { block := w.heap.size, off := 1 } (Value.int IntKind.i64 nb)) { block := w.heap.size, off := 2 } (Value.int IntKind.i64 fi)) { block := w.heap.size, off := 3 } (Value.int IntKind.i64 si)) = w6
    have z : Blk w6 w.heap.size 26 #[.int .i64 na, .int .i64 nb, .int .i64 fi, .int .i64 si] := by rw [← hw6]; exact ((((((k0.far hne1 _).far hne1 _).set_ 0 _).set_ 1 _).set_ 2 _).set_ 3 _)
    have hr6 : Rdr w6 g (p5) := by rw [← hw6]; exact ((((((hr.set (by omega)).set (by omega)).set hgl).set hgl).set hgl).set hgl)
    have hg6 : w.grownBy w6 (some g) := by rw [← hw6]; exact (grown_set (grown_set (grown_set (grown_set (grown_set (grown_set h hs1) hs1) (Nat.le_refl _)) (Nat.le_refl _)) (Nat.le_refl _)) (Nat.le_refl _))
    have z0 : w6.cell? ⟨w.heap.size, 0, none⟩ = some (.int .i64 na) := z.cell 0
    have z1 : w6.cell? ⟨w.heap.size, 1, none⟩ = some (.int .i64 nb) := z.cell 1
    have z2 : w6.cell? ⟨w.heap.size, 2, none⟩ = some (.int .i64 fi) := z.cell 2
    have z3 : w6.cell? ⟨w.heap.size, 3, none⟩ = some (.int .i64 si) := z.cell 3
    refine bodyPost_ret (v := .agg #[.int .i64 na, .int .i64 nb, .int .i64 fi, .int .i64 si]) (by simp [results, Try.results36, go_sem, z0, z1, z2, z3]) rfl ?_
    exact ⟨na, nb, fi, si, _, rfl, ⟨hR.1, hR.2.1, hR.2.2.1, hR.2.2.2, by omega, by omega, by omega, by omega⟩, hr6, by omega, hg6⟩
  by_cases hx1 : x = 1
  · subst hx1
    go_wp2_with fail
    refine (c_one _ _ _ _ [0, 65535, 65000] _ (hr.alloc _) (by omega) (lit_ints _ rfl rfl) (by simp) (by simp) (lit_far hr rfl)).mono ?_
    rintro e w5 ⟨nf, rfl, hx, hr, h5⟩
    have hnn : 0 ≤ nf ∧ nf ≤ 65535 := by
      simp only [List.mem_cons, List.not_mem_nil, or_false] at hx
      omega
    clear hx
    replace k0 := (k0.alloc (.cells (ints [0, 65535, 65000]) 3)).grown h5 (by simpa using hne0)
    replace k1 := (k1.alloc (.cells (ints [0, 65535, 65000]) 3)).grown h5 (by simpa using hne)
    replace h := grown_trans (grown_alloc h _) h5
    clear h5
    have c0 : w5.cell? ⟨w3.heap.size, 0, none⟩ = some (.int .i64 2560) := k1.cell 0
    have c1 : w5.cell? ⟨w3.heap.size, 1, none⟩ = some (.int .i64 bi) := k1.cell 1
    have c2 : w5.cell? ⟨w3.heap.size, 2, none⟩ = some (.int .i64 fi) := k1.cell 2
    have c3 : w5.cell? ⟨w3.heap.size, 3, none⟩ = some (.int .i64 si) := k1.cell 3
    have y0 : w5.cell? ⟨w.heap.size, 0, none⟩ = some (.int .i64 0) := k0.cell 0
    have y1 : w5.cell? ⟨w.heap.size, 1, none⟩ = some (.int .i64 0) := k0.cell 1
    have y2 : w5.cell? ⟨w.heap.size, 2, none⟩ = some (.int .i64 0) := k0.cell 2
    have y3 : w5.cell? ⟨w.heap.size, 3, none⟩ = some (.int .i64 0) := k0.cell 3
    have cf0 := k1.frozen 0
    have yf0 := k0.frozen 0
    have cf1 := k1.frozen 1
    have yf1 := k0.frozen 1
    have cf2 := k1.frozen 2
    have yf2 := k0.frozen 2
    have cf3 := k1.frozen 3
    have yf3 := k0.frozen 3
    go_wp2
    generalize hw6 : (World.setCell (World.setCell (World.setCell (World.setCell (World.setCell w5 { block := w3.heap.size, off := 2 } (Value.int IntKind.i64 nf)) { block := w.heap.size, off := 0 } (Value.int IntKind.i64 2560)) { block := w.heap.size, off := 1 } (Value.int IntKind.i64 bi)) { block := w.heap.size, off := 2 } (Value.int IntKind.i64 nf)) { block := w.heap.size, off := 3 } (Value.int IntKind.i64 si)) = w6
    have z : Blk w6 w.heap.size 26 #[.int .i64 2560, .int .i64 bi, .int .i64 nf, .int .i64 si] := by rw [← hw6]; exact (((((k0.far hne1 _).set_ 0 _).set_ 1 _).set_ 2 _).set_ 3 _)
    have hr6 : Rdr w6 g (p + 1 + 1 + 1 + 1 + 1) := by rw [← hw6]; exact (((((hr.set (by omega)).set hgl).set hgl).set hgl).set hgl)
    have hg6 : w.grownBy w6 (some g) := by rw [← hw6]; exact (grown_set (grown_set (grown_set (grown_set (grown_set h hs1) (Nat.le_refl _)) (Nat.le_refl _)) (Nat.le_refl _)) (Nat.le_refl _))
    have z0 : w6.cell? ⟨w.heap.size, 0, none⟩ = some (.int .i64 2560) := z.cell 0
    have z1 : w6.cell? ⟨w.heap.size, 1, none⟩ = some (.int .i64 bi) := z.cell 1
    have z2 : w6.cell? ⟨w.heap.size, 2, none⟩ = some (.int .i64 nf) := z.cell 2
    have z3 : w6.cell? ⟨w.heap.size, 3, none⟩ = some (.int .i64 si) := z.cell 3
    refine bodyPost_ret (v := .agg #[.int .i64 2560, .int .i64 bi, .int .i64 nf, .int .i64 si]) (by simp [results, Try.results36, go_sem, z0, z1, z2, z3]) rfl ?_
    exact ⟨2560, bi, nf, si, _, rfl, ⟨by omega, by omega, by omega, by omega, by omega, by omega, by omega, by omega⟩, hr6, by omega, hg6⟩
  by_cases hx2 : x = 2
  · subst hx2
    go_wp2_with fail
    refine (c_one _ _ _ _ [0, 17] _ (hr.alloc _) (by omega) (lit_ints _ rfl rfl) (by simp) (by simp) (lit_far hr rfl)).mono ?_
    rintro e w5 ⟨ns, rfl, hx, hr, h5⟩
    have hnn : 0 ≤ ns ∧ ns ≤ 17 := by
      simp only [List.mem_cons, List.not_mem_nil, or_false] at hx
      omega
    clear hx
    replace k0 := (k0.alloc (.cells (ints [0, 17]) 3)).grown h5 (by simpa using hne0)
    replace k1 := (k1.alloc (.cells (ints [0, 17]) 3)).grown h5 (by simpa using hne)
    replace h := grown_trans (grown_alloc h _) h5
    clear h5
    have c0 : w5.cell? ⟨w3.heap.size, 0, none⟩ = some (.int .i64 2560) := k1.cell 0
    have c1 : w5.cell? ⟨w3.heap.size, 1, none⟩ = some (.int .i64 bi) := k1.cell 1
    have c2 : w5.cell? ⟨w3.heap.size, 2, none⟩ = some (.int .i64 fi) := k1.cell 2
    have c3 : w5.cell? ⟨w3.heap.size, 3, none⟩ = some (.int .i64 si) := k1.cell 3
    have y0 : w5.cell? ⟨w.heap.size, 0, none⟩ = some (.int .i64 0) := k0.cell 0
    have y1 : w5.cell? ⟨w.heap.size, 1, none⟩ = some (.int .i64 0) := k0.cell 1
    have y2 : w5.cell? ⟨w.heap.size, 2, none⟩ = some (.int .i64 0) := k0.cell 2
    have y3 : w5.cell? ⟨w.heap.size, 3, none⟩ = some (.int .i64 0) := k0.cell 3
    have cf0 := k1.frozen 0
    have yf0 := k0.frozen 0
    have cf1 := k1.frozen 1
    have yf1 := k0.frozen 1
    have cf2 := k1.frozen 2
    have yf2 := k0.frozen 2
    have cf3 := k1.frozen 3
    have yf3 := k0.frozen 3
    go_wp2
    generalize hw6 : (World.setCell (World.setCell (World.setCell (World.setCell (World.setCell w5 { block := w3.heap.size, off := 3 } (Value.int IntKind.i64 ns)) { block := w.heap.size, off := 0 } (Value.int IntKind.i64 2560)) { block := w.heap.size, off := 1 } (Value.int IntKind.i64 bi)) { block := w.heap.size, off := 2 } (Value.int IntKind.i64 fi)) { block := w.heap.size, off := 3 } (Value.int IntKind.i64 ns)) = w6
    have z : Blk w6 w.heap.size 26 #[.int .i64 2560, .int .i64 bi, .int .i64 fi, .int .i64 ns] := by rw [← hw6]; exact (((((k0.far hne1 _).set_ 0 _).set_ 1 _).set_ 2 _).set_ 3 _)
    have hr6 : Rdr w6 g (p + 1 + 1 + 1 + 1 + 1) := by rw [← hw6]; exact (((((hr.set (by omega)).set hgl).set hgl).set hgl).set hgl)
    have hg6 : w.grownBy w6 (some g) := by rw [← hw6]; exact (grown_set (grown_set (grown_set (grown_set (grown_set h hs1) (Nat.le_refl _)) (Nat.le_refl _)) (Nat.le_refl _)) (Nat.le_refl _))
    have z0 : w6.cell? ⟨w.heap.size, 0, none⟩ = some (.int .i64 2560) := z.cell 0
    have z1 : w6.cell? ⟨w.heap.size, 1, none⟩ = some (.int .i64 bi) := z.cell 1
    have z2 : w6.cell? ⟨w.heap.size, 2, none⟩ = some (.int .i64 fi) := z.cell 2
    have z3 : w6.cell? ⟨w.heap.size, 3, none⟩ = some (.int .i64 ns) := z.cell 3
    refine bodyPost_ret (v := .agg #[.int .i64 2560, .int .i64 bi, .int .i64 fi, .int .i64 ns]) (by simp [results, Try.results36, go_sem, z0, z1, z2, z3]) rfl ?_
    exact ⟨2560, bi, fi, ns, _, rfl, ⟨by omega, by omega, by omega, by omega, by omega, by omega, by omega, by omega⟩, hr6, by omega, hg6⟩
  have hx0' : (x == 0) = false := by rw [beq_eq_false_iff_ne]; exact hx0
  have hx1' : (x == 1) = false := by rw [beq_eq_false_iff_ne]; exact hx1
  have hx2' : (x == 2) = false := by rw [beq_eq_false_iff_ne]; exact hx2
  have c0 : w4.cell? ⟨w3.heap.size, 0, none⟩ = some (.int .i64 2560) := k1.cell 0
  have c1 : w4.cell? ⟨w3.heap.size, 1, none⟩ = some (.int .i64 bi) := k1.cell 1
  have c2 : w4.cell? ⟨w3.heap.size, 2, none⟩ = some (.int .i64 fi) := k1.cell 2
  have c3 : w4.cell? ⟨w3.heap.size, 3, none⟩ = some (.int .i64 si) := k1.cell 3
  have y0 : w4.cell? ⟨w.heap.size, 0, none⟩ = some (.int .i64 0) := k0.cell 0
  have y1 : w4.cell? ⟨w.heap.size, 1, none⟩ = some (.int .i64 0) := k0.cell 1
  have y2 : w4.cell? ⟨w.heap.size, 2, none⟩ = some (.int .i64 0) := k0.cell 2
  have y3 : w4.cell? ⟨w.heap.size, 3, none⟩ = some (.int .i64 0) := k0.cell 3
  have cf0 := k1.frozen 0
  have yf0 := k0.frozen 0
  have cf1 := k1.frozen 1
  have yf1 := k0.frozen 1
  have cf2 := k1.frozen 2
  have yf2 := k0.frozen 2
  have cf3 := k1.frozen 3
  have yf3 := k0.frozen 3
  go_wp2
  generalize hw6 : (World.setCell (World.setCell (World.setCell (World.setCell w4 { block := w.heap.size, off := 0 } (Value.int IntKind.i64 2560)) { block := w.heap.size, off := 1 } (Value.int IntKind.i64 bi)) { block := w.heap.size, off := 2 } (Value.int IntKind.i64 fi)) { block := w.heap.size, off := 3 } (Value.int IntKind.i64 si)) = w6
  have z : Blk w6 w.heap.size 26 #[.int .i64 2560, .int .i64 bi, .int .i64 fi, .int .i64 si] := by rw [← hw6]; exact ((((k0.set_ 0 _).set_ 1 _).set_ 2 _).set_ 3 _)
  have hr6 : Rdr w6 g (p + 1 + 1 + 1 + 1) := by rw [← hw6]; exact ((((hr.set hgl).set hgl).set hgl).set hgl)
  have hg6 : w.grownBy w6 (some g) := by rw [← hw6]; exact (grown_set (grown_set (grown_set (grown_set h (Nat.le_refl _)) (Nat.le_refl _)) (Nat.le_refl _)) (Nat.le_refl _))
  have z0 : w6.cell? ⟨w.heap.size, 0, none⟩ = some (.int .i64 2560) := z.cell 0
  have z1 : w6.cell? ⟨w.heap.size, 1, none⟩ = some (.int .i64 bi) := z.cell 1
  have z2 : w6.cell? ⟨w.heap.size, 2, none⟩ = some (.int .i64 fi) := z.cell 2
  have z3 : w6.cell? ⟨w.heap.size, 3, none⟩ = some (.int .i64 si) := z.cell 3
  refine bodyPost_ret (v := .agg #[.int .i64 2560, .int .i64 bi, .int .i64 fi, .int .i64 si]) (by simp [results, Try.results36, go_sem, z0, z1, z2, z3]) rfl ?_
  exact ⟨2560, bi, fi, si, _, rfl, ⟨by omega, by omega, by omega, by omega, by omega, by omega, by omega, by omega⟩, hr6, by omega, hg6⟩
end Go.Proofs.Ytaneiilbkkfnoaa
