/- Joined: W31. -/
import Derived.Test.YtjflfhjnbccpmaaGreatDoorJ14
import Derived.Test.YtjflfhjnbccpmaaGreatDoorJUR
set_option linter.unusedVariables false
set_option linter.unusedSimpArgs false
namespace Go.Proofs.YtjflfhjnbccpmaaGreatDoor
open Go.RowKit
theorem runL_len : ∀ (ls : List (List UInt8)) (g : Gt), vGate g = true → (runL g ls).1.length ≤ ls.length * 1000001
  | [], _, _ => by simp [runL]
  | s :: ss, g, hg => by
    have h1 := line_size hg s
    have h2 := runL_len ss (lineL g s).2 (line_valid hg s)
    simp only [runL, List.length_append, List.length_cons]
    omega
theorem sesL_len (ls : List (List UInt8)) : (sesL ls).length ≤ 20000020 := by
  have h1 := runL_len (ls.take 20) gate0 gate0_valid
  have h2 : (ls.take 20).length ≤ 20 := by rw [List.length_take]; omega
  unfold sesL
  omega
theorem arr_ext (l : List UInt8) (a b : Nat) : (⟨l.toArray⟩ : ByteArray).extract a b = ⟨((l.take b).drop a).toArray⟩ := by
  apply ByteArray.ext
  apply Array.toList_inj.1
  rw [ByteArray.data_extract, Array.toList_extract, List.extract_eq_take_drop, List.drop_take]
theorem drop_app {a b : List UInt8} {n : Nat} (h : n = a.length) : (a ++ b).drop n = b := by subst h; exact List.drop_left
theorem below_row {a w : World} {row : Option Nat} {B : Nat} (h : a.grownBy w row) (h1 : B ≤ a.heap.size) (h2 : ∀ k, row = some k → B ≤ k) : Below B a w :=
  ⟨h.os, h.tape, h.output, h.size, fun k hk => h.block k (by omega) (fun e => by have := h2 k e.symm; omega)⟩
def qCount : ByteArray := ⟨#[99, 111, 117, 110, 116]⟩
def qTable : ByteArray := ⟨#[116, 97, 98, 108, 101]⟩
def qWait : ByteArray := ⟨#[119, 97, 105, 116, 32, 48]⟩
def qFilter : ByteArray := ⟨#[102, 105, 108, 116, 101, 114, 32, 57]⟩
/-- The outputs with the questions behind the lines. -/
theorem ses_questions (xs : List ByteArray) (h : xs.length ≤ 16) {o : ByteArray} (ho : (⟨(sesL (xs.map (·.data.toList))).toArray⟩ : ByteArray) = o) :
    ∃ a b x y : ByteArray, (⟨(sesL ((xs ++ [qCount]).map (·.data.toList))).toArray⟩ : ByteArray) = a ∧ (⟨(sesL ((xs ++ [qTable, qWait, qFilter, qCount]).map (·.data.toList))).toArray⟩ : ByteArray) = b ∧
      o.size ≤ a.size ∧ o.size ≤ b.size ∧ a.extract o.size a.size = x ∧ b.extract o.size b.size = y ∧ x.size < y.size ∧ y.size ≤ 20000020 ∧ y.extract (y.size - x.size) y.size = x := by
  obtain ⟨x, m, hm, e1, e2⟩ := questions (xs.map (·.data.toList)) (by rw [List.length_map]; omega) (by decide +kernel) (by decide +kernel)
  subst ho
  rw [List.map_append, List.map_append, show ([qCount].map (·.data.toList)) = [countW] by decide, show ([qTable, qWait, qFilter, qCount].map (·.data.toList)) = [tableW, wait0W, filter9W, countW] by decide]
  have hl := sesL_len (xs.map (·.data.toList) ++ [tableW, wait0W, filter9W, countW])
  rw [e2, List.length_append] at hl
  rw [e1, e2]
  generalize sesL (xs.map (·.data.toList)) = s at hl
  refine ⟨_, _, ⟨x.toArray⟩, ⟨(m ++ x).toArray⟩, rfl, rfl, ?_, ?_, ?_, ?_, ?_, ?_, ?_⟩
  · rw [arr_size, arr_size, List.length_append]; omega
  · rw [arr_size, arr_size, List.length_append]; omega
  · rw [arr_size, arr_size, arr_ext, List.take_length, drop_app rfl]
  · rw [arr_size, arr_size, arr_ext, List.take_length, drop_app rfl]
  · rw [arr_size, arr_size, List.length_append]; omega
  · rw [arr_size]; omega
  · rw [arr_size, arr_size, arr_ext, List.take_length, drop_app (by rw [List.length_append]; omega)]
set_option maxRecDepth 20000 in
set_option maxHeartbeats 3200000 in
theorem l_FnSessionQuestions (A : Option Addr) (n c : Nat) (w : World) (h : RB w A n) (hc : n ≤ c) (hE : EnvP w) : Calls Tryz.prog 5 #[.slice A n c] w fun e w' => e = .returned (.bool true) ∧ Below w.heap.size w w' := by
  by_cases hbig : 1048576 < n
  · go_enter Tryz.func5, Tryz.ntmps5
    go_wp2
    go_ret
    exact ⟨rfl, Below.refl _ _⟩
  have HE : Hid (∀ W, Below w.heap.size w W → EnvP W) := fun W b => hE.to b
  clear hE
  go_enter Tryz.func5, Tryz.ntmps5
  go_wp2_with fail
  refine (c_DrawRun _ _ _ _ h hc).mono ?_
  rintro e w1 ⟨A1, q, c1, xs, rfl, hq, hqc, hq16, hR, hsz, hfr, B⟩
  have HQ := Lib.hid hq
  have HSM := Lib.hid hsz
  have HSZ : Hid (∀ x ∈ xs, x.size ≤ 4000000000) := Lib.hid (fun x hx => by have := hsz x hx; omega)
  have HR : Hid (∀ W, Below w1.heap.size w1 W → RS W A1 xs) := fun W b => Rd.to hR b
  have HB := Lib.hid B
  clear hq hsz hR hfr B
  go_wp2_with fail
  refine (c_iRun A1 q c1 xs _ HQ.out hqc (HR.out _ (Below.refl _ _)) (by omega) HSZ.out (HE.out _ HB.out)).mono ?_
  rintro e w2 ⟨rfl, hq2⟩
  obtain ⟨o, ho⟩ : ∃ o, (⟨(sesL (xs.map (·.data.toList))).toArray⟩ : ByteArray) = o := ⟨_, rfl⟩
  rw [ho]
  have HO := Lib.hid ho
  clear ho
  go_wp2_with fail
  refine (c_sRun A1 q c1 xs _ HQ.out (HR.out _ hq2) (by omega) HSZ.out).mono ?_
  rw [HO.out]
  rintro e w3 ⟨rfl, hq3⟩
  have HQ3 := Lib.hid (Bl.then hq2 hq3)
  clear hq2 hq3
  have t20 : ¬ ((20 : Int) < (q : Int) + 4) := by omega
  obtain ⟨a, b, x, y, ha, hb, s1, s2, s3, s4, s5, s6, s7⟩ := ses_questions xs (by rw [HQ.out]; exact hq16) HO.out
  have HA := Lib.hid ha
  have HBQ := Lib.hid hb
  have HOne : Hid (∀ u ∈ xs.map Value.string, u.oneCell' = true) := Lib.hid (fun u hu => by obtain ⟨z, _, rfl⟩ := List.mem_map.1 hu; rfl)
  have z1 : ¬ (a.size < o.size) := by omega
  have z2 : ¬ (b.size < o.size) := by omega
  have z3 : (o.size : Int) ≤ (a.size : Int) := by omega
  have z4 : (o.size : Int) ≤ (b.size : Int) := by omega
  have z5 : (x.size : Int) < (y.size : Int) := by omega
  have z6 : IntKind.i64.wrap ((y.size : Int) - (x.size : Int)) = ((y.size - x.size : Nat) : Int) := by rw [IntWalk.i64_in _ (by omega)]; omega
  have z7 : ((y.size - x.size : Nat) : Int) ≤ (y.size : Int) := by omega
  clear ha hb
  have hoE3 := own_empty (w := w3) (base := w3.heap.size) (t := 9) (Nat.le_refl _) rfl
  have hR3 := Rd.alloc (HR.out w3 HQ3.out) (.cells #[] 9)
  go_wp2_with (at_builtin; go_must (first | (obtain ⟨i0, hi, hz0, hz1, hz2⟩ := info_parts str_info; refine wpList_append_rd _ rfl _ _ 23 rfl w3.heap.size 9 i0 _ 1 16 Tryz.underlying23 hi hz0 hz1 hz2 rfl (by omega) _ 0 [] rfl hoE3 A1 q c1 (xs.map Value.string) rfl hR3 (by rw [List.length_map, HQ.out, Nat.mul_one]) HOne.out (by unfold maxLen; omega) (by omega) (by simp) ?_; intro v5 w5 ho5 hg5 hat5; clear hi hz0 hz1 hz2 hat5 hoE3 hR3; rw [Nat.zero_add, List.nil_append] at ho5; have hB5 : Below w3.heap.size w3 w5 := ((Below.refl _ _).alloc (Nat.le_refl _) _).trans (below_of_grown hg5 (by simp) (Nat.le_refl _)); have hoA5 := World.ownsRow.alloc ho5 (.cells #[.string ⟨#[99, 111, 117, 110, 116]⟩] 9); have hhd5 := rd_lit w5 [(⟨#[99, 111, 117, 110, 116]⟩ : ByteArray)] 9; have hsz5 := hB5.size; clear hg5 ho5) | (obtain ⟨i0, hi, hz0, hz1, hz2⟩ := info_parts str_info; refine wpList_append_rd _ rfl _ _ 23 rfl w3.heap.size 9 i0 _ 1 16 Tryz.underlying23 hi hz0 hz1 hz2 rfl (by omega) _ q (xs.map Value.string) rfl hoA5 (some ⟨w5.heap.size, 0, none⟩) 1 1 [Value.string ⟨#[99, 111, 117, 110, 116]⟩] rfl hhd5 rfl (fun u hu => by simp at hu; subst hu; rfl) (by unfold maxLen; omega) (by omega) (by simp; omega) ?_; intro v6 w6 ho6 hg6 hat6; clear hi hz0 hz1 hz2 hat6 hhd5; have hB6 : Below w3.heap.size w3 w6 := (hB5.alloc hsz5 _).trans (below_row hg6 (by simp; omega) (fun j hj => (World.ownsRow.lt hoA5 j hj).1)); obtain ⟨A6, c6, rfl, hc6, hm6, -⟩ := own_slice ho6; have hr6 : RS w6 A6 (xs ++ [(⟨#[99, 111, 117, 110, 116]⟩ : ByteArray)]) := (by unfold RS; rw [List.map_append]; exact Rd.of_own ho6); have HB6 := Lib.hid hB6; clear ho6 hg6 hoA5 hB5 hsz5 hB6 hm6)))
  refine (c_iRun A6 (q + 1) c6 (xs ++ [(⟨#[99, 111, 117, 110, 116]⟩ : ByteArray)]) w6 (by rw [List.length_append, HQ.out]; rfl) hc6 hr6 (by omega) (fun u hu => by rcases List.mem_append.1 hu with h | h; exact HSZ.out u h; simp at h; subst h; decide) (HE.out _ (Bl.then HB.out (Bl.then HQ3.out HB6.out)))).mono ?_
  have HT : (⟨(sesL ((xs ++ [(⟨#[99, 111, 117, 110, 116]⟩ : ByteArray)]).map (·.data.toList))).toArray⟩ : ByteArray) = a := HA.out
  rw [HT]
  rintro e w7 ⟨rfl, hq7⟩
  have HQ7 := Lib.hid (Bl.then (Bl.then HQ3.out HB6.out) hq7)
  clear HT hr6 hc6
  clear hq7
  have hoE7 := own_empty (w := w7) (base := w7.heap.size) (t := 9) (Nat.le_refl _) rfl
  have hR7 := Rd.alloc (HR.out w7 HQ7.out) (.cells #[] 9)
  go_wp2_with (at_builtin; go_must (first | (obtain ⟨i0, hi, hz0, hz1, hz2⟩ := info_parts str_info; refine wpList_append_rd _ rfl _ _ 23 rfl w7.heap.size 9 i0 _ 1 16 Tryz.underlying23 hi hz0 hz1 hz2 rfl (by omega) _ 0 [] rfl hoE7 A1 q c1 (xs.map Value.string) rfl hR7 (by rw [List.length_map, HQ.out, Nat.mul_one]) HOne.out (by unfold maxLen; omega) (by omega) (by simp) ?_; intro v9 w9 ho9 hg9 hat9; clear hi hz0 hz1 hz2 hat9 hoE7 hR7; rw [Nat.zero_add, List.nil_append] at ho9; have hB9 : Below w7.heap.size w7 w9 := ((Below.refl _ _).alloc (Nat.le_refl _) _).trans (below_of_grown hg9 (by simp) (Nat.le_refl _)); have hoA9 := World.ownsRow.alloc ho9 (.cells #[.string ⟨#[116, 97, 98, 108, 101]⟩, .string ⟨#[119, 97, 105, 116, 32, 48]⟩, .string ⟨#[102, 105, 108, 116, 101, 114, 32, 57]⟩, .string ⟨#[99, 111, 117, 110, 116]⟩] 9); have hhd9 := rd_lit w9 [(⟨#[116, 97, 98, 108, 101]⟩ : ByteArray), (⟨#[119, 97, 105, 116, 32, 48]⟩ : ByteArray), (⟨#[102, 105, 108, 116, 101, 114, 32, 57]⟩ : ByteArray), (⟨#[99, 111, 117, 110, 116]⟩ : ByteArray)] 9; have hsz9 := hB9.size; clear hg9 ho9) | (obtain ⟨i0, hi, hz0, hz1, hz2⟩ := info_parts str_info; refine wpList_append_rd _ rfl _ _ 23 rfl w7.heap.size 9 i0 _ 1 16 Tryz.underlying23 hi hz0 hz1 hz2 rfl (by omega) _ q (xs.map Value.string) rfl hoA9 (some ⟨w9.heap.size, 0, none⟩) 4 4 [Value.string ⟨#[116, 97, 98, 108, 101]⟩, Value.string ⟨#[119, 97, 105, 116, 32, 48]⟩, Value.string ⟨#[102, 105, 108, 116, 101, 114, 32, 57]⟩, Value.string ⟨#[99, 111, 117, 110, 116]⟩] rfl hhd9 rfl (fun u hu => by simp at hu; rcases hu with rfl | rfl | rfl | rfl <;> rfl) (by unfold maxLen; omega) (by omega) (by simp; omega) ?_; intro v10 w10 ho10 hg10 hat10; clear hi hz0 hz1 hz2 hat10 hhd9; have hB10 : Below w7.heap.size w7 w10 := (hB9.alloc hsz9 _).trans (below_row hg10 (by simp; omega) (fun j hj => (World.ownsRow.lt hoA9 j hj).1)); obtain ⟨A10, c10, rfl, hc10, hm10, -⟩ := own_slice ho10; have hr10 : RS w10 A10 (xs ++ [(⟨#[116, 97, 98, 108, 101]⟩ : ByteArray), (⟨#[119, 97, 105, 116, 32, 48]⟩ : ByteArray), (⟨#[102, 105, 108, 116, 101, 114, 32, 57]⟩ : ByteArray), (⟨#[99, 111, 117, 110, 116]⟩ : ByteArray)]) := (by unfold RS; rw [List.map_append]; exact Rd.of_own ho10); have HB10 := Lib.hid hB10; clear ho10 hg10 hoA9 hB9 hsz9 hB10 hm10)))
  refine (c_iRun A10 (q + 4) c10 (xs ++ [(⟨#[116, 97, 98, 108, 101]⟩ : ByteArray), (⟨#[119, 97, 105, 116, 32, 48]⟩ : ByteArray), (⟨#[102, 105, 108, 116, 101, 114, 32, 57]⟩ : ByteArray), (⟨#[99, 111, 117, 110, 116]⟩ : ByteArray)]) w10 (by rw [List.length_append, HQ.out]; rfl) hc10 hr10 (by omega) (fun u hu => by rcases List.mem_append.1 hu with h | h; exact HSZ.out u h; simp at h; rcases h with rfl | rfl | rfl | rfl <;> decide) (HE.out _ (Bl.then HB.out (Bl.then HQ7.out HB10.out)))).mono ?_
  have HT : (⟨(sesL ((xs ++ [(⟨#[116, 97, 98, 108, 101]⟩ : ByteArray), (⟨#[119, 97, 105, 116, 32, 48]⟩ : ByteArray), (⟨#[102, 105, 108, 116, 101, 114, 32, 57]⟩ : ByteArray), (⟨#[99, 111, 117, 110, 116]⟩ : ByteArray)]).map (·.data.toList))).toArray⟩ : ByteArray) = b := HBQ.out
  rw [HT]
  rintro e w11 ⟨rfl, hq11⟩
  have HQ11 := Lib.hid (Bl.then (Bl.then HQ7.out HB10.out) hq11)
  clear HT hr10 hc10
  clear hq11
  go_wp2
  go_ret
  exact ⟨rfl, Bl.then HB.out HQ11.out⟩
end Go.Proofs.YtjflfhjnbccpmaaGreatDoor
