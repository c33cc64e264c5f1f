/- Contracts: the reference's splitAt and parseAddr, the program's readAddr. -/
import Derived.Test.YthlaldikdlljfaaDoorS7
import Derived.Test.YthlaldikdlljfaaDoorSR
namespace Go.Proofs.YthlaldikdlljfaaDoor
open Go.RowKit

theorem two_parts {l x y : List UInt8} {c : UInt8} (h : spl l c = [x, y]) : cutc l c = some (x, y) ∧ c ∉ y := by
  obtain ⟨x', y', h1, h2⟩ := spl_two (l := l) (c := c) (by rw [h]; simp)
  rw [h] at h2
  injection h2 with h3 h4
  subst h3
  by_cases hc : c ∈ y'
  · have : ∃ a b, cutc y' c = some (a, b) := by
      cases hh : cutc y' c with
      | none => exact absurd hc (cutc_none_iff.1 hh)
      | some p => exact ⟨p.1, p.2, rfl⟩
    obtain ⟨a, b, hab⟩ := this
    obtain ⟨e1, e2⟩ := cutc_eq hab
    rw [e1, spl_app e2] at h4
    have := congrArg List.length h4
    have h5 := spl_pos b c
    simp only [List.length_cons, List.length_nil] at this
    omega
  · rw [spl_none hc] at h4
    injection h4 with h5 _
    subst h5
    exact ⟨h1, hc⟩
theorem not_two {l : List UInt8} {c : UInt8} (h : (spl l c).length ≠ 2) : cutc l c = none ∨ ∃ x y, cutc l c = some (x, y) ∧ c ∈ y := by
  cases hh : cutc l c with
  | none => exact .inl rfl
  | some p =>
    obtain ⟨x, y⟩ := p
    refine .inr ⟨x, y, rfl, Classical.byContradiction fun hc => h ?_⟩
    obtain ⟨e1, e2⟩ := cutc_eq hh
    rw [e1, spl_app e2, spl_none hc]; rfl
theorem addrV_not {l : List UInt8} (h : (spl l 46).length ≠ 2) : addrV l = -1 := by
  unfold addrV
  rcases not_two h with h1 | ⟨x, y, h1, h2⟩
  · rw [h1]
  · rw [h1]
    simp only
    rw [numV_no h2 (by decide), if_neg (by simp [inB])]
theorem parE_not {l : List UInt8} (h : (spl l 58).length ≠ 2) : parE l = none := by
  unfold parE
  rcases not_two h with h1 | ⟨x, y, h1, h2⟩
  · rw [h1]
  · rw [h1]
    simp only
    rw [numV_no h2 (by decide), if_neg (by simp [inB])]
theorem parN_not {l : List UInt8} (h : (spl l 47).length ≠ 2) : parN l = none := by
  unfold parN
  rcases not_two h with h1 | ⟨x, y, h1, h2⟩
  · rw [h1]
  · rw [h1]
    simp only
    rw [numV_no h2 (by decide), if_neg (by simp [vNet, inB])]
theorem ext_list (s : ByteArray) (a b : Nat) : (s.extract a b).data.toList = (s.data.toList.take b).drop a := by
  rw [ByteArray.data_extract, Array.toList_extract, List.extract_eq_take_drop, List.drop_take]

set_option maxHeartbeats 1600000 in
theorem c_splitAt (s : ByteArray) (c : UInt8) (w : World) (hs : s.size ≤ 4000000000) :
    Calls Tryd.prog 65 #[.string s, .int .u8 (c.toNat : Int)] w fun e w' => ∃ (v : Value) (xs : List ByteArray), e = .returned v ∧ SO w' w.heap.size v xs ∧ xs.map (·.data.toList) = spl s.data.toList c ∧ Below w.heap.size w w' := by
  have ho : SO (w.alloc (.cells #[] 9)) w.heap.size (.slice (some ⟨w.heap.size, 0, none⟩) 0 0) [] := World.ownsRow_made w #[] 0 (Nat.le_refl _) (by unfold maxLen; omega) (by simp)
  have B : Below w.heap.size w (w.alloc (.cells #[] 9)) := (Below.refl _ _).alloc (Nat.le_refl _) _
  go_enter Tryd.func65, Tryd.ntmps65
  go_wp2
  go_loopw [5, 6, 7] (fun v f i wr => ∃ (k fr : Nat) (v' : Value) (xs : List ByteArray), k ≤ s.size ∧ fr ≤ k ∧ i = .int .i64 k ∧ f = .int .i64 fr ∧ v' = v ∧ xs.length ≤ k ∧
    Hid (xs.map (·.data.toList) ++ spl (s.data.toList.drop fr) c = spl s.data.toList c) ∧ Hid (c ∉ (s.data.toList.take k).drop fr) ∧ Hid (SO wr w.heap.size v' xs) ∧ Hid (Below w.heap.size w wr)) (fun _ _ i _ => s.size - (intOf i).toNat)
  case atStart => exact ⟨0, 0, _, [], Nat.zero_le _, Nat.le_refl _, rfl, rfl, rfl, Nat.le_refl _, rfl, by simp [Hid], ho, B⟩
  case round =>
    clear ho B
    obtain ⟨k, fr, v', xs, hk, hfr, rfl, rfl, rfl, hxl, HX, HC, HO, HB⟩ := hrel
    by_cases hlt : k < s.size
    · obtain ⟨b, hb1, hb2, -⟩ := byt_mem hlt
      have hix := run_byt s k hlt
      rw [hb2] at hix
      have i2 : (0 : Int) ≤ k ∧ (k : Int) < s.size := by omega
      have htk : (s.data.toList.take (k + 1)).drop fr = (s.data.toList.take k).drop fr ++ [b] := by
        rw [List.take_add_one, hb1, List.drop_append_of_le_length (by rw [List.length_take, ← size_list]; omega)]; rfl
      by_cases hbc : b = c
      · subst hbc
        have hdr : s.data.toList.drop fr = (s.data.toList.take k).drop fr ++ b :: s.data.toList.drop (k + 1) := by
          have h1 : s.data.toList = s.data.toList.take k ++ b :: s.data.toList.drop (k + 1) := by
            rw [List.getElem?_eq_some_iff] at hb1
            obtain ⟨hh, he⟩ := hb1
            rw [← he, ← List.drop_eq_getElem_cons, List.take_append_drop]
          conv => lhs; rw [h1]
          rw [List.drop_append_of_le_length (by rw [List.length_take, ← size_list]; omega)]
        have hx2 := HX.out
        rw [hdr, spl_app HC.out] at hx2
        have hxl2 : (s.extract fr k).data.toList = (s.data.toList.take k).drop fr := ext_list s fr k
        have HX2 : Hid ((xs ++ [s.extract fr k]).map (·.data.toList) ++ spl (s.data.toList.drop (k + 1)) b = spl s.data.toList b) := by
          rw [Hid, List.map_append, List.map_singleton, hxl2, List.append_assoc]; exact hx2
        have HC2 : Hid (b ∉ (s.data.toList.take (k + 1)).drop (k + 1)) := by
          rw [Hid, List.drop_eq_nil_of_le (by rw [List.length_take]; omega)]; simp
        clear hx2 hxl2 hdr htk hb1 hb2
        generalize hX : s.extract fr k = X at HX2
        have hL : Rd (wr.alloc (.cells #[.string X] 9)) (some ⟨wr.heap.size, 0, none⟩) [.string X] := lit_str wr X _
        have hoR : (wr.alloc (.cells #[.string X] 9)).ownsRow w.heap.size 9 1 v' xs.length (xs.map Value.string) := World.ownsRow.alloc HO.out _
        have hsb := HB.out.size
        have i3 : (0 : Int) ≤ fr ∧ (fr : Int) ≤ k ∧ (k : Int) ≤ s.size := by omega
        go_wp2_with (at_builtin; go_must (obtain ⟨i0, hi, hz0, hz1, hz2⟩ := info_parts str_info; refine wpList_append_rd _ rfl _ _ 72 rfl w.heap.size 9 i0 _ 1 16 Tryd.underlying72 hi hz0 hz1 hz2 rfl (by omega) _ xs.length (xs.map Value.string) rfl hoR (some ⟨wr.heap.size, 0, none⟩) 1 1 [.string X] rfl hL rfl (by intro u hu; obtain rfl := List.mem_singleton.1 hu; rfl) (by unfold maxLen; omega) (by omega) (by simp; omega) ?_; intro v1 w5 ho5 hg5 hat5; clear hi hz0 hz1 hz2 hat5))
        have B5 := (HB.out.alloc HB.out.size (.cells #[.string X] 9)).grown hg5 (by have := HB.out.size; simp; omega) (fun j hj => (World.ownsRow.lt hoR j hj).1)
        go_roundw
        case rel =>
          refine ⟨k + 1, k + 1, v1, xs ++ [X], by omega, Nat.le_refl _, by go_num, by go_num, rfl, by simp; omega, HX2.out, HC2.out, ?_, B5⟩
          show SO _ _ _ _
          unfold SO
          rw [List.length_append, List.map_append]
          exact ho5
        case measure => simp [intOf]; omega
      · have t1 : ((b.toNat : Int) == (c.toNat : Int)) = false := by
          rw [beq_eq_false_iff_ne]; exact fun e => hbc (UInt8.toNat_inj.1 (by omega))
        have t2 : (b.toNat == c.toNat) = false := by
          rw [beq_eq_false_iff_ne]; exact fun e => hbc (UInt8.toNat_inj.1 e)
        have HC2 : Hid (c ∉ (s.data.toList.take (k + 1)).drop fr) := by
          rw [Hid, htk, List.mem_append, not_or]
          have hcb : ¬ c = b := fun e => hbc e.symm
          exact ⟨HC.out, by simp [hcb]⟩
        have HXX := HX
        clear htk hb1 hb2 hbc
        go_wp2
        go_roundw
        case rel => exact ⟨k + 1, fr, v', xs, by omega, by omega, by go_num, rfl, rfl, by omega, HXX.out, HC2.out, HO.out, HB.out⟩
        case measure => simp [intOf]; omega
    · obtain rfl : k = s.size := by omega
      have hx2 := HX.out
      have hc2 := HC.out
      rw [show s.data.toList.take s.size = s.data.toList by rw [size_list]; exact List.take_length] at hc2
      rw [spl_none hc2] at hx2
      have hxl2 : (s.extract fr s.size).data.toList = s.data.toList.drop fr := by rw [ext_list, size_list, List.take_length]
      have HX2 : Hid ((xs ++ [s.extract fr s.size]).map (·.data.toList) = spl s.data.toList c) := by rw [Hid, List.map_append, List.map_singleton, hxl2]; exact hx2
      clear hx2 hc2 hxl2
      generalize hX : s.extract fr s.size = X at HX2
      have hL : Rd (wr.alloc (.cells #[.string X] 9)) (some ⟨wr.heap.size, 0, none⟩) [.string X] := lit_str wr X _
      have hoR : (wr.alloc (.cells #[.string X] 9)).ownsRow w.heap.size 9 1 v' xs.length (xs.map Value.string) := World.ownsRow.alloc HO.out _
      have hsb := HB.out.size
      have i3 : (0 : Int) ≤ fr ∧ (fr : Int) ≤ s.size := by omega
      go_wp2_with (at_builtin; go_must (obtain ⟨i0, hi, hz0, hz1, hz2⟩ := info_parts str_info; refine wpList_append_rd _ rfl _ _ 72 rfl w.heap.size 9 i0 _ 1 16 Tryd.underlying72 hi hz0 hz1 hz2 rfl (by omega) _ xs.length (xs.map Value.string) rfl hoR (some ⟨wr.heap.size, 0, none⟩) 1 1 [.string X] rfl hL rfl (by intro u hu; obtain rfl := List.mem_singleton.1 hu; rfl) (by unfold maxLen; omega) (by omega) (by simp; omega) ?_; intro v1 w5 ho5 hg5 hat5; clear hi hz0 hz1 hz2 hat5))
      have B5 := (HB.out.alloc HB.out.size (.cells #[.string X] 9)).grown hg5 (by have := HB.out.size; simp; omega) (fun j hj => (World.ownsRow.lt hoR j hj).1)
      go_ret
      refine ⟨v1, xs ++ [X], rfl, ?_, HX2.out, B5⟩
      unfold SO
      rw [List.length_append, List.map_append]
      exact ho5
end Go.Proofs.YthlaldikdlljfaaDoor
