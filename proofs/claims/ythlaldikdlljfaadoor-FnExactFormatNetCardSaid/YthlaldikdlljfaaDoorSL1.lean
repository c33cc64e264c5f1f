/- The walks of the laws FnExactFormatEnd and FnExactFormatNet. -/
import Derived.Test.YthlaldikdlljfaaDoorSW
import Derived.Test.YthlaldikdlljfaaDoorS2
import Derived.Test.YthlaldikdlljfaaDoorR7
import Derived.Test.YthlaldikdlljfaaDoorB8
namespace Go.Proofs.YthlaldikdlljfaaDoor
open Go.RowKit

theorem l_FnExactFormatEnd (x y : Int) (w : World) (hE : TabE w) : Calls Tryd.prog 3 #[.agg #[.int .i64 x, .int .i64 y]] w fun e w' => e = .returned (.bool true) ∧ Below w.heap.size w w' := by
  have k0 := Blk.new w 23 #[.int .i64 x, .int .i64 y]
  have B : Below w.heap.size w (w.alloc (.cells #[.int .i64 x, .int .i64 y] 23)) := (Below.refl _ _).alloc (Nat.le_refl _) _
  have tt : ∀ s : ByteArray, (s.toList != s.toList) = false := by simp
  go_enter Tryd.func3, Tryd.ntmps3
  go_wp2_with fail
  refine (c_toEnd x y _).mono ?_
  rintro e w1 ⟨rfl, hq⟩
  replace k0 := k0.to hq
  replace B := Bl.then B hq
  clear hq
  go_wp2_with fail
  refine (c_sFormatEnd x y _).mono ?_
  rintro e w2 ⟨rfl, hq⟩
  replace k0 := k0.to hq
  replace B := Bl.then B hq
  clear hq
  have y0 := k0.cell 0
  have y1 := k0.cell 1
  simp only [List.getElem?_toArray, List.getElem?_cons_zero, List.getElem?_cons_succ] at y0 y1
  have hlt := k0.lt
  go_wp2_with fail
  refine (c_toEnd x y _).mono ?_
  rintro e w3 ⟨rfl, hq⟩
  replace B := Bl.then B hq
  clear hq
  go_wp2_with fail
  refine (c_iFormatEnd x y _ (hE.to B)).mono ?_
  rintro e w4 ⟨rfl, hq⟩
  replace B := Bl.then B hq
  clear hq
  go_wp2
  go_ret
  exact ⟨rfl, B⟩

theorem b_toNet (x y : Int) (w : World) : Calls Tryd.prog 20 #[.agg #[.int .i64 x, .int .i64 y]] w fun e w' => e = .returned (.agg #[.int .i64 x, .int .i64 y]) ∧ Below w.heap.size w w' := by
  refine (c_toNet x y w).mono ?_
  rintro e w' ⟨rfl, rfl⟩
  exact ⟨rfl, Bl.al (Bl.al (Bl.al (Below.refl _ _) _) _) _⟩

theorem l_FnExactFormatNet (x y : Int) (w : World) (hE : TabE w) : Calls Tryd.prog 4 #[.agg #[.int .i64 x, .int .i64 y]] w fun e w' => e = .returned (.bool true) ∧ Below w.heap.size w w' := by
  have k0 := Blk.new w 29 #[.int .i64 x, .int .i64 y]
  have B : Below w.heap.size w (w.alloc (.cells #[.int .i64 x, .int .i64 y] 29)) := (Below.refl _ _).alloc (Nat.le_refl _) _
  have tt : ∀ s : ByteArray, (s.toList != s.toList) = false := by simp
  go_enter Tryd.func4, Tryd.ntmps4
  go_wp2_with fail
  refine (b_toNet x y _).mono ?_
  rintro e w1 ⟨rfl, hq⟩
  replace k0 := k0.to hq
  replace B := Bl.then B hq
  clear hq
  go_wp2_with fail
  refine (c_sFormatNet x y _).mono ?_
  rintro e w2 ⟨rfl, hq⟩
  replace k0 := k0.to hq
  replace B := Bl.then B hq
  clear hq
  have y0 := k0.cell 0
  have y1 := k0.cell 1
  simp only [List.getElem?_toArray, List.getElem?_cons_zero, List.getElem?_cons_succ] at y0 y1
  have hlt := k0.lt
  go_wp2_with fail
  refine (b_toNet x y _).mono ?_
  rintro e w3 ⟨rfl, hq⟩
  replace B := Bl.then B hq
  clear hq
  go_wp2_with fail
  refine (c_iFormatNet x y _ (hE.to B)).mono ?_
  rintro e w4 ⟨rfl, hq⟩
  replace B := Bl.then B hq
  clear hq
  go_wp2
  go_ret
  exact ⟨rfl, B⟩
end Go.Proofs.YthlaldikdlljfaaDoor
