/- The law that the program's PoolCounts returns what the reference's returns, as a walk. -/
import Derived.Test.YtcfleoobhgagoaaC4
namespace Go.Proofs.Ytcfleoobhgagoaa
open Go.RowKit
theorem pcsV_bd (zs qs : List Int) : (pcsV zs qs).length ≤ 1048576 := by have := pcsV_len zs qs; omega
set_option maxHeartbeats 1000000 in
theorem l_FnExactPoolCounts (A0 : Option Addr) (c0 : Nat) (zs : List Int) (A1 : Option Addr) (c1 : Nat) (qs : List Int) (w : World) (h0 : RI w A0 zs) (h1 : RI w A1 qs) :
    Calls Try.prog 6 #[.slice A0 zs.length c0, .slice A1 qs.length c1] w fun e w' => e = .returned (.bool true) ∧ Below w.heap.size w w' := by
  by_cases hbig0 : 1048576 < zs.length
  · go_enter Try.func6, Try.ntmps6
    go_wp2
    go_ret
    exact ⟨rfl, Below.refl _ _⟩
  by_cases hbig1 : 1048576 < qs.length
  · go_enter Try.func6, Try.ntmps6
    go_wp2
    go_ret
    exact ⟨rfl, Below.refl _ _⟩
  have hres := pcsV_bd zs qs
  have B := Below.refl w.heap.size w
  go_enter Try.func6, Try.ntmps6
  go_wp2_with fail
  refine (n_toIntS _ _ _ _ (h0.to B) (by omega)).mono ?_
  rintro e w1 ⟨Xa0, _, da0, rfl, rfl, Oa0, b⟩
  have s1 := b.size
  replace B := Bl.then B b
  clear b
  go_wp2_with fail
  refine (n_toIntS _ _ _ _ (h1.to B) (by omega)).mono ?_
  rintro e w2 ⟨Xa1, _, da1, rfl, rfl, Oa1, b⟩
  replace Oa0 := Oa0.to b
  have s2 := b.size
  replace B := Bl.then B b
  clear b
  go_wp2_with fail
  refine (n_sPoolCounts _ _ _ _ _ _ zs qs _ Oa0.ri.1 Oa1.ri.1 rfl rfl (by omega) (by omega)).mono ?_
  rintro e w3 ⟨Xw, _, dw, rfl, rfl, Ow, b⟩
  replace Oa0 := Oa0.to b
  replace Oa1 := Oa1.to b
  have s3 := b.size
  replace B := Bl.then B b
  clear b
  clear Oa0
  clear Oa1
  go_wp2_with fail
  refine (n_toIntS _ _ _ _ (h0.to B) (by omega)).mono ?_
  rintro e w4 ⟨Xx0, _, dx0, rfl, rfl, Ox0, b⟩
  replace Ow := Ow.to b
  have s4 := b.size
  replace B := Bl.then B b
  clear b
  go_wp2_with fail
  refine (n_toIntS _ _ _ _ (h1.to B) (by omega)).mono ?_
  rintro e w5 ⟨Xx1, _, dx1, rfl, rfl, Ox1, b⟩
  replace Ow := Ow.to b
  replace Ox0 := Ox0.to b
  have s5 := b.size
  replace B := Bl.then B b
  clear b
  go_wp2_with fail
  refine (n_iPoolCounts _ _ _ _ _ _ zs qs _ Ox0.ri.1 Ox1.ri.1 rfl rfl (by omega) (by omega)).mono ?_
  rintro e w6 ⟨Xg, _, dg, rfl, rfl, Og, b⟩
  replace Ow := Ow.to b
  replace Ox0 := Ox0.to b
  replace Ox1 := Ox1.to b
  have s6 := b.size
  replace B := Bl.then B b
  clear b
  go_wp2_with fail
  refine (n_eqIntS _ _ _ _ _ _ _ _ _ Og.ri.1 Ow.ri.1 rfl rfl (by omega)).mono ?_
  rintro e w7 ⟨rfl, b⟩
  replace Ow := Ow.to b
  replace Ox0 := Ox0.to b
  replace Ox1 := Ox1.to b
  replace Og := Og.to b
  have s7 := b.size
  replace B := Bl.then B b
  clear b
  rw [eqL_same]
  go_wp2_with fail
  refine (n_toIntS _ _ _ _ (h0.to B) (by omega)).mono ?_
  rintro e w8 ⟨Xt0, _, dt0, rfl, rfl, Ot0, b⟩
  replace Ow := Ow.to b
  replace Ox0 := Ox0.to b
  replace Ox1 := Ox1.to b
  replace Og := Og.to b
  have s8 := b.size
  replace B := Bl.then B b
  clear b
  go_wp2_with fail
  refine (n_eqIntS _ _ _ _ _ _ _ _ _ Ox0.ri.1 Ot0.ri.1 rfl rfl (by omega)).mono ?_
  rintro e w9 ⟨rfl, b⟩
  replace Ow := Ow.to b
  replace Ox0 := Ox0.to b
  replace Ox1 := Ox1.to b
  replace Og := Og.to b
  replace Ot0 := Ot0.to b
  have s9 := b.size
  replace B := Bl.then B b
  clear b
  rw [eqL_same]
  clear Ot0
  go_wp2_with fail
  refine (n_toIntS _ _ _ _ (h1.to B) (by omega)).mono ?_
  rintro e w10 ⟨Xt1, _, dt1, rfl, rfl, Ot1, b⟩
  replace Ow := Ow.to b
  replace Ox0 := Ox0.to b
  replace Ox1 := Ox1.to b
  replace Og := Og.to b
  have s10 := b.size
  replace B := Bl.then B b
  clear b
  go_wp2_with fail
  refine (n_eqIntS _ _ _ _ _ _ _ _ _ Ox1.ri.1 Ot1.ri.1 rfl rfl (by omega)).mono ?_
  rintro e w11 ⟨rfl, b⟩
  replace Ow := Ow.to b
  replace Ox0 := Ox0.to b
  replace Ox1 := Ox1.to b
  replace Og := Og.to b
  replace Ot1 := Ot1.to b
  have s11 := b.size
  replace B := Bl.then B b
  clear b
  rw [eqL_same]
  clear Ot1
  go_wp2_with fail
  refine (n_markIntS _ _ _ _ _ _ _ _ Ox0 (by omega) (by omega) (by omega)).mono ?_
  rintro e w12 ⟨rfl, Px0, t⟩
  replace Ow := Ow.turn t (by omega)
  replace Ox1 := Ox1.turn t (by omega)
  replace Og := Og.turn t (by omega)
  have s12 := t.size
  replace B := t.below B (by omega) B.size
  clear t Ox0
  clear Px0
  go_wp2_with fail
  refine (n_markIntS _ _ _ _ _ _ _ _ Ox1 (by omega) (by omega) (by omega)).mono ?_
  rintro e w13 ⟨rfl, Px1, t⟩
  replace Ow := Ow.turn t (by omega)
  replace Og := Og.turn t (by omega)
  have s13 := t.size
  replace B := t.below B (by omega) B.size
  clear t Ox1
  clear Px1
  have hk : ¬ (1 + (zs.length : Int) + (qs.length : Int) < 0) := by omega
  go_wp2_with fail
  refine (n_eqIntS _ _ _ _ _ _ _ _ _ Og.ri.1 Ow.ri.1 rfl rfl (by omega)).mono ?_
  rintro e w14 ⟨rfl, b⟩
  replace Ow := Ow.to b
  replace Og := Og.to b
  have s14 := b.size
  replace B := Bl.then B b
  clear b
  rw [eqL_same]
  go_wp2_with fail
  refine (n_markIntS _ _ _ _ _ _ _ _ Og (by omega) (by omega) (by omega)).mono ?_
  rintro e w15 ⟨rfl, Pg, t⟩
  replace Ow := Ow.turn t (by omega)
  have s15 := t.size
  replace B := t.below B (by omega) B.size
  clear t Og
  go_wp2_with fail
  refine (n_heldIntS _ _ _ _ _ _ _ Pg (by omega) (by omega) (by omega)).mono ?_
  rintro e w' ⟨rfl, rfl⟩
  have hq : ¬ ((1 : Int) + ((pcsV zs qs).length : Int) < 0) := by omega
  go_wp2_with fail
  refine (n_toIntS _ _ _ _ (h0.to B) (by omega)).mono ?_
  rintro e w16 ⟨Xy0, _, dy0, rfl, rfl, Oy0, b⟩
  replace Ow := Ow.to b
  replace Pg := Pg.to b
  have s16 := b.size
  replace B := Bl.then B b
  clear b
  go_wp2_with fail
  refine (n_toIntS _ _ _ _ (h1.to B) (by omega)).mono ?_
  rintro e w17 ⟨Xy1, _, dy1, rfl, rfl, Oy1, b⟩
  replace Ow := Ow.to b
  replace Pg := Pg.to b
  replace Oy0 := Oy0.to b
  have s17 := b.size
  replace B := Bl.then B b
  clear b
  go_wp2_with fail
  refine (n_iPoolCounts _ _ _ _ _ _ zs qs _ Oy0.ri.1 Oy1.ri.1 rfl rfl (by omega) (by omega)).mono ?_
  rintro e w18 ⟨Xh, _, dh, rfl, rfl, Oh, b⟩
  replace Ow := Ow.to b
  replace Pg := Pg.to b
  replace Oy0 := Oy0.to b
  replace Oy1 := Oy1.to b
  have s18 := b.size
  replace B := Bl.then B b
  clear b
  clear Oy0
  clear Oy1
  go_wp2_with fail
  refine (n_eqIntS _ _ _ _ _ _ _ _ _ Oh.ri.1 Ow.ri.1 rfl rfl (by omega)).mono ?_
  rintro e w19 ⟨rfl, b⟩
  replace Ow := Ow.to b
  replace Pg := Pg.to b
  replace Oh := Oh.to b
  have s19 := b.size
  replace B := Bl.then B b
  clear b
  rw [eqL_same]
  go_wp2_with fail
  refine (n_heldIntS _ _ _ _ _ _ _ Pg (by omega) (by omega) (by omega)).mono ?_
  rintro e w' ⟨rfl, rfl⟩
  go_wp2
  go_ret
  exact ⟨rfl, B⟩
end Go.Proofs.Ytcfleoobhgagoaa
