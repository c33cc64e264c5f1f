/- The law FnExactMovedBy as a walk. -/
import Derived.Test.YtcfleoobhgagoaaC9
namespace Go.Proofs.Ytcfleoobhgagoaa
open Go.RowKit
set_option maxHeartbeats 1000000 in
theorem l_FnExactMovedBy (A0 : Option Addr) (c0 : Nat) (zs : List Int) (A1 : Option Addr) (c1 : Nat) (ys : List Int) (A2 : Option Addr) (c2 : Nat) (qs : List Int) (w : World) (h0 : RI w A0 zs) (h1 : RI w A1 ys) (h2 : RI w A2 qs) :
    Calls Try.prog 13 #[.slice A0 zs.length c0, .slice A1 ys.length c1, .slice A2 qs.length c2] w fun e w' => e = .returned (.bool true) ∧ Below w.heap.size w w' := by
  by_cases hbig0 : 1048576 < zs.length
  · go_enter Try.func13, Try.ntmps13
    go_wp2
    go_ret
    exact ⟨rfl, Below.refl _ _⟩
  by_cases hbig1 : 1048576 < ys.length
  · go_enter Try.func13, Try.ntmps13
    go_wp2
    go_ret
    exact ⟨rfl, Below.refl _ _⟩
  by_cases hbig2 : 1048576 < qs.length
  · go_enter Try.func13, Try.ntmps13
    go_wp2
    go_ret
    exact ⟨rfl, Below.refl _ _⟩
  have hres := mvV_bd zs ys qs
  have B := Below.refl w.heap.size w
  go_enter Try.func13, Try.ntmps13
  go_wp2_with fail
  refine (m_toIntS _ _ _ _ (h0.to B) (by omega)).mono ?_
  rintro e w1 ⟨Xa0, _, da0, rfl, rfl, Oa0, b⟩
  have s1 := b.size
  replace B := Bl.then B b
  clear b
  go_wp2_with fail
  refine (m_toIntS _ _ _ _ (h1.to B) (by omega)).mono ?_
  rintro e w2 ⟨Xa1, _, da1, rfl, rfl, Oa1, b⟩
  replace Oa0 := Oa0.to b
  have s2 := b.size
  replace B := Bl.then B b
  clear b
  go_wp2_with fail
  refine (m_toIntS _ _ _ _ (h2.to B) (by omega)).mono ?_
  rintro e w3 ⟨Xa2, _, da2, rfl, rfl, Oa2, b⟩
  replace Oa0 := Oa0.to b
  replace Oa1 := Oa1.to b
  have s3 := b.size
  replace B := Bl.then B b
  clear b
  go_wp2_with fail
  refine (n_sMovedBy _ _ _ _ _ _ _ _ _ zs ys qs _ Oa0.ri.1 Oa1.ri.1 Oa2.ri.1 rfl rfl rfl (by omega) (by omega) (by omega)).mono ?_
  rintro e w4 ⟨Xw, _, dw, rfl, rfl, Ow, b⟩
  replace Oa0 := Oa0.to b
  replace Oa1 := Oa1.to b
  replace Oa2 := Oa2.to b
  have s4 := b.size
  replace B := Bl.then B b
  clear b
  clear Oa0
  clear Oa1
  clear Oa2
  go_wp2_with fail
  refine (m_toIntS _ _ _ _ (h0.to B) (by omega)).mono ?_
  rintro e w5 ⟨Xx0, _, dx0, rfl, rfl, Ox0, b⟩
  replace Ow := Ow.to b
  have s5 := b.size
  replace B := Bl.then B b
  clear b
  go_wp2_with fail
  refine (m_toIntS _ _ _ _ (h1.to B) (by omega)).mono ?_
  rintro e w6 ⟨Xx1, _, dx1, rfl, rfl, Ox1, b⟩
  replace Ow := Ow.to b
  replace Ox0 := Ox0.to b
  have s6 := b.size
  replace B := Bl.then B b
  clear b
  go_wp2_with fail
  refine (m_toIntS _ _ _ _ (h2.to B) (by omega)).mono ?_
  rintro e w7 ⟨Xx2, _, dx2, rfl, rfl, Ox2, b⟩
  replace Ow := Ow.to b
  replace Ox0 := Ox0.to b
  replace Ox1 := Ox1.to b
  have s7 := b.size
  replace B := Bl.then B b
  clear b
  go_wp2_with fail
  refine (n_iMovedBy _ _ _ _ _ _ _ _ _ zs ys qs _ Ox0.ri.1 Ox1.ri.1 Ox2.ri.1 rfl rfl rfl (by omega) (by omega) (by omega)).mono ?_
  rintro e w8 ⟨Xg, _, dg, rfl, rfl, Og, b⟩
  replace Ow := Ow.to b
  replace Ox0 := Ox0.to b
  replace Ox1 := Ox1.to b
  replace Ox2 := Ox2.to b
  have s8 := b.size
  replace B := Bl.then B b
  clear b
  go_wp2_with fail
  refine (n_eqIntS _ _ _ _ _ _ _ _ _ Og.ri.1 Ow.ri.1 rfl rfl (by omega)).mono ?_
  rintro e w9 ⟨rfl, b⟩
  replace Ow := Ow.to b
  replace Ox0 := Ox0.to b
  replace Ox1 := Ox1.to b
  replace Ox2 := Ox2.to b
  replace Og := Og.to b
  have s9 := b.size
  replace B := Bl.then B b
  clear b
  rw [eqL_same]
  go_wp2_with fail
  refine (m_toIntS _ _ _ _ (h0.to B) (by omega)).mono ?_
  rintro e w10 ⟨Xt0, _, dt0, rfl, rfl, Ot0, b⟩
  replace Ow := Ow.to b
  replace Ox0 := Ox0.to b
  replace Ox1 := Ox1.to b
  replace Ox2 := Ox2.to b
  replace Og := Og.to b
  have s10 := b.size
  replace B := Bl.then B b
  clear b
  go_wp2_with fail
  refine (n_eqIntS _ _ _ _ _ _ _ _ _ Ox0.ri.1 Ot0.ri.1 rfl rfl (by omega)).mono ?_
  rintro e w11 ⟨rfl, b⟩
  replace Ow := Ow.to b
  replace Ox0 := Ox0.to b
  replace Ox1 := Ox1.to b
  replace Ox2 := Ox2.to b
  replace Og := Og.to b
  replace Ot0 := Ot0.to b
  have s11 := b.size
  replace B := Bl.then B b
  clear b
  rw [eqL_same]
  clear Ot0
  go_wp2_with fail
  refine (m_toIntS _ _ _ _ (h1.to B) (by omega)).mono ?_
  rintro e w12 ⟨Xt1, _, dt1, rfl, rfl, Ot1, b⟩
  replace Ow := Ow.to b
  replace Ox0 := Ox0.to b
  replace Ox1 := Ox1.to b
  replace Ox2 := Ox2.to b
  replace Og := Og.to b
  have s12 := b.size
  replace B := Bl.then B b
  clear b
  go_wp2_with fail
  refine (n_eqIntS _ _ _ _ _ _ _ _ _ Ox1.ri.1 Ot1.ri.1 rfl rfl (by omega)).mono ?_
  rintro e w13 ⟨rfl, b⟩
  replace Ow := Ow.to b
  replace Ox0 := Ox0.to b
  replace Ox1 := Ox1.to b
  replace Ox2 := Ox2.to b
  replace Og := Og.to b
  replace Ot1 := Ot1.to b
  have s13 := b.size
  replace B := Bl.then B b
  clear b
  rw [eqL_same]
  clear Ot1
  go_wp2_with fail
  refine (m_toIntS _ _ _ _ (h2.to B) (by omega)).mono ?_
  rintro e w14 ⟨Xt2, _, dt2, rfl, rfl, Ot2, b⟩
  replace Ow := Ow.to b
  replace Ox0 := Ox0.to b
  replace Ox1 := Ox1.to b
  replace Ox2 := Ox2.to b
  replace Og := Og.to b
  have s14 := b.size
  replace B := Bl.then B b
  clear b
  go_wp2_with fail
  refine (n_eqIntS _ _ _ _ _ _ _ _ _ Ox2.ri.1 Ot2.ri.1 rfl rfl (by omega)).mono ?_
  rintro e w15 ⟨rfl, b⟩
  replace Ow := Ow.to b
  replace Ox0 := Ox0.to b
  replace Ox1 := Ox1.to b
  replace Ox2 := Ox2.to b
  replace Og := Og.to b
  replace Ot2 := Ot2.to b
  have s15 := b.size
  replace B := Bl.then B b
  clear b
  rw [eqL_same]
  clear Ot2
  go_wp2_with fail
  refine (m_markIntS _ _ _ _ _ _ _ _ Ox0 (by omega) (by omega) (by omega)).mono ?_
  rintro e w16 ⟨rfl, Px0, t⟩
  replace Ow := Ow.turn t (by omega)
  replace Ox1 := Ox1.turn t (by omega)
  replace Ox2 := Ox2.turn t (by omega)
  replace Og := Og.turn t (by omega)
  have s16 := t.size
  replace B := t.below B (by omega) B.size
  clear t Ox0
  clear Px0
  go_wp2_with fail
  refine (m_markIntS _ _ _ _ _ _ _ _ Ox1 (by omega) (by omega) (by omega)).mono ?_
  rintro e w17 ⟨rfl, Px1, t⟩
  replace Ow := Ow.turn t (by omega)
  replace Ox2 := Ox2.turn t (by omega)
  replace Og := Og.turn t (by omega)
  have s17 := t.size
  replace B := t.below B (by omega) B.size
  clear t Ox1
  clear Px1
  go_wp2_with fail
  refine (m_markIntS _ _ _ _ _ _ _ _ Ox2 (by omega) (by omega) (by omega)).mono ?_
  rintro e w18 ⟨rfl, Px2, t⟩
  replace Ow := Ow.turn t (by omega)
  replace Og := Og.turn t (by omega)
  have s18 := t.size
  replace B := t.below B (by omega) B.size
  clear t Ox2
  clear Px2
  have hk : ¬ (1 + (zs.length : Int) + (ys.length : Int) + (qs.length : Int) < 0) := by omega
  go_wp2_with fail
  refine (n_eqIntS _ _ _ _ _ _ _ _ _ Og.ri.1 Ow.ri.1 rfl rfl (by omega)).mono ?_
  rintro e w19 ⟨rfl, b⟩
  replace Ow := Ow.to b
  replace Og := Og.to b
  have s19 := b.size
  replace B := Bl.then B b
  clear b
  rw [eqL_same]
  go_wp2_with fail
  refine (m_markIntS _ _ _ _ _ _ _ _ Og (by omega) (by omega) (by omega)).mono ?_
  rintro e w20 ⟨rfl, Pg, t⟩
  replace Ow := Ow.turn t (by omega)
  have s20 := t.size
  replace B := t.below B (by omega) B.size
  clear t Og
  go_wp2_with fail
  refine (m_heldIntS _ _ _ _ _ _ _ Pg (by omega) (by omega) (by omega)).mono ?_
  rintro e w' ⟨rfl, rfl⟩
  have hq : ¬ ((1 : Int) + ((mvV zs ys qs).length : Int) < 0) := by omega
  go_wp2_with fail
  refine (m_toIntS _ _ _ _ (h0.to B) (by omega)).mono ?_
  rintro e w21 ⟨Xy0, _, dy0, rfl, rfl, Oy0, b⟩
  replace Ow := Ow.to b
  replace Pg := Pg.to b
  have s21 := b.size
  replace B := Bl.then B b
  clear b
  go_wp2_with fail
  refine (m_toIntS _ _ _ _ (h1.to B) (by omega)).mono ?_
  rintro e w22 ⟨Xy1, _, dy1, rfl, rfl, Oy1, b⟩
  replace Ow := Ow.to b
  replace Pg := Pg.to b
  replace Oy0 := Oy0.to b
  have s22 := b.size
  replace B := Bl.then B b
  clear b
  go_wp2_with fail
  refine (m_toIntS _ _ _ _ (h2.to B) (by omega)).mono ?_
  rintro e w23 ⟨Xy2, _, dy2, rfl, rfl, Oy2, b⟩
  replace Ow := Ow.to b
  replace Pg := Pg.to b
  replace Oy0 := Oy0.to b
  replace Oy1 := Oy1.to b
  have s23 := b.size
  replace B := Bl.then B b
  clear b
  go_wp2_with fail
  refine (n_iMovedBy _ _ _ _ _ _ _ _ _ zs ys qs _ Oy0.ri.1 Oy1.ri.1 Oy2.ri.1 rfl rfl rfl (by omega) (by omega) (by omega)).mono ?_
  rintro e w24 ⟨Xh, _, dh, rfl, rfl, Oh, b⟩
  replace Ow := Ow.to b
  replace Pg := Pg.to b
  replace Oy0 := Oy0.to b
  replace Oy1 := Oy1.to b
  replace Oy2 := Oy2.to b
  have s24 := b.size
  replace B := Bl.then B b
  clear b
  clear Oy0
  clear Oy1
  clear Oy2
  go_wp2_with fail
  refine (n_eqIntS _ _ _ _ _ _ _ _ _ Oh.ri.1 Ow.ri.1 rfl rfl (by omega)).mono ?_
  rintro e w25 ⟨rfl, b⟩
  replace Ow := Ow.to b
  replace Pg := Pg.to b
  replace Oh := Oh.to b
  have s25 := b.size
  replace B := Bl.then B b
  clear b
  rw [eqL_same]
  go_wp2_with fail
  refine (m_heldIntS _ _ _ _ _ _ _ Pg (by omega) (by omega) (by omega)).mono ?_
  rintro e w' ⟨rfl, rfl⟩
  go_wp2
  go_ret
  exact ⟨rfl, B⟩
end Go.Proofs.Ytcfleoobhgagoaa
