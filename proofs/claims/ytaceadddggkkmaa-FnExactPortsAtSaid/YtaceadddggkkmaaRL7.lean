/- The walk of the law FnExactPortsAt. -/
import Derived.Test.YtaceadddggkkmaaRT3
namespace Go.Proofs.Ytaceadddggkkmaa
open Go.RowKit

set_option maxHeartbeats 1600000 in
theorem l_FnExactPortsAt (A : Option Addr) (n c : Nat) (l : List Rec) (now : Int) (w : World) (hn : l.length = n) (hm : n ≤ maxLen) (h : RR w A l)
    (_ : -9223372036854775808 ≤ now ∧ now ≤ 9223372036854775807) :
    Calls Try.prog 16 #[.slice A n c, .int .i64 now] w fun e w' => e = .returned (.bool true) ∧ Below w.heap.size w w' := by
  have HN := Lib.hid hn
  clear hn
  by_cases hbig : 1048576 - (n : Int) < 0
  · go_enter Try.func16, Try.ntmps16
    go_wp2_with fail
    refine (c_szRecordS _ _ _ _ _ (by omega) (by omega) hm).mono ?_
    rw [if_pos hbig]
    rintro e w' ⟨rfl, rfl⟩
    go_wp2
    go_ret
    exact ⟨rfl, Below.refl _ _⟩
  have t0 : decide (1048576 - (n : Int) < 0) = false := by rw [decide_eq_false_iff_not]; exact hbig
  have hl : n ≤ 1048576 := by omega
  have B := Below.refl w.heap.size w
  have hle := ports_no_len l now
  have HG := Lib.hid (show ∀ w' , Below w.heap.size w w' → RR w' A l from fun w' b => h.to b)
  go_enter Try.func16, Try.ntmps16
  go_wp2_with fail
  refine (c_szRecordS _ _ _ _ _ (by omega) (by omega) hm).mono ?_
  rw [if_neg (by omega)]
  rintro e w' ⟨rfl, rfl⟩
  go_wp2_with fail
  refine (c_toRecordS _ _ _ l _ HN.out (HG.out _ B) (by omega)).mono ?_
  rintro e v1 ⟨Aa, na, da, rfl, ea, Oa, b⟩
  have s1 := b.size
  replace B := Bl.then B b
  clear b
  obtain rfl : n = na := HN.out.symm.trans ea
  clear ea
  go_wp2_with fail
  refine (c_sPortsAt _ _ _ l now _ HN.out Oa.1 (by omega)).mono ?_
  rintro e v2 ⟨Ew, mw, dw, rfl, qw, Ow, b⟩
  replace Oa := Oa.to b
  have s2 := b.size
  replace B := Bl.then B b
  clear b
  clear Oa
  go_wp2_with fail
  refine (c_toRecordS _ _ _ l _ HN.out (HG.out _ B) (by omega)).mono ?_
  rintro e v3 ⟨Ax, nx, dx, rfl, ex, Ox, b⟩
  replace Ow := Ow.to b
  have s3 := b.size
  replace B := Bl.then B b
  clear b
  obtain rfl : n = nx := HN.out.symm.trans ex
  clear ex
  go_wp2_with fail
  refine (c_iPortsAt _ _ _ l now _ HN.out Ox.1 (by omega)).mono ?_
  rintro e v4 ⟨Eg, mg, dg, rfl, qg, Og, b⟩
  replace Ow := Ow.to b
  replace Ox := Ox.to b
  have s4 := b.size
  replace B := Bl.then B b
  clear b
  go_wp2_with fail
  refine (n_eqIntS _ _ _ _ _ _ _ _ _ Og.1 Ow.1 qg qw (by omega)).mono ?_
  rw [eqL_same]
  rintro e v5 ⟨rfl, b⟩
  replace Ow := Ow.to b
  replace Ox := Ox.to b
  replace Og := Og.to b
  have s5 := b.size
  replace B := Bl.then B b
  clear b
  go_wp2_with fail
  refine (c_toRecordS _ _ _ l _ HN.out (HG.out _ B) (by omega)).mono ?_
  rintro e v6 ⟨At, nt, dt, rfl, et, Ot, b⟩
  replace Ow := Ow.to b
  replace Ox := Ox.to b
  replace Og := Og.to b
  have s6 := b.size
  replace B := Bl.then B b
  clear b
  obtain rfl : n = nt := HN.out.symm.trans et
  clear et
  go_wp2_with fail
  refine (c_eqRecordS _ _ _ _ _ l _ HN.out Ox.1 Ot.1 (by omega)).mono ?_
  rintro e v7 ⟨rfl, b⟩
  replace Ow := Ow.to b
  replace Ox := Ox.to b
  replace Og := Og.to b
  replace Ot := Ot.to b
  have s7 := b.size
  replace B := Bl.then B b
  clear b
  clear Ot
  go_wp2_with fail
  refine (m_markRecordS _ _ _ _ _ l _ _ Ox (by omega) (by omega) (by omega)).mono ?_
  rintro e v8 ⟨rfl, -, t⟩
  replace Ow := Ow.turn t (by omega)
  replace Og := Og.turn t (by omega)
  have s8 := t.size
  replace B := t.below B (by omega) B.size
  clear t Ox
  have hk : ¬ ((1 : Int) + 5 * (n : Int) < 0) := by omega
  go_wp2_with fail
  refine (n_eqIntS _ _ _ _ _ _ _ _ _ Og.1 Ow.1 qg qw (by omega)).mono ?_
  rw [eqL_same]
  rintro e v9 ⟨rfl, b⟩
  replace Ow := Ow.to b
  replace Og := Og.to b
  have s9 := b.size
  replace B := Bl.then B b
  clear b
  go_wp2_with fail
  refine (m_markIntS _ _ _ _ _ _ _ _ Og (by omega) (by omega) (by omega)).mono ?_
  rintro e v10 ⟨rfl, Pg, t⟩
  replace Ow := Ow.turn t (by omega)
  have s10 := t.size
  replace B := t.below B (by omega) B.size
  clear t Og
  go_wp2_with fail
  refine (m_heldIntS _ _ _ _ _ _ _ Pg (by omega) (by omega) (by omega)).mono ?_
  rintro e w' ⟨rfl, rfl⟩
  have hq : ¬ ((1 : Int) + (mg : Int) < 0) := by omega
  go_wp2_with fail
  refine (c_toRecordS _ _ _ l _ HN.out (HG.out _ B) (by omega)).mono ?_
  rintro e v11 ⟨Ay, ny, dy, rfl, ey, Oy, b⟩
  replace Ow := Ow.to b
  replace Pg := Pg.to b
  have s11 := b.size
  replace B := Bl.then B b
  clear b
  obtain rfl : n = ny := HN.out.symm.trans ey
  clear ey
  go_wp2_with fail
  refine (c_iPortsAt _ _ _ l now _ HN.out Oy.1 (by omega)).mono ?_
  rintro e v12 ⟨Eh, mh, dh, rfl, qh, Oh, b⟩
  replace Ow := Ow.to b
  replace Pg := Pg.to b
  replace Oy := Oy.to b
  have s12 := b.size
  replace B := Bl.then B b
  clear b
  clear Oy
  go_wp2_with fail
  refine (n_eqIntS _ _ _ _ _ _ _ _ _ Oh.1 Ow.1 qh qw (by omega)).mono ?_
  rw [eqL_same]
  rintro e v13 ⟨rfl, b⟩
  replace Ow := Ow.to b
  replace Pg := Pg.to b
  replace Oh := Oh.to b
  have s13 := b.size
  replace B := Bl.then B b
  clear b
  go_wp2_with fail
  refine (m_heldIntS _ _ _ _ _ _ _ Pg (by omega) (by omega) (by omega)).mono ?_
  rintro e w' ⟨rfl, rfl⟩
  go_wp2
  go_ret
  exact ⟨rfl, B⟩
end Go.Proofs.Ytaceadddggkkmaa
