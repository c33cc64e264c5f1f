/- The walk of the law FnExactRecordsBetween. -/
import Derived.Test.YtaceadddggkkmaaT8
namespace Go.Proofs.Ytaceadddggkkmaa
open Go.RowKit

theorem between_len (a b : List Mpg) (now : Int) : (between a b now).length ≤ 16 := by
  cases h1 : vTab a
  · rw [between_bad1 h1]; simp
  cases h2 : vTab b
  · rw [between_bad2 h2]; simp
  cases h3 : inB now 0 10000
  · rw [between_bad3 h3]; simp
  rw [between_mis h1 h2 h3, List.length_append]
  have := mis_len a b now true a.length
  have := mis_len b a now false b.length
  have := (vTab_iff.1 h1).2
  have := (vTab_iff.1 h2).2
  omega
set_option maxHeartbeats 3200000 in
theorem l_FnExactRecordsBetween (A : Option Addr) (n c : Nat) (a : List Mpg) (B : Option Addr) (m d : Nat) (b : List Mpg) (now : Int) (w : World) (hn : a.length = n) (hm : n ≤ maxLen) (h : TM w A a) (hn2 : b.length = m) (hm2 : m ≤ maxLen) (h' : TM w B b) :
    Calls Try.prog 12 #[.slice A n c, .slice B m d, .int .i64 now] w fun e w' => e = .returned (.bool true) ∧ Below w.heap.size w w' := by
  have HNa := Lib.hid hn
  have HNb := Lib.hid hn2
  clear hn hn2
  by_cases hbig : 1048576 - (n : Int) < 0
  · go_enter Try.func12, Try.ntmps12
    go_wp2_with fail
    refine (c_szMappingS _ _ _ _ _ (by omega) (by omega) hm).mono ?_
    rw [if_pos hbig]
    rintro e w' ⟨rfl, rfl⟩
    go_wp2
    go_ret
    exact ⟨rfl, Below.refl _ _⟩
  have t0 : decide (1048576 - (n : Int) < 0) = false := by rw [decide_eq_false_iff_not]; exact hbig
  by_cases hbig2 : 1048576 - (n : Int) - m < 0
  · go_enter Try.func12, Try.ntmps12
    go_wp2_with fail
    refine (c_szMappingS _ _ _ _ _ (by omega) (by omega) hm).mono ?_
    rw [if_neg (by omega)]
    rintro e w' ⟨rfl, rfl⟩
    go_wp2_with fail
    refine (c_szMappingS _ _ _ _ _ (by omega) (by omega) hm2).mono ?_
    rw [if_pos hbig2]
    rintro e w' ⟨rfl, rfl⟩
    go_wp2
    go_ret
    exact ⟨rfl, Below.refl _ _⟩
  have t1 : decide (1048576 - (n : Int) - m < 0) = false := by rw [decide_eq_false_iff_not]; exact hbig2
  have BB := Below.refl w.heap.size w
  have hle := between_len a b now
  have HGa := Lib.hid (show ∀ w' , Below w.heap.size w w' → TM w' A a from fun w' b => h.to b)
  have HGb := Lib.hid (show ∀ w' , Below w.heap.size w w' → TM w' B b from fun w' b => h'.to b)
  go_enter Try.func12, Try.ntmps12
  go_wp2_with fail
  refine (c_szMappingS _ _ _ _ _ (by omega) (by omega) hm).mono ?_
  rw [if_neg (by omega)]
  rintro e w' ⟨rfl, rfl⟩
  go_wp2_with fail
  refine (c_szMappingS _ _ _ _ _ (by omega) (by omega) hm2).mono ?_
  rw [if_neg (by omega)]
  rintro e w' ⟨rfl, rfl⟩
  go_wp2_with fail
  refine (c_toMappingS _ _ _ a _ HNa.out (HGa.out _ BB) (by omega)).mono ?_
  rintro e v1 ⟨Aa1, na1, da1, rfl, ea1, Oa1, hq⟩
  have s1 := hq.size
  replace BB := Bl.then BB hq
  clear hq
  obtain rfl : n = na1 := HNa.out.symm.trans ea1
  clear ea1
  go_wp2_with fail
  refine (c_toMappingS _ _ _ b _ HNb.out (HGb.out _ BB) (by omega)).mono ?_
  rintro e v2 ⟨Ab1, nb1, db1, rfl, eb1, Ob1, hq⟩
  replace Oa1 := Oa1.to hq
  have s2 := hq.size
  replace BB := Bl.then BB hq
  clear hq
  obtain rfl : m = nb1 := HNb.out.symm.trans eb1
  clear eb1
  go_wp2_with fail
  refine (c_sBetween _ _ _ _ _ _ a b now _ HNa.out HNb.out Oa1.1 Ob1.1 (by omega) (by omega)).mono ?_
  rintro e v3 ⟨Ew, mw, dw, rfl, qw, Ow, hq⟩
  replace Oa1 := Oa1.to hq
  replace Ob1 := Ob1.to hq
  have s3 := hq.size
  replace BB := Bl.then BB hq
  clear hq
  clear Oa1
  clear Ob1
  go_wp2_with fail
  refine (c_toMappingS _ _ _ a _ HNa.out (HGa.out _ BB) (by omega)).mono ?_
  rintro e v4 ⟨Ax, nx, dx, rfl, ex, Ox, hq⟩
  replace Ow := Ow.to hq
  have s4 := hq.size
  replace BB := Bl.then BB hq
  clear hq
  obtain rfl : n = nx := HNa.out.symm.trans ex
  clear ex
  go_wp2_with fail
  refine (c_toMappingS _ _ _ b _ HNb.out (HGb.out _ BB) (by omega)).mono ?_
  rintro e v5 ⟨Ay, ny, dy, rfl, ey, Oy, hq⟩
  replace Ow := Ow.to hq
  replace Ox := Ox.to hq
  have s5 := hq.size
  replace BB := Bl.then BB hq
  clear hq
  obtain rfl : m = ny := HNb.out.symm.trans ey
  clear ey
  go_wp2_with fail
  refine (c_iBetween _ _ _ _ _ _ a b now _ HNa.out HNb.out Ox.2.2.1 Oy.2.2.1 Ox.1 Oy.1 (by omega) (by omega)).mono ?_
  rintro e v6 ⟨Eg, mg, dg, rfl, qg, Og, hq⟩
  replace Ow := Ow.to hq
  replace Ox := Ox.to hq
  replace Oy := Oy.to hq
  have s6 := hq.size
  replace BB := Bl.then BB hq
  clear hq
  obtain rfl : mw = mg := qw.symm.trans qg
  go_wp2_with fail
  refine (c_eqRecordS _ _ _ _ _ _ _ qg Og.1 Ow.1 (by omega)).mono ?_
  rintro e v7 ⟨rfl, hq⟩
  replace Ow := Ow.to hq
  replace Ox := Ox.to hq
  replace Oy := Oy.to hq
  replace Og := Og.to hq
  have s7 := hq.size
  replace BB := Bl.then BB hq
  clear hq
  go_wp2_with fail
  refine (c_toMappingS _ _ _ a _ HNa.out (HGa.out _ BB) (by omega)).mono ?_
  rintro e v8 ⟨At, nt, dt, rfl, et, Ot, hq⟩
  replace Ow := Ow.to hq
  replace Ox := Ox.to hq
  replace Oy := Oy.to hq
  replace Og := Og.to hq
  have s8 := hq.size
  replace BB := Bl.then BB hq
  clear hq
  obtain rfl : n = nt := HNa.out.symm.trans et
  clear et
  go_wp2_with fail
  refine (c_eqMappingS _ _ _ _ _ a _ HNa.out Ox.1 Ot.1 (by omega)).mono ?_
  rintro e v9 ⟨rfl, hq⟩
  replace Ow := Ow.to hq
  replace Ox := Ox.to hq
  replace Oy := Oy.to hq
  replace Og := Og.to hq
  replace Ot := Ot.to hq
  have s9 := hq.size
  replace BB := Bl.then BB hq
  clear hq
  clear Ot
  go_wp2_with fail
  refine (c_toMappingS _ _ _ b _ HNb.out (HGb.out _ BB) (by omega)).mono ?_
  rintro e v10 ⟨Au, nu, du, rfl, eu, Ou, hq⟩
  replace Ow := Ow.to hq
  replace Ox := Ox.to hq
  replace Oy := Oy.to hq
  replace Og := Og.to hq
  have s10 := hq.size
  replace BB := Bl.then BB hq
  clear hq
  obtain rfl : m = nu := HNb.out.symm.trans eu
  clear eu
  go_wp2_with fail
  refine (c_eqMappingS _ _ _ _ _ b _ HNb.out Oy.1 Ou.1 (by omega)).mono ?_
  rintro e v11 ⟨rfl, hq⟩
  replace Ow := Ow.to hq
  replace Ox := Ox.to hq
  replace Oy := Oy.to hq
  replace Og := Og.to hq
  replace Ou := Ou.to hq
  have s11 := hq.size
  replace BB := Bl.then BB hq
  clear hq
  clear Ou
  go_wp2_with fail
  refine (m_markMappingS _ _ _ _ _ a _ _ Ox (by omega) (by omega) (by omega)).mono ?_
  rintro e v12 ⟨rfl, -, t⟩
  replace Ow := Ow.turn t (by omega)
  replace Oy := Oy.turn t (by omega)
  replace Og := Og.turn t (by omega)
  have s12 := t.size
  replace BB := t.below BB (by omega) BB.size
  clear t Ox
  go_wp2_with fail
  refine (m_markMappingS _ _ _ _ _ b _ _ Oy (by omega) (by omega) (by omega)).mono ?_
  rintro e v13 ⟨rfl, -, t⟩
  replace Ow := Ow.turn t (by omega)
  replace Og := Og.turn t (by omega)
  have s13 := t.size
  replace BB := t.below BB (by omega) BB.size
  clear t Oy
  have hk : ¬ ((1 : Int) + 4 * (n : Int) + 4 * (m : Int) < 0) := by omega
  go_wp2_with fail
  refine (c_eqRecordS _ _ _ _ _ _ _ qg Og.1 Ow.1 (by omega)).mono ?_
  rintro e v14 ⟨rfl, hq⟩
  replace Ow := Ow.to hq
  replace Og := Og.to hq
  have s14 := hq.size
  replace BB := Bl.then BB hq
  clear hq
  go_wp2_with fail
  refine (m_markRecordS _ _ _ _ _ _ _ _ Og (by omega) (by omega) (by omega)).mono ?_
  rintro e v15 ⟨rfl, Pg, t⟩
  replace Ow := Ow.turn t (by omega)
  have s15 := t.size
  replace BB := t.below BB (by omega) BB.size
  clear t Og
  go_wp2_with fail
  refine (c_heldRecordS _ _ _ _ _ Pg.1 (by omega) (by omega) (by omega)).mono ?_
  rintro e w' ⟨rfl, rfl⟩
  have hq0 : ¬ ((1 : Int) + 5 * (mw : Int) < 0) := by omega
  go_wp2_with fail
  refine (c_toMappingS _ _ _ a _ HNa.out (HGa.out _ BB) (by omega)).mono ?_
  rintro e v16 ⟨Aa2, na2, da2, rfl, ea2, Oa2, hq⟩
  replace Ow := Ow.to hq
  replace Pg := Pg.to hq
  have s16 := hq.size
  replace BB := Bl.then BB hq
  clear hq
  obtain rfl : n = na2 := HNa.out.symm.trans ea2
  clear ea2
  go_wp2_with fail
  refine (c_toMappingS _ _ _ b _ HNb.out (HGb.out _ BB) (by omega)).mono ?_
  rintro e v17 ⟨Ab2, nb2, db2, rfl, eb2, Ob2, hq⟩
  replace Ow := Ow.to hq
  replace Pg := Pg.to hq
  replace Oa2 := Oa2.to hq
  have s17 := hq.size
  replace BB := Bl.then BB hq
  clear hq
  obtain rfl : m = nb2 := HNb.out.symm.trans eb2
  clear eb2
  go_wp2_with fail
  refine (c_iBetween _ _ _ _ _ _ a b now _ HNa.out HNb.out Oa2.2.2.1 Ob2.2.2.1 Oa2.1 Ob2.1 (by omega) (by omega)).mono ?_
  rintro e v18 ⟨Eh, mh, dh, rfl, qh, Oh, hq⟩
  replace Ow := Ow.to hq
  replace Pg := Pg.to hq
  replace Oa2 := Oa2.to hq
  replace Ob2 := Ob2.to hq
  have s18 := hq.size
  replace BB := Bl.then BB hq
  clear hq
  clear Oa2
  clear Ob2
  obtain rfl : mw = mh := qw.symm.trans qh
  go_wp2_with fail
  refine (c_eqRecordS _ _ _ _ _ _ _ qh Oh.1 Ow.1 (by omega)).mono ?_
  rintro e v19 ⟨rfl, hq⟩
  replace Ow := Ow.to hq
  replace Pg := Pg.to hq
  replace Oh := Oh.to hq
  have s19 := hq.size
  replace BB := Bl.then BB hq
  clear hq
  go_wp2_with fail
  refine (c_heldRecordS _ _ _ _ _ Pg.1 (by omega) (by omega) (by omega)).mono ?_
  rintro e w' ⟨rfl, rfl⟩
  go_wp2
  go_ret
  exact ⟨rfl, BB⟩
end Go.Proofs.Ytaceadddggkkmaa
