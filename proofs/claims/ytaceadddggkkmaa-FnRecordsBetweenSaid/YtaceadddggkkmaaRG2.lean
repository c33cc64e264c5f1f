/- Contract of the generator: records. -/
import Derived.Test.YtaceadddggkkmaaRG1
import Derived.Test.YtaceadddggkkmaaR7
namespace Go.Proofs.Ytaceadddggkkmaa
open Go.RowKit

/-- What a generator of records leaves. -/
def GenR (w : World) (g p k : Nat) (e : Ending) (w' : World) : Prop :=
  ∃ A n c l p', e = .returned (.slice A n c) ∧ l.length = n ∧ n ≤ c ∧ RR w' A l ∧ n ≤ 20 ∧ Rdr w' g p' ∧ p' ≤ p + k ∧ w.grownBy w' (some g) ∧ ∀ a, A = some a → w.heap.size ≤ a.block
theorem RR.grown {w w' : World} {A : Option Addr} {l : List Rec} {g : Nat} (h : RR w A l) (hg : w.grownBy w' (some g)) (hne : ∀ a, A = some a → a.block ≠ g) : RR w' A l := fun k v hk => by
  obtain ⟨b, off, rfl, hlt, hc⟩ := h k v hk
  exact ⟨b, off, rfl, Nat.lt_of_lt_of_le hlt hg.size, (World.cell?_of_block (w := w) (a := ⟨b, off + k, none⟩) (hg.block b hlt (fun e => hne _ rfl (by injection e)))).trans hc⟩
theorem RO.put {w : World} {b n c : Nat} {A : Option Addr} {l : List Rec} (h : RO w b (.slice A n c) l) (r k : Nat) (v : Value) (hne : ∀ a, A = some a → a.block ≠ r) : RO (w.setCell ⟨r, k, none⟩ v) b (.slice A n c) l :=
  World.ownsRow.kept h (grown_put r k v) (by
    cases A with
    | none => exact .inl rfl
    | some a => exact .inr (fun e => hne a rfl (Option.some.inj e)))
theorem RO.low {w : World} {b b' : Nat} {v : Value} {l : List Rec} (h : RO w b' v l) (hb : b ≤ b') : RO w b v l := by
  refine ⟨h.1, ?_⟩
  rcases h.2 with h | ⟨g, cap, cur, hv, hg, h⟩
  · exact .inl h
  · exact .inr ⟨g, cap, cur, hv, Nat.le_trans hb hg, h⟩
theorem rn_set {l : List Rec} {r : Rec} {y k : Nat} (hk : k < l.length) : rn (l.set y r) k = if k = y then r else rn l k := by
  unfold rn
  rw [List.getElem?_set]
  by_cases h : y = k
  · subst h
    rw [if_pos rfl, if_pos rfl, if_pos hk]; rfl
  · rw [if_neg h, if_neg (fun e => h e.symm)]
theorem rec_sets {l : List Rec} {cur : Array Value} (h : ∀ j, j < l.length * 5 → cur[j]? = (recCs l)[j]?) (r : Rec) {y : Nat} (hy : y < l.length) :
    ∀ j, j < (l.set y r).length * 5 → (((((cur.setIfInBounds (y * 5) (.int .i64 r.at_)).setIfInBounds (y * 5 + 1) (.int .i64 r.po)).setIfInBounds (y * 5 + 2) (.int .i64 r.ad)).setIfInBounds (y * 5 + 3) (.int .i64 r.ep)).setIfInBounds (y * 5 + 4) (.bool r.ov))[j]? = (recCs (l.set y r))[j]? := by
  intro j hj
  rw [List.length_set] at hj
  have hsz : ∀ i, i < 5 → y * 5 + i < cur.size := fun i hi => by
    have := h (y * 5 + i) (by omega)
    rw [List.getElem?_eq_getElem (by rw [recCs_len]; omega)] at this
    exact (Array.getElem?_eq_some_iff.1 this).1
  have e : j = j / 5 * 5 + j % 5 := by omega
  have hi5 : j % 5 < 5 := Nat.mod_lt _ (by omega)
  have hjl : j / 5 < l.length := by omega
  generalize j / 5 = q at e hjl
  generalize j % 5 = i at e hi5
  subst e
  rw [recCs_at (by rw [List.length_set]; exact hjl) hi5, rn_set hjl]
  have h4 := hsz 4 (by omega)
  simp only [Array.getElem?_setIfInBounds, Array.size_setIfInBounds]
  by_cases hq : q = y
  · subst hq
    rw [if_pos rfl]
    rcases i with _ | _ | _ | _ | _ | i
    · rw [if_neg (by omega), if_neg (by omega), if_neg (by omega), if_neg (by omega), if_pos (by omega), if_pos (by omega)]; rfl
    · rw [if_neg (by omega), if_neg (by omega), if_neg (by omega), if_pos (by omega), if_pos (by omega)]; rfl
    · rw [if_neg (by omega), if_neg (by omega), if_pos (by omega), if_pos (by omega)]; rfl
    · rw [if_neg (by omega), if_pos (by omega), if_pos (by omega)]; rfl
    · rw [if_pos (by omega), if_pos (by omega)]; rfl
    · omega
  · rw [if_neg (by omega), if_neg (by omega), if_neg (by omega), if_neg (by omega), if_neg (by omega), if_neg hq, h _ (by omega), recCs_at hjl hi5]

set_option maxHeartbeats 3200000 in
theorem c_someRecords (g p : Nat) (w : World) (hr : Rdr w g p) (hp : p ≤ 1099511625000) :
    Calls Try.prog 47 #[.pointer (some ⟨g, 0, none⟩)] w (GenR w g p 90) := by
  obtain ⟨i0, hi, hz0, hz1, hz2⟩ := info_parts rec_info
  have hgl := hr.lt
  go_enter Try.func47, Try.ntmps47
  go_wp2_with fail
  have hg := grown_alloc (World.grownBy.refl w (some g)) (.cells #[] 29)
  have ho : RO (w.alloc (.cells #[] 29)) w.heap.size (.slice (some ⟨w.heap.size, 0, none⟩) 0 0) [] := RO.empty (Nat.le_refl _) rfl
  replace hr := hr.alloc (.cells #[] 29)
  refine (c_pick _ _ _ _ hr (by omega)).mono ?_
  rintro e w1 ⟨t0, rfl, ha, hb, -, hr, h⟩
  replace hb := hb (by omega)
  replace hg := grown_trans hg h
  replace ho := ho.kept h hgl
  clear h
  go_wp2_with fail
  refine (c_one _ _ _ _ [5, 8, 3, 12, 0, 20] _ (hr.alloc _) (by omega) (lit_ints _ rfl rfl) (by simp) (by simp) (lit_far hr rfl)).mono ?_
  rintro e w2 ⟨n0, rfl, hx, hr, h⟩
  replace hg := grown_trans (grown_alloc hg _) h
  replace ho := (ho.alloc _).kept h hgl
  clear h
  have hbn : 0 ≤ n0 ∧ n0 ≤ 20 := by
    simp only [List.mem_cons, List.not_mem_nil, or_false] at hx
    omega
  clear hx
  obtain ⟨K, rfl⟩ := Int.eq_ofNat_of_zero_le hbn.1
  go_wp2
  go_loopw [3, 4, 5] (fun v tt i wr => ∃ (k pp : Nat) (l : List Rec) (t : Int), k ≤ 20 ∧ i = .int .i64 k ∧ tt = .int .i64 t ∧ 0 ≤ t ∧ t + 6 * k ≤ 140 ∧ l.length + k ≤ 20 ∧ pp + 4 * k ≤ p + 82 ∧
      RO wr w.heap.size v l ∧ Rdr wr g pp ∧ w.grownBy wr (some g)) (fun _ _ i _ => (intOf i).toNat)
  case atStart => exact ⟨K, _, [], _, by omega, rfl, rfl, ha, by omega, by simp; omega, by omega, ho, hr, hg⟩
  case round =>
    clear ho hr hg hbn ha hb
    obtain ⟨k, pp, l, t, hk, rfl, rfl, ht0, ht1, hl, hpp, ho, hr, hg⟩ := hrel
    obtain ⟨D, d, rfl, hd, -, hD⟩ := ho.slice
    by_cases hk0 : 0 < k
    · go_wp2_with fail
      refine (c_pick _ _ _ _ hr (by omega)).mono ?_
      rintro e w3 ⟨y1, rfl, a1, b1, -, hr, h⟩
      replace b1 := b1 (by omega)
      replace hg := grown_trans hg h
      replace ho := ho.kept h hgl
      clear h
      go_wp2_with fail
      refine (c_insideEnd _ _ _ hr (by omega)).mono ?_
      rintro e w4 ⟨x, y, p4, rfl, ⟨hx0, hx1, hy0, hy1⟩, hr, hp4, h⟩
      replace hg := grown_trans hg h
      replace ho := ho.kept h hgl
      clear h
      have k0 := Blk.new w4 29 #[.int .i64 t, .int .i64 (1000 + y1), .int .i64 x, .int .i64 y, .bool false]
      have hs4 := hg.size
      have hD4 : ∀ a, D = some a → a.block ≠ w4.heap.size := fun a ha => by
        obtain ⟨D', d', e, -, -, h⟩ := ho.slice
        injection e with e1
        have := h a (e1 ▸ ha)
        omega
      replace hg := grown_alloc hg (.cells #[.int .i64 t, .int .i64 (1000 + y1), .int .i64 x, .int .i64 y, .bool false] 29)
      replace ho := ho.alloc (.cells #[.int .i64 t, .int .i64 (1000 + y1), .int .i64 x, .int .i64 y, .bool false] 29)
      have hg4 := hr.lt
      replace hr := hr.alloc (.cells #[.int .i64 t, .int .i64 (1000 + y1), .int .i64 x, .int .i64 y, .bool false] 29)
      have k00 := k0.cell 0
      have k01 := k0.cell 1
      simp only [List.getElem?_toArray, List.getElem?_cons_zero, List.getElem?_cons_succ] at k00 k01
      go_wp2_with fail
      refine (c_sWhoHad _ _ _ l (1000 + y1) t _ rfl (ho.rr rfl) (by omega)).mono ?_
      clear k00 k01
      generalize who l (1000 + y1) t = q
      rcases q with _ | ⟨qx, qy⟩
      · simp only [whoV]
        rintro e w9 ⟨rfl, hb⟩
        replace k0 := (k0.to hb).alloc (.cells #[.int .i64 0, .int .i64 0] 27)
        replace ho := (ho.to hb).alloc (.cells #[.int .i64 0, .int .i64 0] 27)
        replace hr := (hr.to hb).alloc (.cells #[.int .i64 0, .int .i64 0] 27)
        replace hg := grown_alloc (grown_trans hg (grown_of_below hb (some g))) (.cells #[.int .i64 0, .int .i64 0] 27)
        clear hb
        go_wp2_with fail
        generalize World.alloc w9 (.cells #[.int .i64 0, .int .i64 0] 27) = wq at *
        obtain ⟨r, k1⟩ : ∃ r : Rec, Blk wq.drew w4.heap.size 29 #[.int .i64 r.at_, .int .i64 r.po, .int .i64 r.ad, .int .i64 r.ep, .bool r.ov] := ⟨⟨t, 1000 + y1, x, y, false⟩, k0⟩
        clear k0
        replace ho : RO wq.drew w.heap.size (.slice D l.length d) l := ho
        replace hr : Rdr wq.drew g p4 := hr
        replace hg : w.grownBy wq.drew (some g) := grown_drewN hg 1
        have hri : RR wq.drew D l := ho.rr rfl
        have hs5 := hg.size
        refine wp_region_held_drew (S := (fun w' => w'.cell? ⟨w4.heap.size, 0, none⟩ = some (.int .i64 r.at_) ∧ w'.cell? ⟨w4.heap.size, 1, none⟩ = some (.int .i64 r.po) ∧ w'.cell? ⟨w4.heap.size, 2, none⟩ = some (.int .i64 r.ad) ∧ w'.cell? ⟨w4.heap.size, 3, none⟩ = some (.int .i64 r.ep) ∧ w'.cell? ⟨w4.heap.size, 4, none⟩ = some (.bool r.ov))) (by kernel_rfl) ?_ (fun hHeld => ?_)
        · (try dsimp only); exact ⟨k1.cell 0, k1.cell 1, k1.cell 2, k1.cell 3, k1.cell 4⟩
        generalize World.drew wq = w5 at *; have k0 := k1; have b3 : Below w5.heap.size w5 w5 := Below.refl _ _
        refine wpAnyH_take (i := 1) (v := ?_) (arr_at rfl) (by kernel_rfl) (by kernel_rfl) (by kernel_rfl) (fun _ _ _ h => h) ?_ (by assumption) ?_
        rotate_left
        · first
          | (refine Or.inr ⟨by rfl, ?_⟩; with_reducible rfl)
          | (refine Or.inl ⟨by rfl, ?_⟩; intro w hSw; (try dsimp only at hSw); go_simp; done)
          | (refine Or.inl ⟨by rfl, ?_⟩; intro w hSw; (try dsimp only at hSw); go_simp; with_reducible rfl)
        try simp only [Act.put, List.setIfInBounds_toArray, List.set_cons_zero, List.set_cons_succ]
        refine wpAnyH_take (i := 3) (v := ?_) (arr_at rfl) (by kernel_rfl) (by kernel_rfl) (by kernel_rfl) (fun _ _ _ h => h) ?_ (by assumption) ?_
        rotate_left
        · first
          | (refine Or.inr ⟨by rfl, ?_⟩; with_reducible rfl)
          | (refine Or.inl ⟨by rfl, ?_⟩; intro w hSw; (try dsimp only at hSw); go_simp; done)
          | (refine Or.inl ⟨by rfl, ?_⟩; intro w hSw; (try dsimp only at hSw); go_simp; with_reducible rfl)
        try simp only [Act.put, List.setIfInBounds_toArray, List.set_cons_zero, List.set_cons_succ]
        refine wpAnyH_ready (rs := [0, 4]) (by kernel_rfl) (by simp) ?_
        refine AllReadyH.cons (arr_at rfl) (fun K hK => ?_) (AllReadyH.cons (arr_at rfl) (fun K hK => ?_) AllReadyH.nil)
        · go_simp
          replace b3 : Below w5.heap.size w5 (w5.alloc (.cells #[] 29)) := b3.alloc b3.size _; replace k1 := k0.below b3 k0.lt; have hO : (w5.alloc (.cells #[] 29)).ownsRow w5.heap.size 29 5 (.slice (some ⟨w5.heap.size, 0, none⟩) 0 0) 0 [] := RO.empty (w := w5) (Nat.le_refl _) rfl
          refine hK.out _ _ ?_ (fun hHeld => ?_)
          · (try dsimp only); exact ⟨k1.cell 0, k1.cell 1, k1.cell 2, k1.cell 3, k1.cell 4⟩
          clear hK K
          try simp only [Act.put, List.setIfInBounds_toArray, List.set_cons_zero, List.set_cons_succ]
          refine wpAnyH_ready (rs := [2, 4]) (by kernel_rfl) (by simp) ?_
          refine AllReadyH.cons (arr_at rfl) (fun K hK => ?_) (AllReadyH.cons (arr_at rfl) (fun K hK => ?_) AllReadyH.nil)
          · refine wp_append_rd _ _ _ 23 rfl w5.heap.size 29 i0 _ 5 40 Try.underlying23 hi hz0 hz1 hz2 rfl (by omega) _ 0 [] rfl hO D l.length d (recCs l) rfl (Rd.below hri b3 (Nat.le_refl _)) (recCs_len l) (recCs_one l) (by unfold maxLen; omega) (by omega) b3.size ?_; intro v1 w6 hO1 hg2 hat; replace b3 := b3.grown hg2 b3.size (fun k hk => (hO.lt k hk).1); replace k1 := k0.below b3 k0.lt; clear hO hg2 hat
            refine hK.out _ _ ?_ (fun hHeld => ?_)
            · (try dsimp only); exact ⟨k1.cell 0, k1.cell 1, k1.cell 2, k1.cell 3, k1.cell 4⟩
            clear hK K
            try simp only [Act.put, List.setIfInBounds_toArray, List.set_cons_zero, List.set_cons_succ]
            refine wpAnyH_ready (rs := [4]) (by kernel_rfl) (by simp) ?_
            refine AllReadyH.cons (arr_at rfl) (fun K hK => ?_) AllReadyH.nil
            go_simp
            replace b3 : Below w5.heap.size w5 (w6.alloc (.cells #[.int .i64 r.at_, .int .i64 r.po, .int .i64 r.ad, .int .i64 r.ep, .bool r.ov] 29)) := b3.alloc b3.size _; replace k1 := k0.below b3 k0.lt; have hL : RR (w6.alloc (.cells #[.int .i64 r.at_, .int .i64 r.po, .int .i64 r.ad, .int .i64 r.ep, .bool r.ov] 29)) (some ⟨w6.heap.size, 0, none⟩) [r] := lit_rec (w := w6) r rfl rfl; replace hO1 := World.ownsRow.alloc hO1 (.cells #[.int .i64 r.at_, .int .i64 r.po, .int .i64 r.ad, .int .i64 r.ep, .bool r.ov] 29)
            refine hK.out _ _ ?_ (fun hHeld => ?_)
            · (try dsimp only); exact ⟨k1.cell 0, k1.cell 1, k1.cell 2, k1.cell 3, k1.cell 4⟩
            clear hK K
            try simp only [Act.put, List.setIfInBounds_toArray, List.set_cons_zero, List.set_cons_succ]
            refine wpAnyH_ready (rs := [5]) (by kernel_rfl) (by simp) ?_
            refine AllReadyH.cons (arr_at rfl) (fun K hK => ?_) AllReadyH.nil
            refine wp_append_rd _ _ _ 23 rfl w5.heap.size 29 i0 _ 5 40 Try.underlying23 hi hz0 hz1 hz2 rfl (by omega) _ _ _ rfl hO1 _ 1 1 (recCs [r]) rfl hL (recCs_len [r]) (recCs_one [r]) (by unfold maxLen; omega) (by omega) b3.size ?_; intro v2 w7 hO2 hg2 hat; replace b3 := b3.grown hg2 b3.size (fun k hk => (hO1.lt k hk).1); replace k1 := k0.below b3 k0.lt; clear hO1 hL hg2 hat
            refine hK.out _ _ ?_ (fun hHeld => ?_)
            · (try dsimp only); exact ⟨k1.cell 0, k1.cell 1, k1.cell 2, k1.cell 3, k1.cell 4⟩
            clear hK K
            try simp only [Act.put, List.setIfInBounds_toArray, List.set_cons_zero, List.set_cons_succ]
            refine wpAnyH_take (i := 6) (v := ?_) (arr_at rfl) (by kernel_rfl) (by kernel_rfl) (by kernel_rfl) (fun _ _ _ h => h) ?_ (by assumption) ?_
            rotate_left
            · first
              | (refine Or.inr ⟨by rfl, ?_⟩; with_reducible rfl)
              | (refine Or.inl ⟨by rfl, ?_⟩; intro w hSw; (try dsimp only at hSw); go_simp; done)
              | (refine Or.inl ⟨by rfl, ?_⟩; intro w hSw; (try dsimp only at hSw); go_simp; with_reducible rfl)
            try simp only [Act.put, List.setIfInBounds_toArray, List.set_cons_zero, List.set_cons_succ]
            refine wpAnyH_done (by kernel_rfl) ?_ _
            have hO3 : RO w7 w5.heap.size v2 (l ++ [r]) := (by unfold RO; rw [recCs_app]; simpa using hO2); clear hO2 k1 k0; replace ho := RO.to ho b3; replace hr := hr.to b3; replace hg := grown_trans hg (grown_of_below b3 (some g)); replace hO3 := RO.low hO3 hs5; clear b3 hs5
            obtain ⟨E, cE, hv2, hE, -, -⟩ := hO3.slice
            rw [List.length_append, List.length_singleton] at hv2
            subst hv2
            go_wp2_with fail
            refine (c_sValidRecords' _ _ _ (l ++ [r]) _ (by simp) (hO3.rr (by simp)) (by omega)).mono ?_
            rintro e w10 ⟨rfl, hb⟩
            replace ho := ho.to hb
            replace hO3 := hO3.to hb
            replace hr := hr.to hb
            replace hg := grown_trans hg (grown_of_below hb (some g))
            clear hb
            cases vRec (l ++ [r])
            · go_wp2_with fail
              refine (c_pick _ _ _ _ hr (by omega)).mono ?_
              rintro e w11 ⟨y2, rfl, a2, b2, -, hr, h⟩
              replace b2 := b2 (by omega)
              replace hg := grown_trans hg h
              have ho := ho.kept h hgl
              clear h
              go_wp2
              go_roundw
              case rel =>
                refine ⟨k - 1, _, l, t + y2, by omega, ?_, rfl, by omega, by omega, by first | omega | (simp; omega), ?_, ho, hr, hg⟩
                · rw [Int.natCast_sub (by omega)]; rfl
                · omega
              case measure => simp [intOf]; omega
            · go_wp2_with fail
              refine (c_pick _ _ _ _ hr (by omega)).mono ?_
              rintro e w11 ⟨y2, rfl, a2, b2, -, hr, h⟩
              replace b2 := b2 (by omega)
              replace hg := grown_trans hg h
              have ho := hO3.kept h hgl
              clear h
              go_wp2
              go_roundw
              case rel =>
                refine ⟨k - 1, _, l ++ [r], t + y2, by omega, ?_, rfl, by omega, by omega, by first | omega | (simp; omega), ?_, ho, hr, hg⟩
                · rw [Int.natCast_sub (by omega)]; rfl
                · omega
              case measure => simp [intOf]; omega
          · go_simp
            replace b3 : Below w5.heap.size w5 ((w5.alloc (.cells #[] 29)).alloc (.cells #[.int .i64 r.at_, .int .i64 r.po, .int .i64 r.ad, .int .i64 r.ep, .bool r.ov] 29)) := b3.alloc b3.size _; replace k1 := k0.below b3 k0.lt; have hL : RR ((w5.alloc (.cells #[] 29)).alloc (.cells #[.int .i64 r.at_, .int .i64 r.po, .int .i64 r.ad, .int .i64 r.ep, .bool r.ov] 29)) (some ⟨w5.heap.size + 1, 0, none⟩) [r] := lit_rec (w := w5.alloc (.cells #[] 29)) r (by simp) rfl; replace hO := World.ownsRow.alloc hO (.cells #[.int .i64 r.at_, .int .i64 r.po, .int .i64 r.ad, .int .i64 r.ep, .bool r.ov] 29)
            refine hK.out _ _ ?_ (fun hHeld => ?_)
            · (try dsimp only); exact ⟨k1.cell 0, k1.cell 1, k1.cell 2, k1.cell 3, k1.cell 4⟩
            clear hK K
            try simp only [Act.put, List.setIfInBounds_toArray, List.set_cons_zero, List.set_cons_succ]
            refine wpAnyH_ready (rs := [2]) (by kernel_rfl) (by simp) ?_
            refine AllReadyH.cons (arr_at rfl) (fun K hK => ?_) AllReadyH.nil
            refine wp_append_rd _ _ _ 23 rfl w5.heap.size 29 i0 _ 5 40 Try.underlying23 hi hz0 hz1 hz2 rfl (by omega) _ 0 [] rfl hO D l.length d (recCs l) rfl (Rd.below hri b3 (Nat.le_refl _)) (recCs_len l) (recCs_one l) (by unfold maxLen; omega) (by omega) b3.size ?_; intro v1 w6 hO1 hg2 hat; replace b3 := b3.grown hg2 b3.size (fun k hk => (hO.lt k hk).1); replace k1 := k0.below b3 k0.lt; replace hL := RR.grown hL hg2 (fun a ha => by cases ha; simp); clear hO hg2 hat
            refine hK.out _ _ ?_ (fun hHeld => ?_)
            · (try dsimp only); exact ⟨k1.cell 0, k1.cell 1, k1.cell 2, k1.cell 3, k1.cell 4⟩
            clear hK K
            try simp only [Act.put, List.setIfInBounds_toArray, List.set_cons_zero, List.set_cons_succ]
            refine wpAnyH_ready (rs := [5]) (by kernel_rfl) (by simp) ?_
            refine AllReadyH.cons (arr_at rfl) (fun K hK => ?_) AllReadyH.nil
            refine wp_append_rd _ _ _ 23 rfl w5.heap.size 29 i0 _ 5 40 Try.underlying23 hi hz0 hz1 hz2 rfl (by omega) _ _ _ rfl hO1 _ 1 1 (recCs [r]) rfl hL (recCs_len [r]) (recCs_one [r]) (by unfold maxLen; omega) (by omega) b3.size ?_; intro v2 w7 hO2 hg2 hat; replace b3 := b3.grown hg2 b3.size (fun k hk => (hO1.lt k hk).1); replace k1 := k0.below b3 k0.lt; clear hO1 hL hg2 hat
            refine hK.out _ _ ?_ (fun hHeld => ?_)
            · (try dsimp only); exact ⟨k1.cell 0, k1.cell 1, k1.cell 2, k1.cell 3, k1.cell 4⟩
            clear hK K
            try simp only [Act.put, List.setIfInBounds_toArray, List.set_cons_zero, List.set_cons_succ]
            refine wpAnyH_take (i := 6) (v := ?_) (arr_at rfl) (by kernel_rfl) (by kernel_rfl) (by kernel_rfl) (fun _ _ _ h => h) ?_ (by assumption) ?_
            rotate_left
            · first
              | (refine Or.inr ⟨by rfl, ?_⟩; with_reducible rfl)
              | (refine Or.inl ⟨by rfl, ?_⟩; intro w hSw; (try dsimp only at hSw); go_simp; done)
              | (refine Or.inl ⟨by rfl, ?_⟩; intro w hSw; (try dsimp only at hSw); go_simp; with_reducible rfl)
            try simp only [Act.put, List.setIfInBounds_toArray, List.set_cons_zero, List.set_cons_succ]
            refine wpAnyH_done (by kernel_rfl) ?_ _
            have hO3 : RO w7 w5.heap.size v2 (l ++ [r]) := (by unfold RO; rw [recCs_app]; simpa using hO2); clear hO2 k1 k0; replace ho := RO.to ho b3; replace hr := hr.to b3; replace hg := grown_trans hg (grown_of_below b3 (some g)); replace hO3 := RO.low hO3 hs5; clear b3 hs5
            obtain ⟨E, cE, hv2, hE, -, -⟩ := hO3.slice
            rw [List.length_append, List.length_singleton] at hv2
            subst hv2
            go_wp2_with fail
            refine (c_sValidRecords' _ _ _ (l ++ [r]) _ (by simp) (hO3.rr (by simp)) (by omega)).mono ?_
            rintro e w10 ⟨rfl, hb⟩
            replace ho := ho.to hb
            replace hO3 := hO3.to hb
            replace hr := hr.to hb
            replace hg := grown_trans hg (grown_of_below hb (some g))
            clear hb
            cases vRec (l ++ [r])
            · go_wp2_with fail
              refine (c_pick _ _ _ _ hr (by omega)).mono ?_
              rintro e w11 ⟨y2, rfl, a2, b2, -, hr, h⟩
              replace b2 := b2 (by omega)
              replace hg := grown_trans hg h
              have ho := ho.kept h hgl
              clear h
              go_wp2
              go_roundw
              case rel =>
                refine ⟨k - 1, _, l, t + y2, by omega, ?_, rfl, by omega, by omega, by first | omega | (simp; omega), ?_, ho, hr, hg⟩
                · rw [Int.natCast_sub (by omega)]; rfl
                · omega
              case measure => simp [intOf]; omega
            · go_wp2_with fail
              refine (c_pick _ _ _ _ hr (by omega)).mono ?_
              rintro e w11 ⟨y2, rfl, a2, b2, -, hr, h⟩
              replace b2 := b2 (by omega)
              replace hg := grown_trans hg h
              have ho := hO3.kept h hgl
              clear h
              go_wp2
              go_roundw
              case rel =>
                refine ⟨k - 1, _, l ++ [r], t + y2, by omega, ?_, rfl, by omega, by omega, by first | omega | (simp; omega), ?_, ho, hr, hg⟩
                · rw [Int.natCast_sub (by omega)]; rfl
                · omega
              case measure => simp [intOf]; omega
        · go_simp
          replace b3 : Below w5.heap.size w5 (w5.alloc (.cells #[.int .i64 r.at_, .int .i64 r.po, .int .i64 r.ad, .int .i64 r.ep, .bool r.ov] 29)) := b3.alloc b3.size _; replace k1 := k0.below b3 k0.lt; have hL : RR (w5.alloc (.cells #[.int .i64 r.at_, .int .i64 r.po, .int .i64 r.ad, .int .i64 r.ep, .bool r.ov] 29)) (some ⟨w5.heap.size, 0, none⟩) [r] := lit_rec (w := w5) r rfl rfl
          refine hK.out _ _ ?_ (fun hHeld => ?_)
          · (try dsimp only); exact ⟨k1.cell 0, k1.cell 1, k1.cell 2, k1.cell 3, k1.cell 4⟩
          clear hK K
          try simp only [Act.put, List.setIfInBounds_toArray, List.set_cons_zero, List.set_cons_succ]
          refine wpAnyH_ready (rs := [0]) (by kernel_rfl) (by simp) ?_
          refine AllReadyH.cons (arr_at rfl) (fun K hK => ?_) AllReadyH.nil
          go_simp
          replace b3 : Below w5.heap.size w5 ((w5.alloc (.cells #[.int .i64 r.at_, .int .i64 r.po, .int .i64 r.ad, .int .i64 r.ep, .bool r.ov] 29)).alloc (.cells #[] 29)) := b3.alloc b3.size _; replace k1 := k0.below b3 k0.lt; have hO : ((w5.alloc (.cells #[.int .i64 r.at_, .int .i64 r.po, .int .i64 r.ad, .int .i64 r.ep, .bool r.ov] 29)).alloc (.cells #[] 29)).ownsRow w5.heap.size 29 5 (.slice (some ⟨w5.heap.size + 1, 0, none⟩) 0 0) 0 [] := RO.empty (w := w5.alloc (.cells #[.int .i64 r.at_, .int .i64 r.po, .int .i64 r.ad, .int .i64 r.ep, .bool r.ov] 29)) (by simp) (by simp); replace hL := hL.alloc (.cells #[] 29)
          refine hK.out _ _ ?_ (fun hHeld => ?_)
          · (try dsimp only); exact ⟨k1.cell 0, k1.cell 1, k1.cell 2, k1.cell 3, k1.cell 4⟩
          clear hK K
          try simp only [Act.put, List.setIfInBounds_toArray, List.set_cons_zero, List.set_cons_succ]
          refine wpAnyH_ready (rs := [2]) (by kernel_rfl) (by simp) ?_
          refine AllReadyH.cons (arr_at rfl) (fun K hK => ?_) AllReadyH.nil
          refine wp_append_rd _ _ _ 23 rfl w5.heap.size 29 i0 _ 5 40 Try.underlying23 hi hz0 hz1 hz2 rfl (by omega) _ 0 [] rfl hO D l.length d (recCs l) rfl (Rd.below hri b3 (Nat.le_refl _)) (recCs_len l) (recCs_one l) (by unfold maxLen; omega) (by omega) b3.size ?_; intro v1 w6 hO1 hg2 hat; replace b3 := b3.grown hg2 b3.size (fun k hk => (hO.lt k hk).1); replace k1 := k0.below b3 k0.lt; replace hL := RR.grown hL hg2 (fun a ha => by cases ha; simp); clear hO hg2 hat
          refine hK.out _ _ ?_ (fun hHeld => ?_)
          · (try dsimp only); exact ⟨k1.cell 0, k1.cell 1, k1.cell 2, k1.cell 3, k1.cell 4⟩
          clear hK K
          try simp only [Act.put, List.setIfInBounds_toArray, List.set_cons_zero, List.set_cons_succ]
          refine wpAnyH_ready (rs := [5]) (by kernel_rfl) (by simp) ?_
          refine AllReadyH.cons (arr_at rfl) (fun K hK => ?_) AllReadyH.nil
          refine wp_append_rd _ _ _ 23 rfl w5.heap.size 29 i0 _ 5 40 Try.underlying23 hi hz0 hz1 hz2 rfl (by omega) _ _ _ rfl hO1 _ 1 1 (recCs [r]) rfl hL (recCs_len [r]) (recCs_one [r]) (by unfold maxLen; omega) (by omega) b3.size ?_; intro v2 w7 hO2 hg2 hat; replace b3 := b3.grown hg2 b3.size (fun k hk => (hO1.lt k hk).1); replace k1 := k0.below b3 k0.lt; clear hO1 hL hg2 hat
          refine hK.out _ _ ?_ (fun hHeld => ?_)
          · (try dsimp only); exact ⟨k1.cell 0, k1.cell 1, k1.cell 2, k1.cell 3, k1.cell 4⟩
          clear hK K
          try simp only [Act.put, List.setIfInBounds_toArray, List.set_cons_zero, List.set_cons_succ]
          refine wpAnyH_take (i := 6) (v := ?_) (arr_at rfl) (by kernel_rfl) (by kernel_rfl) (by kernel_rfl) (fun _ _ _ h => h) ?_ (by assumption) ?_
          rotate_left
          · first
            | (refine Or.inr ⟨by rfl, ?_⟩; with_reducible rfl)
            | (refine Or.inl ⟨by rfl, ?_⟩; intro w hSw; (try dsimp only at hSw); go_simp; done)
            | (refine Or.inl ⟨by rfl, ?_⟩; intro w hSw; (try dsimp only at hSw); go_simp; with_reducible rfl)
          try simp only [Act.put, List.setIfInBounds_toArray, List.set_cons_zero, List.set_cons_succ]
          refine wpAnyH_done (by kernel_rfl) ?_ _
          have hO3 : RO w7 w5.heap.size v2 (l ++ [r]) := (by unfold RO; rw [recCs_app]; simpa using hO2); clear hO2 k1 k0; replace ho := RO.to ho b3; replace hr := hr.to b3; replace hg := grown_trans hg (grown_of_below b3 (some g)); replace hO3 := RO.low hO3 hs5; clear b3 hs5
          obtain ⟨E, cE, hv2, hE, -, -⟩ := hO3.slice
          rw [List.length_append, List.length_singleton] at hv2
          subst hv2
          go_wp2_with fail
          refine (c_sValidRecords' _ _ _ (l ++ [r]) _ (by simp) (hO3.rr (by simp)) (by omega)).mono ?_
          rintro e w10 ⟨rfl, hb⟩
          replace ho := ho.to hb
          replace hO3 := hO3.to hb
          replace hr := hr.to hb
          replace hg := grown_trans hg (grown_of_below hb (some g))
          clear hb
          cases vRec (l ++ [r])
          · go_wp2_with fail
            refine (c_pick _ _ _ _ hr (by omega)).mono ?_
            rintro e w11 ⟨y2, rfl, a2, b2, -, hr, h⟩
            replace b2 := b2 (by omega)
            replace hg := grown_trans hg h
            have ho := ho.kept h hgl
            clear h
            go_wp2
            go_roundw
            case rel =>
              refine ⟨k - 1, _, l, t + y2, by omega, ?_, rfl, by omega, by omega, by first | omega | (simp; omega), ?_, ho, hr, hg⟩
              · rw [Int.natCast_sub (by omega)]; rfl
              · omega
            case measure => simp [intOf]; omega
          · go_wp2_with fail
            refine (c_pick _ _ _ _ hr (by omega)).mono ?_
            rintro e w11 ⟨y2, rfl, a2, b2, -, hr, h⟩
            replace b2 := b2 (by omega)
            replace hg := grown_trans hg h
            have ho := hO3.kept h hgl
            clear h
            go_wp2
            go_roundw
            case rel =>
              refine ⟨k - 1, _, l ++ [r], t + y2, by omega, ?_, rfl, by omega, by omega, by first | omega | (simp; omega), ?_, ho, hr, hg⟩
              · rw [Int.natCast_sub (by omega)]; rfl
              · omega
            case measure => simp [intOf]; omega
      · simp only [whoV]
        rintro e w9 ⟨rfl, hb⟩
        replace k0 := (k0.to hb).alloc (.cells #[.int .i64 qx, .int .i64 qy] 27)
        replace ho := (ho.to hb).alloc (.cells #[.int .i64 qx, .int .i64 qy] 27)
        replace hr := (hr.to hb).alloc (.cells #[.int .i64 qx, .int .i64 qy] 27)
        replace hg := grown_alloc (grown_trans hg (grown_of_below hb (some g))) (.cells #[.int .i64 qx, .int .i64 qy] 27)
        have hlt4 := (k0.lt)
        clear hb
        have z2 := k0.cell 2
        have z3 := k0.cell 3
        have z4 := k0.cell 4
        have f2 := k0.frozen 2
        have f3 := k0.frozen 3
        have f4 := k0.frozen 4
        simp only [List.getElem?_toArray, List.getElem?_cons_zero, List.getElem?_cons_succ] at z2 z3 z4
        have h4w : w4.heap.size ≠ g := by omega
        go_wp2_with fail
        generalize hwq : World.setCell (World.setCell (World.setCell (World.alloc w9 (.cells #[.int .i64 qx, .int .i64 qy] 27)) ⟨w4.heap.size, 2, none⟩ (.int .i64 qx)) ⟨w4.heap.size, 3, none⟩ (.int .i64 qy)) ⟨w4.heap.size, 4, none⟩ (.bool true) = wq
        replace k0 : Blk wq w4.heap.size 29 #[.int .i64 t, .int .i64 (1000 + y1), .int .i64 qx, .int .i64 qy, .bool true] := by rw [← hwq]; exact ((k0.set_ 2 _).set_ 3 _).set_ 4 _
        replace ho : RO wq w.heap.size (.slice D l.length d) l := by rw [← hwq]; exact ((ho.put _ _ _ hD4).put _ _ _ hD4).put _ _ _ hD4
        replace hr : Rdr wq g p4 := by rw [← hwq]; exact ((hr.set hg4).set hg4).set hg4
        replace hg : w.grownBy wq (some g) := by rw [← hwq]; exact grown_set (grown_set (grown_set hg hs4) hs4) hs4
        clear hwq z2 z3 z4 f2 f3 f4
        obtain ⟨r, k1⟩ : ∃ r : Rec, Blk wq.drew w4.heap.size 29 #[.int .i64 r.at_, .int .i64 r.po, .int .i64 r.ad, .int .i64 r.ep, .bool r.ov] := ⟨⟨t, 1000 + y1, qx, qy, true⟩, k0⟩
        clear k0
        replace ho : RO wq.drew w.heap.size (.slice D l.length d) l := ho
        replace hr : Rdr wq.drew g p4 := hr
        replace hg : w.grownBy wq.drew (some g) := grown_drewN hg 1
        have hri : RR wq.drew D l := ho.rr rfl
        have hs5 := hg.size
        refine wp_region_held_drew (S := (fun w' => w'.cell? ⟨w4.heap.size, 0, none⟩ = some (.int .i64 r.at_) ∧ w'.cell? ⟨w4.heap.size, 1, none⟩ = some (.int .i64 r.po) ∧ w'.cell? ⟨w4.heap.size, 2, none⟩ = some (.int .i64 r.ad) ∧ w'.cell? ⟨w4.heap.size, 3, none⟩ = some (.int .i64 r.ep) ∧ w'.cell? ⟨w4.heap.size, 4, none⟩ = some (.bool r.ov))) (by kernel_rfl) ?_ (fun hHeld => ?_)
        · (try dsimp only); exact ⟨k1.cell 0, k1.cell 1, k1.cell 2, k1.cell 3, k1.cell 4⟩
        generalize World.drew wq = w5 at *; have k0 := k1; have b3 : Below w5.heap.size w5 w5 := Below.refl _ _
        refine wpAnyH_take (i := 1) (v := ?_) (arr_at rfl) (by kernel_rfl) (by kernel_rfl) (by kernel_rfl) (fun _ _ _ h => h) ?_ (by assumption) ?_
        rotate_left
        · first
          | (refine Or.inr ⟨by rfl, ?_⟩; with_reducible rfl)
          | (refine Or.inl ⟨by rfl, ?_⟩; intro w hSw; (try dsimp only at hSw); go_simp; done)
          | (refine Or.inl ⟨by rfl, ?_⟩; intro w hSw; (try dsimp only at hSw); go_simp; with_reducible rfl)
        try simp only [Act.put, List.setIfInBounds_toArray, List.set_cons_zero, List.set_cons_succ]
        refine wpAnyH_take (i := 3) (v := ?_) (arr_at rfl) (by kernel_rfl) (by kernel_rfl) (by kernel_rfl) (fun _ _ _ h => h) ?_ (by assumption) ?_
        rotate_left
        · first
          | (refine Or.inr ⟨by rfl, ?_⟩; with_reducible rfl)
          | (refine Or.inl ⟨by rfl, ?_⟩; intro w hSw; (try dsimp only at hSw); go_simp; done)
          | (refine Or.inl ⟨by rfl, ?_⟩; intro w hSw; (try dsimp only at hSw); go_simp; with_reducible rfl)
        try simp only [Act.put, List.setIfInBounds_toArray, List.set_cons_zero, List.set_cons_succ]
        refine wpAnyH_ready (rs := [0, 4]) (by kernel_rfl) (by simp) ?_
        refine AllReadyH.cons (arr_at rfl) (fun K hK => ?_) (AllReadyH.cons (arr_at rfl) (fun K hK => ?_) AllReadyH.nil)
        · go_simp
          replace b3 : Below w5.heap.size w5 (w5.alloc (.cells #[] 29)) := b3.alloc b3.size _; replace k1 := k0.below b3 k0.lt; have hO : (w5.alloc (.cells #[] 29)).ownsRow w5.heap.size 29 5 (.slice (some ⟨w5.heap.size, 0, none⟩) 0 0) 0 [] := RO.empty (w := w5) (Nat.le_refl _) rfl
          refine hK.out _ _ ?_ (fun hHeld => ?_)
          · (try dsimp only); exact ⟨k1.cell 0, k1.cell 1, k1.cell 2, k1.cell 3, k1.cell 4⟩
          clear hK K
          try simp only [Act.put, List.setIfInBounds_toArray, List.set_cons_zero, List.set_cons_succ]
          refine wpAnyH_ready (rs := [2, 4]) (by kernel_rfl) (by simp) ?_
          refine AllReadyH.cons (arr_at rfl) (fun K hK => ?_) (AllReadyH.cons (arr_at rfl) (fun K hK => ?_) AllReadyH.nil)
          · refine wp_append_rd _ _ _ 23 rfl w5.heap.size 29 i0 _ 5 40 Try.underlying23 hi hz0 hz1 hz2 rfl (by omega) _ 0 [] rfl hO D l.length d (recCs l) rfl (Rd.below hri b3 (Nat.le_refl _)) (recCs_len l) (recCs_one l) (by unfold maxLen; omega) (by omega) b3.size ?_; intro v1 w6 hO1 hg2 hat; replace b3 := b3.grown hg2 b3.size (fun k hk => (hO.lt k hk).1); replace k1 := k0.below b3 k0.lt; clear hO hg2 hat
            refine hK.out _ _ ?_ (fun hHeld => ?_)
            · (try dsimp only); exact ⟨k1.cell 0, k1.cell 1, k1.cell 2, k1.cell 3, k1.cell 4⟩
            clear hK K
            try simp only [Act.put, List.setIfInBounds_toArray, List.set_cons_zero, List.set_cons_succ]
            refine wpAnyH_ready (rs := [4]) (by kernel_rfl) (by simp) ?_
            refine AllReadyH.cons (arr_at rfl) (fun K hK => ?_) AllReadyH.nil
            go_simp
            replace b3 : Below w5.heap.size w5 (w6.alloc (.cells #[.int .i64 r.at_, .int .i64 r.po, .int .i64 r.ad, .int .i64 r.ep, .bool r.ov] 29)) := b3.alloc b3.size _; replace k1 := k0.below b3 k0.lt; have hL : RR (w6.alloc (.cells #[.int .i64 r.at_, .int .i64 r.po, .int .i64 r.ad, .int .i64 r.ep, .bool r.ov] 29)) (some ⟨w6.heap.size, 0, none⟩) [r] := lit_rec (w := w6) r rfl rfl; replace hO1 := World.ownsRow.alloc hO1 (.cells #[.int .i64 r.at_, .int .i64 r.po, .int .i64 r.ad, .int .i64 r.ep, .bool r.ov] 29)
            refine hK.out _ _ ?_ (fun hHeld => ?_)
            · (try dsimp only); exact ⟨k1.cell 0, k1.cell 1, k1.cell 2, k1.cell 3, k1.cell 4⟩
            clear hK K
            try simp only [Act.put, List.setIfInBounds_toArray, List.set_cons_zero, List.set_cons_succ]
            refine wpAnyH_ready (rs := [5]) (by kernel_rfl) (by simp) ?_
            refine AllReadyH.cons (arr_at rfl) (fun K hK => ?_) AllReadyH.nil
            refine wp_append_rd _ _ _ 23 rfl w5.heap.size 29 i0 _ 5 40 Try.underlying23 hi hz0 hz1 hz2 rfl (by omega) _ _ _ rfl hO1 _ 1 1 (recCs [r]) rfl hL (recCs_len [r]) (recCs_one [r]) (by unfold maxLen; omega) (by omega) b3.size ?_; intro v2 w7 hO2 hg2 hat; replace b3 := b3.grown hg2 b3.size (fun k hk => (hO1.lt k hk).1); replace k1 := k0.below b3 k0.lt; clear hO1 hL hg2 hat
            refine hK.out _ _ ?_ (fun hHeld => ?_)
            · (try dsimp only); exact ⟨k1.cell 0, k1.cell 1, k1.cell 2, k1.cell 3, k1.cell 4⟩
            clear hK K
            try simp only [Act.put, List.setIfInBounds_toArray, List.set_cons_zero, List.set_cons_succ]
            refine wpAnyH_take (i := 6) (v := ?_) (arr_at rfl) (by kernel_rfl) (by kernel_rfl) (by kernel_rfl) (fun _ _ _ h => h) ?_ (by assumption) ?_
            rotate_left
            · first
              | (refine Or.inr ⟨by rfl, ?_⟩; with_reducible rfl)
              | (refine Or.inl ⟨by rfl, ?_⟩; intro w hSw; (try dsimp only at hSw); go_simp; done)
              | (refine Or.inl ⟨by rfl, ?_⟩; intro w hSw; (try dsimp only at hSw); go_simp; with_reducible rfl)
            try simp only [Act.put, List.setIfInBounds_toArray, List.set_cons_zero, List.set_cons_succ]
            refine wpAnyH_done (by kernel_rfl) ?_ _
            have hO3 : RO w7 w5.heap.size v2 (l ++ [r]) := (by unfold RO; rw [recCs_app]; simpa using hO2); clear hO2 k1 k0; replace ho := RO.to ho b3; replace hr := hr.to b3; replace hg := grown_trans hg (grown_of_below b3 (some g)); replace hO3 := RO.low hO3 hs5; clear b3 hs5
            obtain ⟨E, cE, hv2, hE, -, -⟩ := hO3.slice
            rw [List.length_append, List.length_singleton] at hv2
            subst hv2
            go_wp2_with fail
            refine (c_sValidRecords' _ _ _ (l ++ [r]) _ (by simp) (hO3.rr (by simp)) (by omega)).mono ?_
            rintro e w10 ⟨rfl, hb⟩
            replace ho := ho.to hb
            replace hO3 := hO3.to hb
            replace hr := hr.to hb
            replace hg := grown_trans hg (grown_of_below hb (some g))
            clear hb
            cases vRec (l ++ [r])
            · go_wp2_with fail
              refine (c_pick _ _ _ _ hr (by omega)).mono ?_
              rintro e w11 ⟨y2, rfl, a2, b2, -, hr, h⟩
              replace b2 := b2 (by omega)
              replace hg := grown_trans hg h
              have ho := ho.kept h hgl
              clear h
              go_wp2
              go_roundw
              case rel =>
                refine ⟨k - 1, _, l, t + y2, by omega, ?_, rfl, by omega, by omega, by first | omega | (simp; omega), ?_, ho, hr, hg⟩
                · rw [Int.natCast_sub (by omega)]; rfl
                · omega
              case measure => simp [intOf]; omega
            · go_wp2_with fail
              refine (c_pick _ _ _ _ hr (by omega)).mono ?_
              rintro e w11 ⟨y2, rfl, a2, b2, -, hr, h⟩
              replace b2 := b2 (by omega)
              replace hg := grown_trans hg h
              have ho := hO3.kept h hgl
              clear h
              go_wp2
              go_roundw
              case rel =>
                refine ⟨k - 1, _, l ++ [r], t + y2, by omega, ?_, rfl, by omega, by omega, by first | omega | (simp; omega), ?_, ho, hr, hg⟩
                · rw [Int.natCast_sub (by omega)]; rfl
                · omega
              case measure => simp [intOf]; omega
          · go_simp
            replace b3 : Below w5.heap.size w5 ((w5.alloc (.cells #[] 29)).alloc (.cells #[.int .i64 r.at_, .int .i64 r.po, .int .i64 r.ad, .int .i64 r.ep, .bool r.ov] 29)) := b3.alloc b3.size _; replace k1 := k0.below b3 k0.lt; have hL : RR ((w5.alloc (.cells #[] 29)).alloc (.cells #[.int .i64 r.at_, .int .i64 r.po, .int .i64 r.ad, .int .i64 r.ep, .bool r.ov] 29)) (some ⟨w5.heap.size + 1, 0, none⟩) [r] := lit_rec (w := w5.alloc (.cells #[] 29)) r (by simp) rfl; replace hO := World.ownsRow.alloc hO (.cells #[.int .i64 r.at_, .int .i64 r.po, .int .i64 r.ad, .int .i64 r.ep, .bool r.ov] 29)
            refine hK.out _ _ ?_ (fun hHeld => ?_)
            · (try dsimp only); exact ⟨k1.cell 0, k1.cell 1, k1.cell 2, k1.cell 3, k1.cell 4⟩
            clear hK K
            try simp only [Act.put, List.setIfInBounds_toArray, List.set_cons_zero, List.set_cons_succ]
            refine wpAnyH_ready (rs := [2]) (by kernel_rfl) (by simp) ?_
            refine AllReadyH.cons (arr_at rfl) (fun K hK => ?_) AllReadyH.nil
            refine wp_append_rd _ _ _ 23 rfl w5.heap.size 29 i0 _ 5 40 Try.underlying23 hi hz0 hz1 hz2 rfl (by omega) _ 0 [] rfl hO D l.length d (recCs l) rfl (Rd.below hri b3 (Nat.le_refl _)) (recCs_len l) (recCs_one l) (by unfold maxLen; omega) (by omega) b3.size ?_; intro v1 w6 hO1 hg2 hat; replace b3 := b3.grown hg2 b3.size (fun k hk => (hO.lt k hk).1); replace k1 := k0.below b3 k0.lt; replace hL := RR.grown hL hg2 (fun a ha => by cases ha; simp); clear hO hg2 hat
            refine hK.out _ _ ?_ (fun hHeld => ?_)
            · (try dsimp only); exact ⟨k1.cell 0, k1.cell 1, k1.cell 2, k1.cell 3, k1.cell 4⟩
            clear hK K
            try simp only [Act.put, List.setIfInBounds_toArray, List.set_cons_zero, List.set_cons_succ]
            refine wpAnyH_ready (rs := [5]) (by kernel_rfl) (by simp) ?_
            refine AllReadyH.cons (arr_at rfl) (fun K hK => ?_) AllReadyH.nil
            refine wp_append_rd _ _ _ 23 rfl w5.heap.size 29 i0 _ 5 40 Try.underlying23 hi hz0 hz1 hz2 rfl (by omega) _ _ _ rfl hO1 _ 1 1 (recCs [r]) rfl hL (recCs_len [r]) (recCs_one [r]) (by unfold maxLen; omega) (by omega) b3.size ?_; intro v2 w7 hO2 hg2 hat; replace b3 := b3.grown hg2 b3.size (fun k hk => (hO1.lt k hk).1); replace k1 := k0.below b3 k0.lt; clear hO1 hL hg2 hat
            refine hK.out _ _ ?_ (fun hHeld => ?_)
            · (try dsimp only); exact ⟨k1.cell 0, k1.cell 1, k1.cell 2, k1.cell 3, k1.cell 4⟩
            clear hK K
            try simp only [Act.put, List.setIfInBounds_toArray, List.set_cons_zero, List.set_cons_succ]
            refine wpAnyH_take (i := 6) (v := ?_) (arr_at rfl) (by kernel_rfl) (by kernel_rfl) (by kernel_rfl) (fun _ _ _ h => h) ?_ (by assumption) ?_
            rotate_left
            · first
              | (refine Or.inr ⟨by rfl, ?_⟩; with_reducible rfl)
              | (refine Or.inl ⟨by rfl, ?_⟩; intro w hSw; (try dsimp only at hSw); go_simp; done)
              | (refine Or.inl ⟨by rfl, ?_⟩; intro w hSw; (try dsimp only at hSw); go_simp; with_reducible rfl)
            try simp only [Act.put, List.setIfInBounds_toArray, List.set_cons_zero, List.set_cons_succ]
            refine wpAnyH_done (by kernel_rfl) ?_ _
            have hO3 : RO w7 w5.heap.size v2 (l ++ [r]) := (by unfold RO; rw [recCs_app]; simpa using hO2); clear hO2 k1 k0; replace ho := RO.to ho b3; replace hr := hr.to b3; replace hg := grown_trans hg (grown_of_below b3 (some g)); replace hO3 := RO.low hO3 hs5; clear b3 hs5
            obtain ⟨E, cE, hv2, hE, -, -⟩ := hO3.slice
            rw [List.length_append, List.length_singleton] at hv2
            subst hv2
            go_wp2_with fail
            refine (c_sValidRecords' _ _ _ (l ++ [r]) _ (by simp) (hO3.rr (by simp)) (by omega)).mono ?_
            rintro e w10 ⟨rfl, hb⟩
            replace ho := ho.to hb
            replace hO3 := hO3.to hb
            replace hr := hr.to hb
            replace hg := grown_trans hg (grown_of_below hb (some g))
            clear hb
            cases vRec (l ++ [r])
            · go_wp2_with fail
              refine (c_pick _ _ _ _ hr (by omega)).mono ?_
              rintro e w11 ⟨y2, rfl, a2, b2, -, hr, h⟩
              replace b2 := b2 (by omega)
              replace hg := grown_trans hg h
              have ho := ho.kept h hgl
              clear h
              go_wp2
              go_roundw
              case rel =>
                refine ⟨k - 1, _, l, t + y2, by omega, ?_, rfl, by omega, by omega, by first | omega | (simp; omega), ?_, ho, hr, hg⟩
                · rw [Int.natCast_sub (by omega)]; rfl
                · omega
              case measure => simp [intOf]; omega
            · go_wp2_with fail
              refine (c_pick _ _ _ _ hr (by omega)).mono ?_
              rintro e w11 ⟨y2, rfl, a2, b2, -, hr, h⟩
              replace b2 := b2 (by omega)
              replace hg := grown_trans hg h
              have ho := hO3.kept h hgl
              clear h
              go_wp2
              go_roundw
              case rel =>
                refine ⟨k - 1, _, l ++ [r], t + y2, by omega, ?_, rfl, by omega, by omega, by first | omega | (simp; omega), ?_, ho, hr, hg⟩
                · rw [Int.natCast_sub (by omega)]; rfl
                · omega
              case measure => simp [intOf]; omega
        · go_simp
          replace b3 : Below w5.heap.size w5 (w5.alloc (.cells #[.int .i64 r.at_, .int .i64 r.po, .int .i64 r.ad, .int .i64 r.ep, .bool r.ov] 29)) := b3.alloc b3.size _; replace k1 := k0.below b3 k0.lt; have hL : RR (w5.alloc (.cells #[.int .i64 r.at_, .int .i64 r.po, .int .i64 r.ad, .int .i64 r.ep, .bool r.ov] 29)) (some ⟨w5.heap.size, 0, none⟩) [r] := lit_rec (w := w5) r rfl rfl
          refine hK.out _ _ ?_ (fun hHeld => ?_)
          · (try dsimp only); exact ⟨k1.cell 0, k1.cell 1, k1.cell 2, k1.cell 3, k1.cell 4⟩
          clear hK K
          try simp only [Act.put, List.setIfInBounds_toArray, List.set_cons_zero, List.set_cons_succ]
          refine wpAnyH_ready (rs := [0]) (by kernel_rfl) (by simp) ?_
          refine AllReadyH.cons (arr_at rfl) (fun K hK => ?_) AllReadyH.nil
          go_simp
          replace b3 : Below w5.heap.size w5 ((w5.alloc (.cells #[.int .i64 r.at_, .int .i64 r.po, .int .i64 r.ad, .int .i64 r.ep, .bool r.ov] 29)).alloc (.cells #[] 29)) := b3.alloc b3.size _; replace k1 := k0.below b3 k0.lt; have hO : ((w5.alloc (.cells #[.int .i64 r.at_, .int .i64 r.po, .int .i64 r.ad, .int .i64 r.ep, .bool r.ov] 29)).alloc (.cells #[] 29)).ownsRow w5.heap.size 29 5 (.slice (some ⟨w5.heap.size + 1, 0, none⟩) 0 0) 0 [] := RO.empty (w := w5.alloc (.cells #[.int .i64 r.at_, .int .i64 r.po, .int .i64 r.ad, .int .i64 r.ep, .bool r.ov] 29)) (by simp) (by simp); replace hL := hL.alloc (.cells #[] 29)
          refine hK.out _ _ ?_ (fun hHeld => ?_)
          · (try dsimp only); exact ⟨k1.cell 0, k1.cell 1, k1.cell 2, k1.cell 3, k1.cell 4⟩
          clear hK K
          try simp only [Act.put, List.setIfInBounds_toArray, List.set_cons_zero, List.set_cons_succ]
          refine wpAnyH_ready (rs := [2]) (by kernel_rfl) (by simp) ?_
          refine AllReadyH.cons (arr_at rfl) (fun K hK => ?_) AllReadyH.nil
          refine wp_append_rd _ _ _ 23 rfl w5.heap.size 29 i0 _ 5 40 Try.underlying23 hi hz0 hz1 hz2 rfl (by omega) _ 0 [] rfl hO D l.length d (recCs l) rfl (Rd.below hri b3 (Nat.le_refl _)) (recCs_len l) (recCs_one l) (by unfold maxLen; omega) (by omega) b3.size ?_; intro v1 w6 hO1 hg2 hat; replace b3 := b3.grown hg2 b3.size (fun k hk => (hO.lt k hk).1); replace k1 := k0.below b3 k0.lt; replace hL := RR.grown hL hg2 (fun a ha => by cases ha; simp); clear hO hg2 hat
          refine hK.out _ _ ?_ (fun hHeld => ?_)
          · (try dsimp only); exact ⟨k1.cell 0, k1.cell 1, k1.cell 2, k1.cell 3, k1.cell 4⟩
          clear hK K
          try simp only [Act.put, List.setIfInBounds_toArray, List.set_cons_zero, List.set_cons_succ]
          refine wpAnyH_ready (rs := [5]) (by kernel_rfl) (by simp) ?_
          refine AllReadyH.cons (arr_at rfl) (fun K hK => ?_) AllReadyH.nil
          refine wp_append_rd _ _ _ 23 rfl w5.heap.size 29 i0 _ 5 40 Try.underlying23 hi hz0 hz1 hz2 rfl (by omega) _ _ _ rfl hO1 _ 1 1 (recCs [r]) rfl hL (recCs_len [r]) (recCs_one [r]) (by unfold maxLen; omega) (by omega) b3.size ?_; intro v2 w7 hO2 hg2 hat; replace b3 := b3.grown hg2 b3.size (fun k hk => (hO1.lt k hk).1); replace k1 := k0.below b3 k0.lt; clear hO1 hL hg2 hat
          refine hK.out _ _ ?_ (fun hHeld => ?_)
          · (try dsimp only); exact ⟨k1.cell 0, k1.cell 1, k1.cell 2, k1.cell 3, k1.cell 4⟩
          clear hK K
          try simp only [Act.put, List.setIfInBounds_toArray, List.set_cons_zero, List.set_cons_succ]
          refine wpAnyH_take (i := 6) (v := ?_) (arr_at rfl) (by kernel_rfl) (by kernel_rfl) (by kernel_rfl) (fun _ _ _ h => h) ?_ (by assumption) ?_
          rotate_left
          · first
            | (refine Or.inr ⟨by rfl, ?_⟩; with_reducible rfl)
            | (refine Or.inl ⟨by rfl, ?_⟩; intro w hSw; (try dsimp only at hSw); go_simp; done)
            | (refine Or.inl ⟨by rfl, ?_⟩; intro w hSw; (try dsimp only at hSw); go_simp; with_reducible rfl)
          try simp only [Act.put, List.setIfInBounds_toArray, List.set_cons_zero, List.set_cons_succ]
          refine wpAnyH_done (by kernel_rfl) ?_ _
          have hO3 : RO w7 w5.heap.size v2 (l ++ [r]) := (by unfold RO; rw [recCs_app]; simpa using hO2); clear hO2 k1 k0; replace ho := RO.to ho b3; replace hr := hr.to b3; replace hg := grown_trans hg (grown_of_below b3 (some g)); replace hO3 := RO.low hO3 hs5; clear b3 hs5
          obtain ⟨E, cE, hv2, hE, -, -⟩ := hO3.slice
          rw [List.length_append, List.length_singleton] at hv2
          subst hv2
          go_wp2_with fail
          refine (c_sValidRecords' _ _ _ (l ++ [r]) _ (by simp) (hO3.rr (by simp)) (by omega)).mono ?_
          rintro e w10 ⟨rfl, hb⟩
          replace ho := ho.to hb
          replace hO3 := hO3.to hb
          replace hr := hr.to hb
          replace hg := grown_trans hg (grown_of_below hb (some g))
          clear hb
          cases vRec (l ++ [r])
          · go_wp2_with fail
            refine (c_pick _ _ _ _ hr (by omega)).mono ?_
            rintro e w11 ⟨y2, rfl, a2, b2, -, hr, h⟩
            replace b2 := b2 (by omega)
            replace hg := grown_trans hg h
            have ho := ho.kept h hgl
            clear h
            go_wp2
            go_roundw
            case rel =>
              refine ⟨k - 1, _, l, t + y2, by omega, ?_, rfl, by omega, by omega, by first | omega | (simp; omega), ?_, ho, hr, hg⟩
              · rw [Int.natCast_sub (by omega)]; rfl
              · omega
            case measure => simp [intOf]; omega
          · go_wp2_with fail
            refine (c_pick _ _ _ _ hr (by omega)).mono ?_
            rintro e w11 ⟨y2, rfl, a2, b2, -, hr, h⟩
            replace b2 := b2 (by omega)
            replace hg := grown_trans hg h
            have ho := hO3.kept h hgl
            clear h
            go_wp2
            go_roundw
            case rel =>
              refine ⟨k - 1, _, l ++ [r], t + y2, by omega, ?_, rfl, by omega, by omega, by first | omega | (simp; omega), ?_, ho, hr, hg⟩
              · rw [Int.natCast_sub (by omega)]; rfl
              · omega
            case measure => simp [intOf]; omega
    · by_cases hz : 0 < l.length
      · go_wp2_with fail
        refine (c_pick _ _ _ _ hr (by omega)).mono ?_
        rintro e w3 ⟨y1, rfl, a1, b1, -, hr, h⟩
        replace hg := grown_trans hg h
        replace ho := ho.kept h hgl
        clear h b1
        by_cases hy : y1 = 0
        · subst hy
          go_wp2_with fail
          refine (c_pick _ _ _ _ hr (by omega)).mono ?_
          rintro e w4 ⟨j0, rfl, a2, b2, -, hr, h⟩
          replace b2 := b2 (by omega)
          replace hg := grown_trans hg h
          replace ho := ho.kept h hgl
          clear h
          obtain ⟨j, rfl⟩ := Int.eq_ofNat_of_zero_le a2
          go_wp2_with fail
          refine (c_one _ _ _ _ [0, 10001] _ (hr.alloc _) (by omega) (lit_ints _ rfl rfl) (by simp) (by simp) (lit_far hr rfl)).mono ?_
          rintro e w5 ⟨xa, rfl, -, hr, h⟩
          replace hg := grown_trans (grown_alloc hg _) h
          replace ho := (ho.alloc _).kept h hgl
          clear h
          go_wp2_with fail
          refine (c_one _ _ _ _ [1000, 1008] _ (hr.alloc _) (by omega) (lit_ints _ rfl rfl) (by simp) (by simp) (lit_far hr rfl)).mono ?_
          rintro e w6 ⟨xb, rfl, -, hr, h⟩
          replace hg := grown_trans (grown_alloc hg _) h
          replace ho := (ho.alloc _).kept h hgl
          clear h
          go_wp2_with fail
          refine (c_pick _ _ _ _ hr (by omega)).mono ?_
          rintro e w7 ⟨xc, rfl, -, -, -, hr, h⟩
          replace hg := grown_trans hg h
          replace ho := ho.kept h hgl
          clear h
          generalize hov : (xc == 0) = ov
          have hrr : RR w7 D l := ho.rr rfl
          rcases ho.2 with ⟨_, h0⟩ | ⟨gg, cap, cur, hv, hgb, hh, -, -, -, ht⟩
          · have := recCs_len l
            rw [h0] at this
            simp at this
            omega
          injection hv with e1 e2 e3
          subst e1 e3
          have kb : Blk w7 gg 29 cur := hh
          have hcur := RR.blk kb hrr
          clear hh ht
          have hs : ∀ i, i < 5 → ∃ v, cur[j * 5 + i]? = some v := fun i hi => ⟨_, (hcur _ (by omega)).trans (List.getElem?_eq_getElem (by rw [recCs_len]; omega))⟩
          obtain ⟨v0, e0⟩ := hs 0 (by omega)
          obtain ⟨v1, e1⟩ := hs 1 (by omega)
          obtain ⟨v2, e2⟩ := hs 2 (by omega)
          obtain ⟨v3, e3⟩ := hs 3 (by omega)
          obtain ⟨v4, e4⟩ := hs 4 (by omega)
          have y0 : w7.cell? ⟨gg, j * 5, none⟩ = some v0 := (kb.cell _).trans e0
          have y1 : w7.cell? ⟨gg, j * 5 + 1, none⟩ = some v1 := (kb.cell _).trans e1
          have y2 : w7.cell? ⟨gg, j * 5 + 2, none⟩ = some v2 := (kb.cell _).trans e2
          have y3 : w7.cell? ⟨gg, j * 5 + 3, none⟩ = some v3 := (kb.cell _).trans e3
          have y4 : w7.cell? ⟨gg, j * 5 + 4, none⟩ = some v4 := (kb.cell _).trans e4
          have f0 := kb.frozen (j * 5)
          have f1 := kb.frozen (j * 5 + 1)
          have f2 := kb.frozen (j * 5 + 2)
          have f3 := kb.frozen (j * 5 + 3)
          have f4 := kb.frozen (j * 5 + 4)
          clear e0 e1 e2 e3 e4 hs
          have hjl : j < l.length := by omega
          have F := rec_sets hcur ⟨xa, xb, 0, 0, ov⟩ hjl
          have KB := ((((kb.set_ (j * 5) (.int .i64 xa)).set_ (j * 5 + 1) (.int .i64 xb)).set_ (j * 5 + 2) (.int .i64 0)).set_ (j * 5 + 3) (.int .i64 0)).set_ (j * 5 + 4) (.bool ov)
          have GB := grown_set (grown_set (grown_set (grown_set (grown_set (k := j * 5) (v := .int .i64 xa) hg hgb) (k := j * 5 + 1) (v := .int .i64 xb) hgb) (k := j * 5 + 2) (v := .int .i64 0) hgb) (k := j * 5 + 3) (v := .int .i64 0) hgb) (k := j * 5 + 4) (v := .bool ov) hgb
          have RB := ((((hr.set (k := j * 5) (v := .int .i64 xa) (r := gg) (by omega)).set (k := j * 5 + 1) (v := .int .i64 xb) (r := gg) (by omega)).set (k := j * 5 + 2) (v := .int .i64 0) (r := gg) (by omega)).set (k := j * 5 + 3) (v := .int .i64 0) (r := gg) (by omega)).set (k := j * 5 + 4) (v := .bool ov) (r := gg) (by omega)
          replace F := Lib.hid F
          replace KB := Lib.hid KB
          replace GB := Lib.hid GB
          replace RB := Lib.hid RB
          replace hcur := Lib.hid hcur
          go_wp2
          go_ret
          exact ⟨some ⟨gg, 0, none⟩, _, _, l.set j ⟨xa, xb, 0, 0, ov⟩, _, rfl, by simp, hd, RR.of_blk KB.out F.out, by omega, RB.out, by omega, GB.out, fun a ha => by cases ha; exact hgb⟩
        · have hy' : (y1 == 0) = false := by rw [beq_eq_false_iff_ne]; exact hy
          go_wp2
          go_ret
          exact ⟨D, _, d, l, _, rfl, rfl, hd, ho.rr rfl, by omega, hr, by omega, hg, fun a ha => (hD a ha).1⟩
      · have hz' : l.length = 0 := by omega
        go_wp2
        go_ret
        exact ⟨D, _, d, l, _, rfl, rfl, hd, ho.rr rfl, by omega, hr, by omega, hg, fun a ha => (hD a ha).1⟩
end Go.Proofs.Ytaceadddggkkmaa
