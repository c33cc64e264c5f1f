/- Contract of FormatTable, the program's. -/
import Derived.Test.YthlaldikdlljfaaDoorS5
namespace Go.Proofs.YthlaldikdlljfaaDoor
open Go.RowKit

/-- A row of the call's own that reads as strings. -/
def SO (w : World) (base : Nat) (v : Value) (xs : List ByteArray) : Prop := w.ownsRow base 9 1 v xs.length (xs.map Value.string)
theorem SO.to {w w' : World} {base : Nat} {v : Value} {xs : List ByteArray} (h : SO w base v xs) (hb : Below w.heap.size w w') : SO w' base v xs := own_to h hb (Nat.le_refl _)
theorem SO.alloc {w : World} {base : Nat} {v : Value} {xs : List ByteArray} (h : SO w base v xs) (o : Obj) : SO (w.alloc o) base v xs := World.ownsRow.alloc h o
theorem lit_str (w : World) (s : ByteArray) (t : TypeId) : Rd (w.alloc (.cells #[.string s] t)) (some ⟨w.heap.size, 0, none⟩) [.string s] := by
  have := (Blk.new w t #[.string s]).rd
  simpa using this
theorem str_info : (Tryd.prog.info? 9).map (fun i => (i.zero, i.size, i.bytes)) = some (some (.string ⟨#[]⟩), 1, 16) := by kernel_rfl

set_option maxHeartbeats 3200000 in
theorem c_iFormatTable (A : Option Addr) (n c : Nat) (l : List Mpg) (w : World) (hn : l.length = n) (hc : n ≤ c) (h : TM w A l) (hl : n ≤ 1099511627776) (hE : TabE w) :
    Calls Tryd.prog 27 #[.slice A n c] w fun e w' => e = .returned (.string (tabT l)) ∧ Below w.heap.size w w' := by
  have HN := Lib.hid hn
  have HA : Hid (∀ W, Below w.heap.size w W → TM W A l) := fun W b => h.to b
  have HE : Hid (∀ W, Below w.heap.size w W → TabE W) := fun W b => hE.to b
  clear hn hE
  go_enter Tryd.func27, Tryd.ntmps27
  go_wp2_with fail
  refine (c_iValidTable _ _ _ l _ HN.out hc h hl).mono ?_
  rintro e w1 ⟨rfl, B⟩
  clear h
  cases hv : vTab l
  · have HV : Hid (tabT l = ⟨#[]⟩) := by unfold tabT; rw [hv]; rfl
    clear hv
    go_wp2
    go_ret
    exact ⟨by rw [HV.out]; rfl, B⟩
  have HV := Lib.hid hv
  have n8 : n ≤ 8 := by rw [← HN.out]; exact (vTab_iff.1 hv).2
  clear hv
  have ho : SO w1 w.heap.size (.slice none 0 0) [] := ⟨by simp, .inl ⟨rfl, rfl⟩⟩
  go_wp2
  go_loopw [3, 11] (fun v i wr => ∃ (k : Nat) (v' : Value), k ≤ n ∧ i = .int .i64 k ∧ v' = v ∧ Hid (SO wr w.heap.size v' ((l.take k).map partB)) ∧ Hid (Below w.heap.size w wr)) (fun _ i _ => n - (intOf i).toNat)
  case atStart => exact ⟨0, _, Nat.zero_le _, rfl, rfl, ho, B⟩
  case round =>
    clear B ho
    obtain ⟨k, v', hk, rfl, rfl, HO, HB⟩ := hrel
    by_cases hlt : k < n
    · have hkl : Hid (k < l.length) := Lib.hid (by rw [HN.out]; exact hlt)
      obtain ⟨b, off, rfl, hb, c0, c1, c2, c3⟩ := (HA.out _ HB.out).get hkl.out
      obtain ⟨p1, p2, p3⟩ := piece_size HV.out hkl.out
      have hok := okM_iff.1 (tab_at HV.out hkl.out).1
      have hb1 : 0 ≤ (mn l k).po ∧ (mn l k).po ≤ 1099511627776 := by omega
      have hb2 : 0 ≤ (mn l k).la ∧ (mn l k).la ≤ 1099511627776 := by omega
      have i1 : (0 : Int) ≤ k ∧ (k : Int) < n := by omega
      have ht : (l.take (k + 1)).map partB = (l.take k).map partB ++ [partB (mn l k)] := by
        rw [List.take_add_one, show l[k]? = some (mn l k) by simp [mn, hkl.out]]
        simp
      have hlen : ((l.take k).map partB).length ≤ 8 := by rw [List.length_map, List.length_take]; omega
      have hP : partB (mn l k) = fmtEnd (mn l k).ad (mn l k).ep ++ ⟨#[32]⟩ ++ dec (mn l k).po ++ ⟨#[32]⟩ ++ dec (mn l k).la := rfl
      generalize hF : fmtEnd (mn l k).ad (mn l k).ep = F at p1 hP
      generalize hD : dec (mn l k).po = D at p2 hP
      generalize hL : dec (mn l k).la = L at p3 hP
      have HF := Lib.hid hF
      have HD := Lib.hid hD
      have HL := Lib.hid hL
      have HP := Lib.hid hP
      have HT := Lib.hid ht
      clear hF hD hL hok hP ht
      have ho : SO (wr.alloc (.cells #[.int .i64 (mn l k).ad, .int .i64 (mn l k).ep, .int .i64 (mn l k).po, .int .i64 (mn l k).la] 48)) w.heap.size v' ((l.take k).map partB) := HO.out.alloc _
      have hne : ∀ j, v'.ownBlock = some j → j ≠ wr.heap.size := fun j hj => by have := (World.ownsRow.lt HO.out j hj).2; omega
      have k0 := Blk.new wr 48 #[.int .i64 (mn l k).ad, .int .i64 (mn l k).ep, .int .i64 (mn l k).po, .int .i64 (mn l k).la]
      have B := HB.out.alloc HB.out.size (.cells #[.int .i64 (mn l k).ad, .int .i64 (mn l k).ep, .int .i64 (mn l k).po, .int .i64 (mn l k).la] 48)
      have hE := HE.out _ B
      have hs1 : ¬ (9223372036854775807 < F.size + 1) := by omega
      have hs2 : ¬ (9223372036854775807 < F.size + 1 + D.size) := by omega
      have hs3 : ¬ (9223372036854775807 < F.size + 1 + D.size + 1) := by omega
      have hs4 : ¬ (9223372036854775807 < F.size + 1 + D.size + 1 + L.size) := by omega
      go_wp2_with fail
      clear c0 c1 c2 c3
      refine wp_region_held_drew (S := (fun w' => w'.cell? ⟨wr.heap.size, 0, none⟩ = some (.int .i64 (mn l k).ad) ∧ w'.cell? ⟨wr.heap.size, 1, none⟩ = some (.int .i64 (mn l k).ep) ∧ w'.cell? ⟨wr.heap.size, 2, none⟩ = some (.int .i64 (mn l k).po) ∧ w'.cell? ⟨wr.heap.size, 3, none⟩ = some (.int .i64 (mn l k).la))) (by kernel_rfl) ?_ (fun hHeld => ?_)
      · (try dsimp only); exact ⟨k0.cell 0, k0.cell 1, k0.cell 2, k0.cell 3⟩
      replace k0 : Blk (wr.alloc (.cells #[.int .i64 (mn l k).ad, .int .i64 (mn l k).ep, .int .i64 (mn l k).po, .int .i64 (mn l k).la] 48)).drew wr.heap.size 48 #[.int .i64 (mn l k).ad, .int .i64 (mn l k).ep, .int .i64 (mn l k).po, .int .i64 (mn l k).la] := k0; replace B : Below w.heap.size w (wr.alloc (.cells #[.int .i64 (mn l k).ad, .int .i64 (mn l k).ep, .int .i64 (mn l k).po, .int .i64 (mn l k).la] 48)).drew := Bl.drewN B 1; replace ho : SO (wr.alloc (.cells #[.int .i64 (mn l k).ad, .int .i64 (mn l k).ep, .int .i64 (mn l k).po, .int .i64 (mn l k).la] 48)).drew w.heap.size v' ((l.take k).map partB) := ho; replace hE : TabE (wr.alloc (.cells #[.int .i64 (mn l k).ad, .int .i64 (mn l k).ep, .int .i64 (mn l k).po, .int .i64 (mn l k).la] 48)).drew := hE; generalize World.drew _ = wc at *
      refine wpAnyH_take (i := 0) (v := ?_) (arr_at rfl) (by kernel_rfl) (by kernel_rfl) (by kernel_rfl) (fun _ _ _ h => h) ?_ (by assumption) ?_
      rotate_left
      · first
        | (refine Or.inr ⟨by rfl, ?_⟩; with_reducible rfl)
        | (refine Or.inl ⟨by rfl, ?_⟩; intro w hSw; (try dsimp only at hSw); go_simp; done)
        | (refine Or.inl ⟨by rfl, ?_⟩; intro w hSw; (try dsimp only at hSw); go_simp; with_reducible rfl)
      try simp only [Act.put, List.setIfInBounds_toArray, List.set_cons_zero, List.set_cons_succ]
      refine wpAnyH_take (i := 1) (v := ?_) (arr_at rfl) (by kernel_rfl) (by kernel_rfl) (by kernel_rfl) (fun _ _ _ h => h) ?_ (by assumption) ?_
      rotate_left
      · first
        | (refine Or.inr ⟨by rfl, ?_⟩; with_reducible rfl)
        | (refine Or.inl ⟨by rfl, ?_⟩; intro w hSw; (try dsimp only at hSw); go_simp; done)
        | (refine Or.inl ⟨by rfl, ?_⟩; intro w hSw; (try dsimp only at hSw); go_simp; with_reducible rfl)
      try simp only [Act.put, List.setIfInBounds_toArray, List.set_cons_zero, List.set_cons_succ]
      refine wpAnyH_take (i := 2) (v := ?_) (arr_at rfl) (by kernel_rfl) (by kernel_rfl) (by kernel_rfl) (fun _ _ _ h => h) ?_ (by assumption) ?_
      rotate_left
      · first
        | (refine Or.inr ⟨by rfl, ?_⟩; with_reducible rfl)
        | (refine Or.inl ⟨by rfl, ?_⟩; intro w hSw; (try dsimp only at hSw); go_simp; done)
        | (refine Or.inl ⟨by rfl, ?_⟩; intro w hSw; (try dsimp only at hSw); go_simp; with_reducible rfl)
      try simp only [Act.put, List.setIfInBounds_toArray, List.set_cons_zero, List.set_cons_succ]
      refine wpAnyH_take (i := 5) (v := ?_) (arr_at rfl) (by kernel_rfl) (by kernel_rfl) (by kernel_rfl) (fun _ _ _ h => h) ?_ (by assumption) ?_
      rotate_left
      · first
        | (refine Or.inr ⟨by rfl, ?_⟩; with_reducible rfl)
        | (refine Or.inl ⟨by rfl, ?_⟩; intro w hSw; (try dsimp only at hSw); go_simp; done)
        | (refine Or.inl ⟨by rfl, ?_⟩; intro w hSw; (try dsimp only at hSw); go_simp; with_reducible rfl)
      try simp only [Act.put, List.setIfInBounds_toArray, List.set_cons_zero, List.set_cons_succ]
      refine wpAnyH_take (i := 6) (v := ?_) (arr_at rfl) (by kernel_rfl) (by kernel_rfl) (by kernel_rfl) (fun _ _ _ h => h) ?_ (by assumption) ?_
      rotate_left
      · first
        | (refine Or.inr ⟨by rfl, ?_⟩; with_reducible rfl)
        | (refine Or.inl ⟨by rfl, ?_⟩; intro w hSw; (try dsimp only at hSw); go_simp; done)
        | (refine Or.inl ⟨by rfl, ?_⟩; intro w hSw; (try dsimp only at hSw); go_simp; with_reducible rfl)
      try simp only [Act.put, List.setIfInBounds_toArray, List.set_cons_zero, List.set_cons_succ]
      refine wpAnyH_take (i := 10) (v := ?_) (arr_at rfl) (by kernel_rfl) (by kernel_rfl) (by kernel_rfl) (fun _ _ _ h => h) ?_ (by assumption) ?_
      rotate_left
      · first
        | (refine Or.inr ⟨by rfl, ?_⟩; with_reducible rfl)
        | (refine Or.inl ⟨by rfl, ?_⟩; intro w hSw; (try dsimp only at hSw); go_simp; done)
        | (refine Or.inl ⟨by rfl, ?_⟩; intro w hSw; (try dsimp only at hSw); go_simp; with_reducible rfl)
      try simp only [Act.put, List.setIfInBounds_toArray, List.set_cons_zero, List.set_cons_succ]
      refine wpAnyH_take (i := 11) (v := ?_) (arr_at rfl) (by kernel_rfl) (by kernel_rfl) (by kernel_rfl) (fun _ _ _ h => h) ?_ (by assumption) ?_
      rotate_left
      · first
        | (refine Or.inr ⟨by rfl, ?_⟩; with_reducible rfl)
        | (refine Or.inl ⟨by rfl, ?_⟩; intro w hSw; (try dsimp only at hSw); go_simp; done)
        | (refine Or.inl ⟨by rfl, ?_⟩; intro w hSw; (try dsimp only at hSw); go_simp; with_reducible rfl)
      try simp only [Act.put, List.setIfInBounds_toArray, List.set_cons_zero, List.set_cons_succ]
      refine wpAnyH_ready (rs := [3]) (by kernel_rfl) (by simp) ?_
      refine AllReadyH.cons (arr_at rfl) (fun K hK => ?_) AllReadyH.nil
      go_simp
      go_at_call 18; refine (c_iFormatEnd _ _ _ hE).mono ?_; rw [HF.out]; rintro e wd ⟨rfl, hq⟩; replace k0 := k0.to hq; replace ho := SO.to ho hq; replace hE := hE.to hq; replace B := Bl.then B hq; clear hq
      refine hK.out _ _ ?_ (fun hHeld => ?_)
      · (try dsimp only); exact ⟨k0.cell 0, k0.cell 1, k0.cell 2, k0.cell 3⟩
      clear hK K
      try simp only [Act.put, List.setIfInBounds_toArray, List.set_cons_zero, List.set_cons_succ]
      refine wpAnyH_take (i := 4) (v := ?_) (arr_at rfl) (by kernel_rfl) (by kernel_rfl) (by kernel_rfl) (fun _ _ _ h => h) ?_ (by assumption) ?_
      rotate_left
      · first
        | (refine Or.inr ⟨by rfl, ?_⟩; with_reducible rfl)
        | (refine Or.inl ⟨by rfl, ?_⟩; intro w hSw; (try dsimp only at hSw); go_simp; done)
        | (refine Or.inl ⟨by rfl, ?_⟩; intro w hSw; (try dsimp only at hSw); go_simp; with_reducible rfl)
      try simp only [Act.put, List.setIfInBounds_toArray, List.set_cons_zero, List.set_cons_succ]
      refine wpAnyH_ready (rs := [7]) (by kernel_rfl) (by simp) ?_
      refine AllReadyH.cons (arr_at rfl) (fun K hK => ?_) AllReadyH.nil
      go_simp
      go_at_call 46; refine (c_Itoa _ _ hb1.1 (by omega) hE).mono ?_; rw [HD.out]; rintro e we ⟨rfl, hq⟩; replace k0 := k0.to hq; replace ho := SO.to ho hq; replace hE := hE.to hq; replace B := Bl.then B hq; clear hq
      refine hK.out _ _ ?_ (fun hHeld => ?_)
      · (try dsimp only); exact ⟨k0.cell 0, k0.cell 1, k0.cell 2, k0.cell 3⟩
      clear hK K
      try simp only [Act.put, List.setIfInBounds_toArray, List.set_cons_zero, List.set_cons_succ]
      refine wpAnyH_take (i := 8) (v := ?_) (arr_at rfl) (by kernel_rfl) (by kernel_rfl) (by kernel_rfl) (fun _ _ _ h => h) ?_ (by assumption) ?_
      rotate_left
      · first
        | (refine Or.inr ⟨by rfl, ?_⟩; with_reducible rfl)
        | (refine Or.inl ⟨by rfl, ?_⟩; intro w hSw; (try dsimp only at hSw); go_simp; done)
        | (refine Or.inl ⟨by rfl, ?_⟩; intro w hSw; (try dsimp only at hSw); go_simp; with_reducible rfl)
      try simp only [Act.put, List.setIfInBounds_toArray, List.set_cons_zero, List.set_cons_succ]
      refine wpAnyH_take (i := 9) (v := ?_) (arr_at rfl) (by kernel_rfl) (by kernel_rfl) (by kernel_rfl) (fun _ _ _ h => h) ?_ (by assumption) ?_
      rotate_left
      · first
        | (refine Or.inr ⟨by rfl, ?_⟩; with_reducible rfl)
        | (refine Or.inl ⟨by rfl, ?_⟩; intro w hSw; (try dsimp only at hSw); go_simp; done)
        | (refine Or.inl ⟨by rfl, ?_⟩; intro w hSw; (try dsimp only at hSw); go_simp; with_reducible rfl)
      try simp only [Act.put, List.setIfInBounds_toArray, List.set_cons_zero, List.set_cons_succ]
      refine wpAnyH_ready (rs := [12]) (by kernel_rfl) (by simp) ?_
      refine AllReadyH.cons (arr_at rfl) (fun K hK => ?_) AllReadyH.nil
      go_simp
      go_at_call 46; refine (c_Itoa _ _ hb2.1 (by omega) hE).mono ?_; rw [HL.out]; rintro e wf ⟨rfl, hq⟩; replace k0 := k0.to hq; replace ho := SO.to ho hq; replace hE := hE.to hq; replace B := Bl.then B hq; clear hq
      refine hK.out _ _ ?_ (fun hHeld => ?_)
      · (try dsimp only); exact ⟨k0.cell 0, k0.cell 1, k0.cell 2, k0.cell 3⟩
      clear hK K
      try simp only [Act.put, List.setIfInBounds_toArray, List.set_cons_zero, List.set_cons_succ]
      refine wpAnyH_take (i := 13) (v := ?_) (arr_at rfl) (by kernel_rfl) (by kernel_rfl) (by kernel_rfl) (fun _ _ _ h => h) ?_ (by assumption) ?_
      rotate_left
      · first
        | (refine Or.inr ⟨by rfl, ?_⟩; with_reducible rfl)
        | (refine Or.inl ⟨by rfl, ?_⟩; intro w hSw; (try dsimp only at hSw); go_simp; done)
        | (refine Or.inl ⟨by rfl, ?_⟩; intro w hSw; (try dsimp only at hSw); go_simp; with_reducible rfl)
      try simp only [Act.put, List.setIfInBounds_toArray, List.set_cons_zero, List.set_cons_succ]
      refine wpAnyH_ready (rs := [14]) (by kernel_rfl) (by simp) ?_
      refine AllReadyH.cons (arr_at rfl) (fun K hK => ?_) AllReadyH.nil
      go_simp
      have hL : Rd (wf.alloc (.cells #[.string (F ++ ({ data := #[32] } : ByteArray) ++ D ++ ({ data := #[32] } : ByteArray) ++ L)] 9)) (some ⟨wf.heap.size, 0, none⟩) [.string (F ++ ({ data := #[32] } : ByteArray) ++ D ++ ({ data := #[32] } : ByteArray) ++ L)] := lit_str wf (F ++ ({ data := #[32] } : ByteArray) ++ D ++ ({ data := #[32] } : ByteArray) ++ L) _; have hoR : (wf.alloc (.cells #[.string (F ++ ({ data := #[32] } : ByteArray) ++ D ++ ({ data := #[32] } : ByteArray) ++ L)] 9)).ownsRow w.heap.size 9 1 v' ((l.take k).map partB).length (((l.take k).map partB).map Value.string) := World.ownsRow.alloc ho _; replace B := B.alloc B.size (.cells #[.string (F ++ ({ data := #[32] } : ByteArray) ++ D ++ ({ data := #[32] } : ByteArray) ++ L)] 9); replace k0 := k0.alloc (.cells #[.string (F ++ ({ data := #[32] } : ByteArray) ++ D ++ ({ data := #[32] } : ByteArray) ++ L)] 9); have hsb := B.size
      refine hK.out _ _ ?_ (fun hHeld => ?_)
      · (try dsimp only); exact ⟨k0.cell 0, k0.cell 1, k0.cell 2, k0.cell 3⟩
      clear hK K
      try simp only [Act.put, List.setIfInBounds_toArray, List.set_cons_zero, List.set_cons_succ]
      refine wpAnyH_ready (rs := [15]) (by kernel_rfl) (by simp) ?_
      refine AllReadyH.cons (arr_at rfl) (fun K hK => ?_) AllReadyH.nil
      obtain ⟨i0, hi, hz0, hz1, hz2⟩ := info_parts str_info; refine wp_append_rd _ _ _ 72 rfl w.heap.size 9 i0 _ 1 16 Tryd.underlying72 hi hz0 hz1 hz2 rfl (by omega) _ ((l.take k).map partB).length (((l.take k).map partB).map Value.string) rfl hoR _ 1 1 [.string (F ++ ({ data := #[32] } : ByteArray) ++ D ++ ({ data := #[32] } : ByteArray) ++ L)] rfl hL rfl (by intro u hu; obtain rfl := List.mem_singleton.1 hu; rfl) (by unfold maxLen; omega) (by omega) hsb ?_; intro v1 w6 ho6 hg6 hat6; replace B := B.grown hg6 hsb (fun j hj => (World.ownsRow.lt hoR j hj).1); replace k0 := k0.grown hg6 (fun e => hne _ e.symm rfl); clear hi hz0 hz1 hz2 hat6 hg6 hL hoR ho
      refine hK.out _ _ ?_ (fun hHeld => ?_)
      · (try dsimp only); exact ⟨k0.cell 0, k0.cell 1, k0.cell 2, k0.cell 3⟩
      clear hK K
      try simp only [Act.put, List.setIfInBounds_toArray, List.set_cons_zero, List.set_cons_succ]
      refine wpAnyH_take (i := 16) (v := ?_) (arr_at rfl) (by kernel_rfl) (by kernel_rfl) (by kernel_rfl) (fun _ _ _ h => h) ?_ (by assumption) ?_
      rotate_left
      · first
        | (refine Or.inr ⟨by rfl, ?_⟩; with_reducible rfl)
        | (refine Or.inl ⟨by rfl, ?_⟩; intro w hSw; (try dsimp only at hSw); go_simp; done)
        | (refine Or.inl ⟨by rfl, ?_⟩; intro w hSw; (try dsimp only at hSw); go_simp; with_reducible rfl)
      try simp only [Act.put, List.setIfInBounds_toArray, List.set_cons_zero, List.set_cons_succ]
      refine wpAnyH_done (by kernel_rfl) ?_ _
      go_wp2
      go_roundw
      case rel =>
        refine ⟨k + 1, v1, by omega, by go_num, rfl, ?_, B⟩
        rw [HT.out, HP.out]
        show SO _ _ _ _
        unfold SO
        rw [List.length_append, List.map_append]
        exact ho6
      case measure => simp [intOf]; omega
    · obtain rfl : k = n := by omega
      have hz := tabL_len HV.out
      have hlen : (l.map partB).length = k := by rw [List.length_map]; exact HN.out
      have ho := HO.out
      have B := HB.out
      rw [show l.take k = l by rw [← HN.out]; exact List.take_length] at ho
      have hres : (⟨(Lib.join ((l.map partB).map (·.data.toList)) (⟨#[59, 32]⟩ : ByteArray).data.toList).toArray⟩ : ByteArray) = tabT l := by
        unfold tabT tabL
        rw [HV.out, if_pos rfl, List.map_map]; rfl
      have HR := Lib.hid hres
      have hjl : (Lib.join ((l.map partB).map (·.data.toList)) (⟨#[59, 32]⟩ : ByteArray).data.toList).length ≤ 140737488355328 := by
        have : (Lib.join ((l.map partB).map (·.data.toList)) (⟨#[59, 32]⟩ : ByteArray).data.toList) = tabL l := by unfold tabL; rw [List.map_map]; rfl
        rw [this]; omega
      unfold SO at ho
      rw [hlen] at ho
      clear hres
      by_cases hk0 : k = 0
      · obtain ⟨E, cE, rfl, -, -, -⟩ := own_slice ho
        have hnil : l = [] := List.eq_nil_of_length_eq_zero (by rw [HN.out, hk0])
        have hT : Hid (tabT l = ⟨#[]⟩) := by rw [hnil]; unfold tabT tabL; rfl
        subst hk0
        clear hlen hjl hz ho hnil
        go_wp2_with fail
        refine (Tryd.strings_Join_none E cE ⟨#[59, 32]⟩ _).mono ?_
        rintro e w' ⟨rfl, rfl⟩
        go_wp2
        go_ret
        exact ⟨by rw [hT.out]; rfl, B⟩
      · obtain ⟨g, cap, rfl, hgb, hgl⟩ := World.ownsRow.form ho (by omega)
        have hcells : ∀ (j : Nat) x, (l.map partB)[j]? = some x → wr.cell? ⟨g, 0 + j, none⟩ = some (.string x) := fun j x hx => by
          rw [Nat.zero_add, World.ownsRow.cellAt ho j (by have := (List.getElem?_eq_some_iff.1 hx).1; rw [hlen] at this; omega), List.getElem?_map, hx]; rfl
        have hcap : k ≤ cap := by obtain ⟨_, _, e, h1, _, _⟩ := own_slice ho; cases e; exact h1
        have J := Lib.hid (Tryd.strings_Join g 0 cap (l.map partB) ⟨#[59, 32]⟩ wr hcells hgl (by omega) (by omega) hjl)
        rw [hlen, HR.out] at J
        clear hcells hjl hz hlen ho hk0
        go_wp2_with fail
        refine J.out.mono ?_
        rintro e w' ⟨rfl, hq⟩
        replace B := Bl.then B hq
        clear hq
        go_wp2
        go_ret
        exact ⟨rfl, B⟩
end Go.Proofs.YthlaldikdlljfaaDoor
