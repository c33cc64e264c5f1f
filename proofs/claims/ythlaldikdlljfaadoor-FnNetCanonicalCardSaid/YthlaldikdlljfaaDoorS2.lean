/- Contracts: texts of addresses, ends and nets. -/
import Derived.Test.YthlaldikdlljfaaDoorS1
namespace Go.Proofs.YthlaldikdlljfaaDoor
open Go.RowKit

def addrT (a : Int) : ByteArray := dec (a / 256) ++ ⟨#[46]⟩ ++ dec (a % 256)
def fmtE (ad ep : Int) : ByteArray := addrT ad ++ ⟨#[58]⟩ ++ dec ep
def fmtN (ba bi : Int) : ByteArray := addrT ba ++ ⟨#[47]⟩ ++ dec bi
def fmtNet (ba bi : Int) : ByteArray := if vNet ba bi then fmtN ba bi else ⟨#[]⟩
def fmtEnd (ad ep : Int) : ByteArray := if inB ad 0 65535 && inB ep 0 65535 then fmtE ad ep else ⟨#[]⟩
theorem c_dec (n : Int) (w : World) (h0 : 0 ≤ n) (h1 : n ≤ 1099511627776) : Calls Tryd.prog 43 #[.int .i64 n] w fun e w' => e = .returned (.string (dec n)) ∧ Below w.heap.size w w' := by
  obtain ⟨k, rfl⟩ := Int.eq_ofNat_of_zero_le h0
  exact c_decimal k w (by omega)
theorem addrT_size {a : Int} (h0 : 0 ≤ a) (h1 : a ≤ 65535) : (addrT a).size ≤ 1000 := by
  have x := dec_size (a / 256)
  have y := dec_size (a % 256)
  unfold addrT
  simp only [ByteArray.size_append]
  show _ + 1 + _ ≤ _
  omega

theorem c_sAddrText (a : Int) (w : World) (h0 : 0 ≤ a) (h1 : a ≤ 65535) : Calls Tryd.prog 42 #[.int .i64 a] w fun e w' => e = .returned (.string (addrT a)) ∧ Below w.heap.size w w' := by
  have x := dec_size (a / 256)
  have y := dec_size (a % 256)
  have hs1 : ¬ (9223372036854775807 < (dec (a / 256)).size + 1) := by omega
  have hs2 : ¬ (9223372036854775807 < (dec (a / 256)).size + 1 + (dec (a % 256)).size) := by omega
  go_enter Tryd.func42, Tryd.ntmps42
  go_wp2_with fail
  refine (c_dec (a / 256) _ (by omega) (by omega)).mono ?_
  rintro e w1 ⟨rfl, hq⟩
  have B := hq
  clear hq
  go_wp2_with fail
  refine (c_dec (a % 256) _ (by omega) (by omega)).mono ?_
  rintro e w2 ⟨rfl, hq⟩
  replace B := Bl.then B hq
  clear hq
  go_wp2
  go_ret
  exact ⟨rfl, B⟩

theorem c_iAddrText (a : Int) (w : World) (h0 : 0 ≤ a) (h1 : a ≤ 65535) (hE : TabE w) : Calls Tryd.prog 45 #[.int .i64 a] w fun e w' => e = .returned (.string (addrT a)) ∧ Below w.heap.size w w' := by
  have x := dec_size (a / 256)
  have y := dec_size (a % 256)
  have hs1 : ¬ (9223372036854775807 < (dec (a / 256)).size + 1) := by omega
  have hs2 : ¬ (9223372036854775807 < (dec (a / 256)).size + 1 + (dec (a % 256)).size) := by omega
  go_enter Tryd.func45, Tryd.ntmps45
  go_wp2_with fail
  refine (c_Itoa (a / 256) _ (by omega) (by omega) hE).mono ?_
  rintro e w1 ⟨rfl, hq⟩
  replace hE := hE.to hq
  have B := hq
  clear hq
  go_wp2_with fail
  refine (c_Itoa (a % 256) _ (by omega) (by omega) hE).mono ?_
  rintro e w2 ⟨rfl, hq⟩
  replace B := Bl.then B hq
  clear hq
  go_wp2
  go_ret
  exact ⟨rfl, B⟩

set_option maxHeartbeats 1600000 in
theorem c_sFormatEnd (ad ep : Int) (w : World) : Calls Tryd.prog 16 #[.agg #[.int .i64 ad, .int .i64 ep]] w fun e w' => e = .returned (.string (fmtEnd ad ep)) ∧ Below w.heap.size w w' := by
  have k0 := Blk.new w 25 #[.int .i64 ad, .int .i64 ep]
  have B : Below w.heap.size w (w.alloc (.cells #[.int .i64 ad, .int .i64 ep] 25)) := (Below.refl _ _).alloc (Nat.le_refl _) _
  go_enter Tryd.func16, Tryd.ntmps16
  go_wp2_with fail
  refine (c_validEnd ad ep _).mono ?_
  rintro e w1 ⟨rfl, hq⟩
  replace k0 := k0.to hq
  replace B := Bl.then B hq
  clear hq
  cases hv : inB ad 0 65535 && inB ep 0 65535
  · have HV : Hid (fmtEnd ad ep = ⟨#[]⟩) := by unfold fmtEnd; rw [hv]; rfl
    clear hv
    go_wp2
    go_ret
    exact ⟨by rw [HV.out]; rfl, B⟩
  · have HV : Hid (fmtEnd ad ep = addrT ad ++ ⟨#[58]⟩ ++ dec ep) := by unfold fmtEnd; rw [hv]; rfl
    simp only [Bool.and_eq_true] at hv
    have a1 := inB_true hv.1
    have a2 := inB_true hv.2
    have x := addrT_size a1.1 a1.2
    have y := dec_size ep
    have hs1 : ¬ (9223372036854775807 < (addrT ad).size + 1) := by omega
    have hs2 : ¬ (9223372036854775807 < (addrT ad).size + 1 + (dec ep).size) := by omega
    clear hv
    go_wp2_with fail
    refine wp_region_held_drew (S := (fun w' => w'.cell? ⟨w.heap.size, 0, none⟩ = some (.int .i64 ad) ∧ w'.cell? ⟨w.heap.size, 1, none⟩ = some (.int .i64 ep))) (by kernel_rfl) ?_ (fun hHeld => ?_)
    · (try dsimp only); (have x := k0.cell 0; have y := k0.cell 1; simp only [List.getElem?_toArray, List.getElem?_cons_zero, List.getElem?_cons_succ] at x y; exact ⟨x, y⟩)
    replace k0 : Blk w1.drew w.heap.size _ _ := k0; replace B : Below w.heap.size w w1.drew := Bl.drewN B 1; generalize World.drew w1 = wc at *
    refine wpAnyH_take (i := 0) (v := ?_) (arr_at rfl) (by kernel_rfl) (by kernel_rfl) (by kernel_rfl) (fun _ _ _ h => h) ?_ (by assumption) ?_
    rotate_left
    · first
      | (refine Or.inr ⟨by rfl, ?_⟩; with_reducible rfl)
      | (refine Or.inl ⟨by rfl, ?_⟩; intro w hSw; (try dsimp only at hSw); go_simp; done)
      | (refine Or.inl ⟨by rfl, ?_⟩; intro w hSw; (try dsimp only at hSw); go_simp; with_reducible rfl)
    try simp only [Act.put, List.setIfInBounds_toArray, List.set_cons_zero, List.set_cons_succ]
    refine wpAnyH_take (i := 1) (v := ?_) (arr_at rfl) (by kernel_rfl) (by kernel_rfl) (by kernel_rfl) (fun _ _ _ h => h) ?_ (by assumption) ?_
    rotate_left
    · first
      | (refine Or.inr ⟨by rfl, ?_⟩; with_reducible rfl)
      | (refine Or.inl ⟨by rfl, ?_⟩; intro w hSw; (try dsimp only at hSw); go_simp; done)
      | (refine Or.inl ⟨by rfl, ?_⟩; intro w hSw; (try dsimp only at hSw); go_simp; with_reducible rfl)
    try simp only [Act.put, List.setIfInBounds_toArray, List.set_cons_zero, List.set_cons_succ]
    refine wpAnyH_take (i := 4) (v := ?_) (arr_at rfl) (by kernel_rfl) (by kernel_rfl) (by kernel_rfl) (fun _ _ _ h => h) ?_ (by assumption) ?_
    rotate_left
    · first
      | (refine Or.inr ⟨by rfl, ?_⟩; with_reducible rfl)
      | (refine Or.inl ⟨by rfl, ?_⟩; intro w hSw; (try dsimp only at hSw); go_simp; done)
      | (refine Or.inl ⟨by rfl, ?_⟩; intro w hSw; (try dsimp only at hSw); go_simp; with_reducible rfl)
    try simp only [Act.put, List.setIfInBounds_toArray, List.set_cons_zero, List.set_cons_succ]
    refine wpAnyH_take (i := 5) (v := ?_) (arr_at rfl) (by kernel_rfl) (by kernel_rfl) (by kernel_rfl) (fun _ _ _ h => h) ?_ (by assumption) ?_
    rotate_left
    · first
      | (refine Or.inr ⟨by rfl, ?_⟩; with_reducible rfl)
      | (refine Or.inl ⟨by rfl, ?_⟩; intro w hSw; (try dsimp only at hSw); go_simp; done)
      | (refine Or.inl ⟨by rfl, ?_⟩; intro w hSw; (try dsimp only at hSw); go_simp; with_reducible rfl)
    try simp only [Act.put, List.setIfInBounds_toArray, List.set_cons_zero, List.set_cons_succ]
    refine wpAnyH_ready (rs := [2]) (by kernel_rfl) (by simp) ?_
    refine AllReadyH.cons (arr_at rfl) (fun K hK => ?_) AllReadyH.nil
    go_simp
    go_at_call 42; refine (c_sAddrText ad _ (by omega) (by omega)).mono ?_; rintro e wd ⟨rfl, hq⟩; replace k0 := k0.to hq; replace B := Bl.then B hq; clear hq
    refine hK.out _ _ ?_ (fun hHeld => ?_)
    · (try dsimp only); (have x := k0.cell 0; have y := k0.cell 1; simp only [List.getElem?_toArray, List.getElem?_cons_zero, List.getElem?_cons_succ] at x y; exact ⟨x, y⟩)
    clear hK K
    try simp only [Act.put, List.setIfInBounds_toArray, List.set_cons_zero, List.set_cons_succ]
    refine wpAnyH_take (i := 3) (v := ?_) (arr_at rfl) (by kernel_rfl) (by kernel_rfl) (by kernel_rfl) (fun _ _ _ h => h) ?_ (by assumption) ?_
    rotate_left
    · first
      | (refine Or.inr ⟨by rfl, ?_⟩; with_reducible rfl)
      | (refine Or.inl ⟨by rfl, ?_⟩; intro w hSw; (try dsimp only at hSw); go_simp; done)
      | (refine Or.inl ⟨by rfl, ?_⟩; intro w hSw; (try dsimp only at hSw); go_simp; with_reducible rfl)
    try simp only [Act.put, List.setIfInBounds_toArray, List.set_cons_zero, List.set_cons_succ]
    refine wpAnyH_ready (rs := [6]) (by kernel_rfl) (by simp) ?_
    refine AllReadyH.cons (arr_at rfl) (fun K hK => ?_) AllReadyH.nil
    go_simp
    go_at_call 43; refine (c_dec ep _ (by omega) (by omega)).mono ?_; rintro e we ⟨rfl, hq⟩; replace k0 := k0.to hq; replace B := Bl.then B hq; clear hq
    refine hK.out _ _ ?_ (fun hHeld => ?_)
    · (try dsimp only); (have x := k0.cell 0; have y := k0.cell 1; simp only [List.getElem?_toArray, List.getElem?_cons_zero, List.getElem?_cons_succ] at x y; exact ⟨x, y⟩)
    clear hK K
    try simp only [Act.put, List.setIfInBounds_toArray, List.set_cons_zero, List.set_cons_succ]
    refine wpAnyH_take (i := 7) (v := ?_) (arr_at rfl) (by kernel_rfl) (by kernel_rfl) (by kernel_rfl) (fun _ _ _ h => h) ?_ (by assumption) ?_
    rotate_left
    · first
      | (refine Or.inr ⟨by rfl, ?_⟩; with_reducible rfl)
      | (refine Or.inl ⟨by rfl, ?_⟩; intro w hSw; (try dsimp only at hSw); go_simp; done)
      | (refine Or.inl ⟨by rfl, ?_⟩; intro w hSw; (try dsimp only at hSw); go_simp; with_reducible rfl)
    try simp only [Act.put, List.setIfInBounds_toArray, List.set_cons_zero, List.set_cons_succ]
    refine wpAnyH_take (i := 8) (v := ?_) (arr_at rfl) (by kernel_rfl) (by kernel_rfl) (by kernel_rfl) (fun _ _ _ h => h) ?_ (by assumption) ?_
    rotate_left
    · first
      | (refine Or.inr ⟨by rfl, ?_⟩; with_reducible rfl)
      | (refine Or.inl ⟨by rfl, ?_⟩; intro w hSw; (try dsimp only at hSw); go_simp; done)
      | (refine Or.inl ⟨by rfl, ?_⟩; intro w hSw; (try dsimp only at hSw); go_simp; with_reducible rfl)
    try simp only [Act.put, List.setIfInBounds_toArray, List.set_cons_zero, List.set_cons_succ]
    refine wpAnyH_done (by kernel_rfl) ?_ _
    go_wp2; go_ret; exact ⟨by rw [HV.out]; rfl, B⟩

set_option maxHeartbeats 1600000 in
theorem c_iFormatEnd (ad ep : Int) (w : World) (hE : TabE w) : Calls Tryd.prog 18 #[.agg #[.int .i64 ad, .int .i64 ep]] w fun e w' => e = .returned (.string (fmtEnd ad ep)) ∧ Below w.heap.size w w' := by
  have k0 := Blk.new w 25 #[.int .i64 ad, .int .i64 ep]
  have B : Below w.heap.size w (w.alloc (.cells #[.int .i64 ad, .int .i64 ep] 25)) := (Below.refl _ _).alloc (Nat.le_refl _) _
  replace hE := hE.to B
  go_enter Tryd.func18, Tryd.ntmps18
  go_wp2_with fail
  refine (c_endValid ad ep _).mono ?_
  rintro e w1 ⟨rfl, hq⟩
  replace k0 := k0.to hq
  replace B := Bl.then B hq
  replace hE := hE.to hq
  clear hq
  cases hv : inB ad 0 65535 && inB ep 0 65535
  · have HV : Hid (fmtEnd ad ep = ⟨#[]⟩) := by unfold fmtEnd; rw [hv]; rfl
    clear hv
    go_wp2
    go_ret
    exact ⟨by rw [HV.out]; rfl, B⟩
  · have HV : Hid (fmtEnd ad ep = addrT ad ++ ⟨#[58]⟩ ++ dec ep) := by unfold fmtEnd; rw [hv]; rfl
    simp only [Bool.and_eq_true] at hv
    have a1 := inB_true hv.1
    have a2 := inB_true hv.2
    have x := addrT_size a1.1 a1.2
    have y := dec_size ep
    have hs1 : ¬ (9223372036854775807 < (addrT ad).size + 1) := by omega
    have hs2 : ¬ (9223372036854775807 < (addrT ad).size + 1 + (dec ep).size) := by omega
    clear hv
    go_wp2_with fail
    refine wp_region_held_drew (S := (fun w' => w'.cell? ⟨w.heap.size, 0, none⟩ = some (.int .i64 ad) ∧ w'.cell? ⟨w.heap.size, 1, none⟩ = some (.int .i64 ep))) (by kernel_rfl) ?_ (fun hHeld => ?_)
    · (try dsimp only); (have x := k0.cell 0; have y := k0.cell 1; simp only [List.getElem?_toArray, List.getElem?_cons_zero, List.getElem?_cons_succ] at x y; exact ⟨x, y⟩)
    replace k0 : Blk w1.drew w.heap.size _ _ := k0; replace hE : TabE w1.drew := hE; replace B : Below w.heap.size w w1.drew := Bl.drewN B 1; generalize World.drew w1 = wc at *
    refine wpAnyH_take (i := 0) (v := ?_) (arr_at rfl) (by kernel_rfl) (by kernel_rfl) (by kernel_rfl) (fun _ _ _ h => h) ?_ (by assumption) ?_
    rotate_left
    · first
      | (refine Or.inr ⟨by rfl, ?_⟩; with_reducible rfl)
      | (refine Or.inl ⟨by rfl, ?_⟩; intro w hSw; (try dsimp only at hSw); go_simp; done)
      | (refine Or.inl ⟨by rfl, ?_⟩; intro w hSw; (try dsimp only at hSw); go_simp; with_reducible rfl)
    try simp only [Act.put, List.setIfInBounds_toArray, List.set_cons_zero, List.set_cons_succ]
    refine wpAnyH_take (i := 1) (v := ?_) (arr_at rfl) (by kernel_rfl) (by kernel_rfl) (by kernel_rfl) (fun _ _ _ h => h) ?_ (by assumption) ?_
    rotate_left
    · first
      | (refine Or.inr ⟨by rfl, ?_⟩; with_reducible rfl)
      | (refine Or.inl ⟨by rfl, ?_⟩; intro w hSw; (try dsimp only at hSw); go_simp; done)
      | (refine Or.inl ⟨by rfl, ?_⟩; intro w hSw; (try dsimp only at hSw); go_simp; with_reducible rfl)
    try simp only [Act.put, List.setIfInBounds_toArray, List.set_cons_zero, List.set_cons_succ]
    refine wpAnyH_take (i := 4) (v := ?_) (arr_at rfl) (by kernel_rfl) (by kernel_rfl) (by kernel_rfl) (fun _ _ _ h => h) ?_ (by assumption) ?_
    rotate_left
    · first
      | (refine Or.inr ⟨by rfl, ?_⟩; with_reducible rfl)
      | (refine Or.inl ⟨by rfl, ?_⟩; intro w hSw; (try dsimp only at hSw); go_simp; done)
      | (refine Or.inl ⟨by rfl, ?_⟩; intro w hSw; (try dsimp only at hSw); go_simp; with_reducible rfl)
    try simp only [Act.put, List.setIfInBounds_toArray, List.set_cons_zero, List.set_cons_succ]
    refine wpAnyH_take (i := 5) (v := ?_) (arr_at rfl) (by kernel_rfl) (by kernel_rfl) (by kernel_rfl) (fun _ _ _ h => h) ?_ (by assumption) ?_
    rotate_left
    · first
      | (refine Or.inr ⟨by rfl, ?_⟩; with_reducible rfl)
      | (refine Or.inl ⟨by rfl, ?_⟩; intro w hSw; (try dsimp only at hSw); go_simp; done)
      | (refine Or.inl ⟨by rfl, ?_⟩; intro w hSw; (try dsimp only at hSw); go_simp; with_reducible rfl)
    try simp only [Act.put, List.setIfInBounds_toArray, List.set_cons_zero, List.set_cons_succ]
    refine wpAnyH_ready (rs := [2]) (by kernel_rfl) (by simp) ?_
    refine AllReadyH.cons (arr_at rfl) (fun K hK => ?_) AllReadyH.nil
    go_simp
    go_at_call 45; refine (c_iAddrText ad _ (by omega) (by omega) hE).mono ?_; rintro e wd ⟨rfl, hq⟩; replace k0 := k0.to hq; replace hE := hE.to hq; replace B := Bl.then B hq; clear hq
    refine hK.out _ _ ?_ (fun hHeld => ?_)
    · (try dsimp only); (have x := k0.cell 0; have y := k0.cell 1; simp only [List.getElem?_toArray, List.getElem?_cons_zero, List.getElem?_cons_succ] at x y; exact ⟨x, y⟩)
    clear hK K
    try simp only [Act.put, List.setIfInBounds_toArray, List.set_cons_zero, List.set_cons_succ]
    refine wpAnyH_take (i := 3) (v := ?_) (arr_at rfl) (by kernel_rfl) (by kernel_rfl) (by kernel_rfl) (fun _ _ _ h => h) ?_ (by assumption) ?_
    rotate_left
    · first
      | (refine Or.inr ⟨by rfl, ?_⟩; with_reducible rfl)
      | (refine Or.inl ⟨by rfl, ?_⟩; intro w hSw; (try dsimp only at hSw); go_simp; done)
      | (refine Or.inl ⟨by rfl, ?_⟩; intro w hSw; (try dsimp only at hSw); go_simp; with_reducible rfl)
    try simp only [Act.put, List.setIfInBounds_toArray, List.set_cons_zero, List.set_cons_succ]
    refine wpAnyH_ready (rs := [6]) (by kernel_rfl) (by simp) ?_
    refine AllReadyH.cons (arr_at rfl) (fun K hK => ?_) AllReadyH.nil
    go_simp
    go_at_call 46; refine (c_Itoa ep _ (by omega) (by omega) hE).mono ?_; rintro e we ⟨rfl, hq⟩; replace k0 := k0.to hq; replace hE := hE.to hq; replace B := Bl.then B hq; clear hq
    refine hK.out _ _ ?_ (fun hHeld => ?_)
    · (try dsimp only); (have x := k0.cell 0; have y := k0.cell 1; simp only [List.getElem?_toArray, List.getElem?_cons_zero, List.getElem?_cons_succ] at x y; exact ⟨x, y⟩)
    clear hK K
    try simp only [Act.put, List.setIfInBounds_toArray, List.set_cons_zero, List.set_cons_succ]
    refine wpAnyH_take (i := 7) (v := ?_) (arr_at rfl) (by kernel_rfl) (by kernel_rfl) (by kernel_rfl) (fun _ _ _ h => h) ?_ (by assumption) ?_
    rotate_left
    · first
      | (refine Or.inr ⟨by rfl, ?_⟩; with_reducible rfl)
      | (refine Or.inl ⟨by rfl, ?_⟩; intro w hSw; (try dsimp only at hSw); go_simp; done)
      | (refine Or.inl ⟨by rfl, ?_⟩; intro w hSw; (try dsimp only at hSw); go_simp; with_reducible rfl)
    try simp only [Act.put, List.setIfInBounds_toArray, List.set_cons_zero, List.set_cons_succ]
    refine wpAnyH_take (i := 8) (v := ?_) (arr_at rfl) (by kernel_rfl) (by kernel_rfl) (by kernel_rfl) (fun _ _ _ h => h) ?_ (by assumption) ?_
    rotate_left
    · first
      | (refine Or.inr ⟨by rfl, ?_⟩; with_reducible rfl)
      | (refine Or.inl ⟨by rfl, ?_⟩; intro w hSw; (try dsimp only at hSw); go_simp; done)
      | (refine Or.inl ⟨by rfl, ?_⟩; intro w hSw; (try dsimp only at hSw); go_simp; with_reducible rfl)
    try simp only [Act.put, List.setIfInBounds_toArray, List.set_cons_zero, List.set_cons_succ]
    refine wpAnyH_done (by kernel_rfl) ?_ _
    go_wp2; go_ret; exact ⟨by rw [HV.out]; rfl, B⟩

set_option maxHeartbeats 1600000 in
theorem c_sFormatNet (ad ep : Int) (w : World) : Calls Tryd.prog 19 #[.agg #[.int .i64 ad, .int .i64 ep]] w fun e w' => e = .returned (.string (fmtNet ad ep)) ∧ Below w.heap.size w w' := by
  have k0 := Blk.new w 31 #[.int .i64 ad, .int .i64 ep]
  have B : Below w.heap.size w (w.alloc (.cells #[.int .i64 ad, .int .i64 ep] 31)) := (Below.refl _ _).alloc (Nat.le_refl _) _
  go_enter Tryd.func19, Tryd.ntmps19
  go_wp2_with fail
  refine (c_validNet ad ep _).mono ?_
  rintro e w1 ⟨rfl, hq⟩
  replace k0 := k0.to hq
  replace B := Bl.then B hq
  clear hq
  cases hv : vNet ad ep
  · have HV : Hid (fmtNet ad ep = ⟨#[]⟩) := by unfold fmtNet; rw [hv]; rfl
    clear hv
    go_wp2
    go_ret
    exact ⟨by rw [HV.out]; rfl, B⟩
  · have HV : Hid (fmtNet ad ep = addrT ad ++ ⟨#[47]⟩ ++ dec ep) := by unfold fmtNet; rw [hv]; rfl
    have a1 := inB_true (vNet_base hv)
    have a2 := inB_true (vNet_bits hv)
    have x := addrT_size a1.1 a1.2
    have y := dec_size ep
    have hs1 : ¬ (9223372036854775807 < (addrT ad).size + 1) := by omega
    have hs2 : ¬ (9223372036854775807 < (addrT ad).size + 1 + (dec ep).size) := by omega
    clear hv
    go_wp2_with fail
    refine wp_region_held_drew (S := (fun w' => w'.cell? ⟨w.heap.size, 0, none⟩ = some (.int .i64 ad) ∧ w'.cell? ⟨w.heap.size, 1, none⟩ = some (.int .i64 ep))) (by kernel_rfl) ?_ (fun hHeld => ?_)
    · (try dsimp only); (have x := k0.cell 0; have y := k0.cell 1; simp only [List.getElem?_toArray, List.getElem?_cons_zero, List.getElem?_cons_succ] at x y; exact ⟨x, y⟩)
    replace k0 : Blk w1.drew w.heap.size _ _ := k0; replace B : Below w.heap.size w w1.drew := Bl.drewN B 1; generalize World.drew w1 = wc at *
    refine wpAnyH_take (i := 0) (v := ?_) (arr_at rfl) (by kernel_rfl) (by kernel_rfl) (by kernel_rfl) (fun _ _ _ h => h) ?_ (by assumption) ?_
    rotate_left
    · first
      | (refine Or.inr ⟨by rfl, ?_⟩; with_reducible rfl)
      | (refine Or.inl ⟨by rfl, ?_⟩; intro w hSw; (try dsimp only at hSw); go_simp; done)
      | (refine Or.inl ⟨by rfl, ?_⟩; intro w hSw; (try dsimp only at hSw); go_simp; with_reducible rfl)
    try simp only [Act.put, List.setIfInBounds_toArray, List.set_cons_zero, List.set_cons_succ]
    refine wpAnyH_take (i := 1) (v := ?_) (arr_at rfl) (by kernel_rfl) (by kernel_rfl) (by kernel_rfl) (fun _ _ _ h => h) ?_ (by assumption) ?_
    rotate_left
    · first
      | (refine Or.inr ⟨by rfl, ?_⟩; with_reducible rfl)
      | (refine Or.inl ⟨by rfl, ?_⟩; intro w hSw; (try dsimp only at hSw); go_simp; done)
      | (refine Or.inl ⟨by rfl, ?_⟩; intro w hSw; (try dsimp only at hSw); go_simp; with_reducible rfl)
    try simp only [Act.put, List.setIfInBounds_toArray, List.set_cons_zero, List.set_cons_succ]
    refine wpAnyH_take (i := 4) (v := ?_) (arr_at rfl) (by kernel_rfl) (by kernel_rfl) (by kernel_rfl) (fun _ _ _ h => h) ?_ (by assumption) ?_
    rotate_left
    · first
      | (refine Or.inr ⟨by rfl, ?_⟩; with_reducible rfl)
      | (refine Or.inl ⟨by rfl, ?_⟩; intro w hSw; (try dsimp only at hSw); go_simp; done)
      | (refine Or.inl ⟨by rfl, ?_⟩; intro w hSw; (try dsimp only at hSw); go_simp; with_reducible rfl)
    try simp only [Act.put, List.setIfInBounds_toArray, List.set_cons_zero, List.set_cons_succ]
    refine wpAnyH_take (i := 5) (v := ?_) (arr_at rfl) (by kernel_rfl) (by kernel_rfl) (by kernel_rfl) (fun _ _ _ h => h) ?_ (by assumption) ?_
    rotate_left
    · first
      | (refine Or.inr ⟨by rfl, ?_⟩; with_reducible rfl)
      | (refine Or.inl ⟨by rfl, ?_⟩; intro w hSw; (try dsimp only at hSw); go_simp; done)
      | (refine Or.inl ⟨by rfl, ?_⟩; intro w hSw; (try dsimp only at hSw); go_simp; with_reducible rfl)
    try simp only [Act.put, List.setIfInBounds_toArray, List.set_cons_zero, List.set_cons_succ]
    refine wpAnyH_ready (rs := [2]) (by kernel_rfl) (by simp) ?_
    refine AllReadyH.cons (arr_at rfl) (fun K hK => ?_) AllReadyH.nil
    go_simp
    go_at_call 42; refine (c_sAddrText ad _ (by omega) (by omega)).mono ?_; rintro e wd ⟨rfl, hq⟩; replace k0 := k0.to hq; replace B := Bl.then B hq; clear hq
    refine hK.out _ _ ?_ (fun hHeld => ?_)
    · (try dsimp only); (have x := k0.cell 0; have y := k0.cell 1; simp only [List.getElem?_toArray, List.getElem?_cons_zero, List.getElem?_cons_succ] at x y; exact ⟨x, y⟩)
    clear hK K
    try simp only [Act.put, List.setIfInBounds_toArray, List.set_cons_zero, List.set_cons_succ]
    refine wpAnyH_take (i := 3) (v := ?_) (arr_at rfl) (by kernel_rfl) (by kernel_rfl) (by kernel_rfl) (fun _ _ _ h => h) ?_ (by assumption) ?_
    rotate_left
    · first
      | (refine Or.inr ⟨by rfl, ?_⟩; with_reducible rfl)
      | (refine Or.inl ⟨by rfl, ?_⟩; intro w hSw; (try dsimp only at hSw); go_simp; done)
      | (refine Or.inl ⟨by rfl, ?_⟩; intro w hSw; (try dsimp only at hSw); go_simp; with_reducible rfl)
    try simp only [Act.put, List.setIfInBounds_toArray, List.set_cons_zero, List.set_cons_succ]
    refine wpAnyH_ready (rs := [6]) (by kernel_rfl) (by simp) ?_
    refine AllReadyH.cons (arr_at rfl) (fun K hK => ?_) AllReadyH.nil
    go_simp
    go_at_call 43; refine (c_dec ep _ (by omega) (by omega)).mono ?_; rintro e we ⟨rfl, hq⟩; replace k0 := k0.to hq; replace B := Bl.then B hq; clear hq
    refine hK.out _ _ ?_ (fun hHeld => ?_)
    · (try dsimp only); (have x := k0.cell 0; have y := k0.cell 1; simp only [List.getElem?_toArray, List.getElem?_cons_zero, List.getElem?_cons_succ] at x y; exact ⟨x, y⟩)
    clear hK K
    try simp only [Act.put, List.setIfInBounds_toArray, List.set_cons_zero, List.set_cons_succ]
    refine wpAnyH_take (i := 7) (v := ?_) (arr_at rfl) (by kernel_rfl) (by kernel_rfl) (by kernel_rfl) (fun _ _ _ h => h) ?_ (by assumption) ?_
    rotate_left
    · first
      | (refine Or.inr ⟨by rfl, ?_⟩; with_reducible rfl)
      | (refine Or.inl ⟨by rfl, ?_⟩; intro w hSw; (try dsimp only at hSw); go_simp; done)
      | (refine Or.inl ⟨by rfl, ?_⟩; intro w hSw; (try dsimp only at hSw); go_simp; with_reducible rfl)
    try simp only [Act.put, List.setIfInBounds_toArray, List.set_cons_zero, List.set_cons_succ]
    refine wpAnyH_take (i := 8) (v := ?_) (arr_at rfl) (by kernel_rfl) (by kernel_rfl) (by kernel_rfl) (fun _ _ _ h => h) ?_ (by assumption) ?_
    rotate_left
    · first
      | (refine Or.inr ⟨by rfl, ?_⟩; with_reducible rfl)
      | (refine Or.inl ⟨by rfl, ?_⟩; intro w hSw; (try dsimp only at hSw); go_simp; done)
      | (refine Or.inl ⟨by rfl, ?_⟩; intro w hSw; (try dsimp only at hSw); go_simp; with_reducible rfl)
    try simp only [Act.put, List.setIfInBounds_toArray, List.set_cons_zero, List.set_cons_succ]
    refine wpAnyH_done (by kernel_rfl) ?_ _
    go_wp2; go_ret; exact ⟨by rw [HV.out]; rfl, B⟩

set_option maxHeartbeats 1600000 in
theorem c_iFormatNet (ad ep : Int) (w : World) (hE : TabE w) : Calls Tryd.prog 21 #[.agg #[.int .i64 ad, .int .i64 ep]] w fun e w' => e = .returned (.string (fmtNet ad ep)) ∧ Below w.heap.size w w' := by
  have k0 := Blk.new w 31 #[.int .i64 ad, .int .i64 ep]
  have B : Below w.heap.size w (w.alloc (.cells #[.int .i64 ad, .int .i64 ep] 31)) := (Below.refl _ _).alloc (Nat.le_refl _) _
  replace hE := hE.to B
  go_enter Tryd.func21, Tryd.ntmps21
  go_wp2_with fail
  refine (c_ValidNet ad ep _).mono ?_
  rintro e w1 ⟨rfl, hq⟩
  replace k0 := k0.to hq
  replace B := Bl.then B hq
  replace hE := hE.to hq
  clear hq
  cases hv : vNet ad ep
  · have HV : Hid (fmtNet ad ep = ⟨#[]⟩) := by unfold fmtNet; rw [hv]; rfl
    clear hv
    go_wp2
    go_ret
    exact ⟨by rw [HV.out]; rfl, B⟩
  · have HV : Hid (fmtNet ad ep = addrT ad ++ ⟨#[47]⟩ ++ dec ep) := by unfold fmtNet; rw [hv]; rfl
    have a1 := inB_true (vNet_base hv)
    have a2 := inB_true (vNet_bits hv)
    have x := addrT_size a1.1 a1.2
    have y := dec_size ep
    have hs1 : ¬ (9223372036854775807 < (addrT ad).size + 1) := by omega
    have hs2 : ¬ (9223372036854775807 < (addrT ad).size + 1 + (dec ep).size) := by omega
    clear hv
    go_wp2_with fail
    refine wp_region_held_drew (S := (fun w' => w'.cell? ⟨w.heap.size, 0, none⟩ = some (.int .i64 ad) ∧ w'.cell? ⟨w.heap.size, 1, none⟩ = some (.int .i64 ep))) (by kernel_rfl) ?_ (fun hHeld => ?_)
    · (try dsimp only); (have x := k0.cell 0; have y := k0.cell 1; simp only [List.getElem?_toArray, List.getElem?_cons_zero, List.getElem?_cons_succ] at x y; exact ⟨x, y⟩)
    replace k0 : Blk w1.drew w.heap.size _ _ := k0; replace hE : TabE w1.drew := hE; replace B : Below w.heap.size w w1.drew := Bl.drewN B 1; generalize World.drew w1 = wc at *
    refine wpAnyH_take (i := 0) (v := ?_) (arr_at rfl) (by kernel_rfl) (by kernel_rfl) (by kernel_rfl) (fun _ _ _ h => h) ?_ (by assumption) ?_
    rotate_left
    · first
      | (refine Or.inr ⟨by rfl, ?_⟩; with_reducible rfl)
      | (refine Or.inl ⟨by rfl, ?_⟩; intro w hSw; (try dsimp only at hSw); go_simp; done)
      | (refine Or.inl ⟨by rfl, ?_⟩; intro w hSw; (try dsimp only at hSw); go_simp; with_reducible rfl)
    try simp only [Act.put, List.setIfInBounds_toArray, List.set_cons_zero, List.set_cons_succ]
    refine wpAnyH_take (i := 1) (v := ?_) (arr_at rfl) (by kernel_rfl) (by kernel_rfl) (by kernel_rfl) (fun _ _ _ h => h) ?_ (by assumption) ?_
    rotate_left
    · first
      | (refine Or.inr ⟨by rfl, ?_⟩; with_reducible rfl)
      | (refine Or.inl ⟨by rfl, ?_⟩; intro w hSw; (try dsimp only at hSw); go_simp; done)
      | (refine Or.inl ⟨by rfl, ?_⟩; intro w hSw; (try dsimp only at hSw); go_simp; with_reducible rfl)
    try simp only [Act.put, List.setIfInBounds_toArray, List.set_cons_zero, List.set_cons_succ]
    refine wpAnyH_take (i := 4) (v := ?_) (arr_at rfl) (by kernel_rfl) (by kernel_rfl) (by kernel_rfl) (fun _ _ _ h => h) ?_ (by assumption) ?_
    rotate_left
    · first
      | (refine Or.inr ⟨by rfl, ?_⟩; with_reducible rfl)
      | (refine Or.inl ⟨by rfl, ?_⟩; intro w hSw; (try dsimp only at hSw); go_simp; done)
      | (refine Or.inl ⟨by rfl, ?_⟩; intro w hSw; (try dsimp only at hSw); go_simp; with_reducible rfl)
    try simp only [Act.put, List.setIfInBounds_toArray, List.set_cons_zero, List.set_cons_succ]
    refine wpAnyH_take (i := 5) (v := ?_) (arr_at rfl) (by kernel_rfl) (by kernel_rfl) (by kernel_rfl) (fun _ _ _ h => h) ?_ (by assumption) ?_
    rotate_left
    · first
      | (refine Or.inr ⟨by rfl, ?_⟩; with_reducible rfl)
      | (refine Or.inl ⟨by rfl, ?_⟩; intro w hSw; (try dsimp only at hSw); go_simp; done)
      | (refine Or.inl ⟨by rfl, ?_⟩; intro w hSw; (try dsimp only at hSw); go_simp; with_reducible rfl)
    try simp only [Act.put, List.setIfInBounds_toArray, List.set_cons_zero, List.set_cons_succ]
    refine wpAnyH_ready (rs := [2]) (by kernel_rfl) (by simp) ?_
    refine AllReadyH.cons (arr_at rfl) (fun K hK => ?_) AllReadyH.nil
    go_simp
    go_at_call 45; refine (c_iAddrText ad _ (by omega) (by omega) hE).mono ?_; rintro e wd ⟨rfl, hq⟩; replace k0 := k0.to hq; replace hE := hE.to hq; replace B := Bl.then B hq; clear hq
    refine hK.out _ _ ?_ (fun hHeld => ?_)
    · (try dsimp only); (have x := k0.cell 0; have y := k0.cell 1; simp only [List.getElem?_toArray, List.getElem?_cons_zero, List.getElem?_cons_succ] at x y; exact ⟨x, y⟩)
    clear hK K
    try simp only [Act.put, List.setIfInBounds_toArray, List.set_cons_zero, List.set_cons_succ]
    refine wpAnyH_take (i := 3) (v := ?_) (arr_at rfl) (by kernel_rfl) (by kernel_rfl) (by kernel_rfl) (fun _ _ _ h => h) ?_ (by assumption) ?_
    rotate_left
    · first
      | (refine Or.inr ⟨by rfl, ?_⟩; with_reducible rfl)
      | (refine Or.inl ⟨by rfl, ?_⟩; intro w hSw; (try dsimp only at hSw); go_simp; done)
      | (refine Or.inl ⟨by rfl, ?_⟩; intro w hSw; (try dsimp only at hSw); go_simp; with_reducible rfl)
    try simp only [Act.put, List.setIfInBounds_toArray, List.set_cons_zero, List.set_cons_succ]
    refine wpAnyH_ready (rs := [6]) (by kernel_rfl) (by simp) ?_
    refine AllReadyH.cons (arr_at rfl) (fun K hK => ?_) AllReadyH.nil
    go_simp
    go_at_call 46; refine (c_Itoa ep _ (by omega) (by omega) hE).mono ?_; rintro e we ⟨rfl, hq⟩; replace k0 := k0.to hq; replace hE := hE.to hq; replace B := Bl.then B hq; clear hq
    refine hK.out _ _ ?_ (fun hHeld => ?_)
    · (try dsimp only); (have x := k0.cell 0; have y := k0.cell 1; simp only [List.getElem?_toArray, List.getElem?_cons_zero, List.getElem?_cons_succ] at x y; exact ⟨x, y⟩)
    clear hK K
    try simp only [Act.put, List.setIfInBounds_toArray, List.set_cons_zero, List.set_cons_succ]
    refine wpAnyH_take (i := 7) (v := ?_) (arr_at rfl) (by kernel_rfl) (by kernel_rfl) (by kernel_rfl) (fun _ _ _ h => h) ?_ (by assumption) ?_
    rotate_left
    · first
      | (refine Or.inr ⟨by rfl, ?_⟩; with_reducible rfl)
      | (refine Or.inl ⟨by rfl, ?_⟩; intro w hSw; (try dsimp only at hSw); go_simp; done)
      | (refine Or.inl ⟨by rfl, ?_⟩; intro w hSw; (try dsimp only at hSw); go_simp; with_reducible rfl)
    try simp only [Act.put, List.setIfInBounds_toArray, List.set_cons_zero, List.set_cons_succ]
    refine wpAnyH_take (i := 8) (v := ?_) (arr_at rfl) (by kernel_rfl) (by kernel_rfl) (by kernel_rfl) (fun _ _ _ h => h) ?_ (by assumption) ?_
    rotate_left
    · first
      | (refine Or.inr ⟨by rfl, ?_⟩; with_reducible rfl)
      | (refine Or.inl ⟨by rfl, ?_⟩; intro w hSw; (try dsimp only at hSw); go_simp; done)
      | (refine Or.inl ⟨by rfl, ?_⟩; intro w hSw; (try dsimp only at hSw); go_simp; with_reducible rfl)
    try simp only [Act.put, List.setIfInBounds_toArray, List.set_cons_zero, List.set_cons_succ]
    refine wpAnyH_done (by kernel_rfl) ?_ _
    go_wp2; go_ret; exact ⟨by rw [HV.out]; rfl, B⟩
end Go.Proofs.YthlaldikdlljfaaDoor
