/- The walk of the law FnMovedByBack; plain laws of moved addresses. -/
import Derived.Test.YtcfleoobhgagoaaC9
import Derived.Test.YtcfleoobhgagoaaGen3
namespace Go.Proofs.Ytcfleoobhgagoaa
open Go.RowKit

theorem mvB_comm (zs ys : List Int) (x : Int) : mvB zs ys x = mvB ys zs x := by unfold mvB; rw [bne_comm]
theorem mvV_comm (zs ys qs : List Int) : mvV ys zs qs = mvV zs ys qs := by
  unfold mvV mv
  rw [show (vPool ys && (vPool zs && askB qs)) = (vPool zs && (vPool ys && askB qs)) by cases vPool ys <;> cases vPool zs <;> simp]
  rw [show mvB ys zs = mvB zs ys from funext fun x => mvB_comm ys zs x]
theorem mvV_pos {zs ys qs : List Int} (h : ¬ (mvV zs ys qs).length = 0) : vPool zs = true ∧ vPool ys = true ∧ askB qs = true ∧ mvV zs ys qs = mv zs ys qs := by
  unfold mvV at h ⊢
  cases hc : vPool zs && (vPool ys && askB qs)
  · rw [hc] at h; simp at h
  · simp only [Bool.and_eq_true] at hc; exact ⟨hc.1, hc.2.1, hc.2.2, if_pos rfl⟩
theorem mvV_same (zs qs : List Int) : mvV zs zs qs = [] := by
  unfold mvV mv
  split
  · rw [List.filter_eq_nil_iff]; intro x _; simp [mvB]
  · rfl
theorem pAddr_one {zs : List Int} {x : Int} (h : vPool zs = true) (hx : 0 ≤ x ∧ x ≤ 65535) : pAddr (zs.take 1) x = nth zs 0 := by
  have hl := vPool_len h
  have h1 : (zs.take 1).length = 1 := by rw [List.length_take]; omega
  unfold pAddr
  rw [vPool_take h (Nat.le_refl 1) hl.1, inB_mk hx.1 hx.2, Bool.and_self, if_pos rfl, h1]
  have : spr x ((1 : Nat) : Int) = 0 := by unfold spr; simp
  rw [this]
  exact nth_take (by omega)
theorem mvV_one {zs ys qs : List Int} (v1 : vPool zs = true) (v2 : vPool ys = true) (v3 : askB qs = true) : mvV (zs.take 1) (ys.take 1) qs = if nth zs 0 = nth ys 0 then [] else qs := by
  have l1 := vPool_len v1
  have l2 := vPool_len v2
  have hq := (ask_at v3).2
  unfold mvV mv
  rw [vPool_take v1 (Nat.le_refl 1) l1.1, vPool_take v2 (Nat.le_refl 1) l2.1, v3]
  have hB : ∀ x ∈ qs, mvB (zs.take 1) (ys.take 1) x = !decide (nth zs 0 = nth ys 0) := fun x hx => by
    obtain ⟨k, hk, he⟩ := List.getElem_of_mem hx
    have hr := hq k hk
    have : nth qs k = x := by simp [nth, hk, he]
    rw [this] at hr
    unfold mvB
    rw [pAddr_one v1 hr, pAddr_one v2 hr]
    by_cases e : nth zs 0 = nth ys 0 <;> simp [e]
  rw [if_pos (by rfl)]
  split
  · rename_i e
    rw [List.filter_eq_nil_iff]
    intro x hx
    rw [hB x hx]; simp [e]
  · rename_i e
    rw [List.filter_eq_self]
    intro x hx
    rw [hB x hx]; simp [e]
theorem nth_filter {p : Int → Bool} {qs : List Int} {i : Nat} (hi : i < qs.length) (hp : p (nth qs i) = true) : nth (qs.filter p) ((qs.take i).filter p).length = nth qs i ∧ ((qs.take i).filter p).length < (qs.filter p).length := by
  have e : qs.filter p = (qs.take i).filter p ++ (nth qs i :: (qs.drop (i + 1)).filter p) := by
    conv => lhs; rw [← List.take_append_drop i qs]
    rw [List.filter_append]
    congr 1
    rw [List.drop_eq_getElem_cons hi]
    have : qs[i] = nth qs i := by simp [nth, hi]
    rw [this, List.filter_cons, if_pos hp]
  rw [e]
  constructor
  · simp [nth]
  · simp

set_option maxHeartbeats 1600000 in
theorem l_FnMovedByBack (A : Option Addr) (n c : Nat) (w : World) (h : RB w A n) (hc : n ≤ c) :
    Calls Try.prog 18 #[.slice A n c] w fun e w' => e = .returned (.bool true) ∧ Below w.heap.size w w' := by
  by_cases hbig : 1048576 < n
  · go_enter Try.func18, Try.ntmps18
    go_wp2
    go_ret
    exact ⟨rfl, Below.refl _ _⟩
  go_enter Try.func18, Try.ntmps18
  go_wp2_with fail
  refine (c_DrawMovedBy _ _ _ _ h hc).mono ?_
  rintro e w1 ⟨C, d, zs, C2, d2, ys, D, d', qs, rfl, hd, hl, hz, hd2, hl2, hy, hd', hl', hq, B⟩
  clear h
  have hres := mvV_bd zs ys qs
  go_wp2_with fail
  refine (n_iMovedBy _ _ _ _ _ _ _ _ _ zs ys qs _ hz hy hq rfl rfl rfl (by omega) (by omega) (by omega)).mono ?_
  rintro e w2 ⟨G, _, dg, rfl, rfl, OG, b⟩
  replace hz := hz.to b
  replace hy := hy.to b
  replace hq := hq.to b
  replace B := Bl.then B b
  clear b
  go_wp2_with fail
  refine (n_sMovedBy _ _ _ _ _ _ _ _ _ zs ys qs _ hz hy hq rfl rfl rfl (by omega) (by omega) (by omega)).mono ?_
  rintro e w3 ⟨W, _, dw, rfl, rfl, OW', b⟩
  replace OG := OG.to b
  replace hz := hz.to b
  replace hy := hy.to b
  replace hq := hq.to b
  replace B := Bl.then B b
  clear b
  go_wp2_with fail
  refine (n_equalInts _ _ _ _ _ _ _ _ _ OG.ri.1 OW'.ri.1 rfl rfl (by omega)).mono ?_
  rintro e w4 ⟨rfl, b⟩
  replace OG := OG.to b
  replace hz := hz.to b
  replace hy := hy.to b
  replace hq := hq.to b
  replace B := Bl.then B b
  clear b OW'
  rw [eqL_same]
  have HC := Lib.hid (mvV_comm zs ys qs)
  go_wp2_with fail
  refine (n_iMovedBy _ _ _ _ _ _ _ _ _ ys zs qs _ hy hz hq rfl rfl rfl (by omega) (by omega) (by omega)).mono ?_
  rw [HC.out]
  rintro e w5 ⟨W, _, dw, rfl, rfl, OW', b⟩
  replace OG := OG.to b
  replace B := Bl.then B b
  clear b
  go_wp2_with fail
  refine (n_equalInts _ _ _ _ _ _ _ _ _ OW'.ri.1 OG.ri.1 rfl rfl (by omega)).mono ?_
  rintro e w6 ⟨rfl, b⟩
  replace B := Bl.then B b
  rw [eqL_same]
  go_wp2
  go_ret
  exact ⟨rfl, B⟩
end Go.Proofs.Ytcfleoobhgagoaa
