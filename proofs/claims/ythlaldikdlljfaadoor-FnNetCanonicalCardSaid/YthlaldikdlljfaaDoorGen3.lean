/- Contracts of the generator: words, pools and addresses. -/
import Derived.Test.YthlaldikdlljfaaDoorGen2
namespace Go.Proofs.YthlaldikdlljfaaDoor
open Go.RowKit

/-- What a generator of a number leaves: a number in lo .. hi, the reader further on by at most k, nothing else turned. -/
def GenI (w : World) (g p k : Nat) (lo hi : Int) (e : Ending) (w' : World) : Prop :=
  ∃ (x : Int) (p' : Nat), e = .returned (.int .i64 x) ∧ lo ≤ x ∧ x ≤ hi ∧ Rdr w' g p' ∧ p' ≤ p + k ∧ w.grownBy w' (some g)
theorem lit_far {w : World} {g p n : Nat} (h : Rdr w g p) (hn : n = w.heap.size) : Far (some (⟨n, 0, none⟩ : Addr)) g := fun a ha => by
  injection ha with ha
  subst ha
  have := h.lt
  show n ≠ g
  omega

theorem c_someWord (g p : Nat) (w : World) (hr : Rdr w g p) (hp : p ≤ 1099511627000) :
    Calls Tryd.prog 79 #[.pointer (some ⟨g, 0, none⟩)] w (GenI w g p 5 0 65535) := by
  go_enter Tryd.func79, Tryd.ntmps79
  go_wp2_with fail
  refine (c_pick _ _ _ _ hr (by omega)).mono ?_
  rintro e w1 ⟨x1, rfl, a1, b1, -, hr, hg⟩
  replace b1 := b1 (by omega)
  go_wp2_with fail
  refine (c_pick _ _ _ _ hr (by omega)).mono ?_
  rintro e w2 ⟨x2, rfl, a2, b2, -, hr, h⟩
  replace b2 := b2 (by omega)
  replace hg := grown_trans hg h
  go_wp2_with fail
  refine (c_pick _ _ _ _ hr (by omega)).mono ?_
  rintro e w3 ⟨x3, rfl, a3, b3, -, hr, h⟩
  replace b3 := b3 (by omega)
  replace hg := grown_trans hg h
  go_wp2_with fail
  refine (c_pick _ _ _ _ hr (by omega)).mono ?_
  rintro e w4 ⟨x4, rfl, a4, b4, -, hr, h⟩
  replace b4 := b4 (by omega)
  replace hg := grown_trans hg h
  clear h
  go_wp2_with fail
  refine (c_one _ _ _ _ [0, 1, 65535, 65534, 32768, x1, 250 * x2 + x3, 262 * x4] _ (hr.alloc _) (by omega) (lit_ints _ rfl rfl) (by simp) (by simp) (lit_far hr rfl)).mono ?_
  rintro e w5 ⟨x, rfl, hx, hr, h⟩
  replace hg := grown_trans (grown_alloc hg _) h
  go_wp2
  go_ret
  have hb : 0 ≤ x ∧ x ≤ 65535 := by
    simp only [List.mem_cons, List.not_mem_nil, or_false] at hx
    omega
  exact ⟨x, _, rfl, hb.1, hb.2, hr, by omega, hg⟩

end Go.Proofs.YthlaldikdlljfaaDoor
