/- Contracts of the generator: ends inside; words on rows of records. -/
import Derived.Test.YthlaldikdlljfaaDoorR7
import Derived.Test.YthlaldikdlljfaaDoorGen3
namespace Go.Proofs.YthlaldikdlljfaaDoor
open Go.RowKit

theorem recCs_one (l : List Rec) : ∀ u ∈ recCs l, u.oneCell' = true := fun u hu => by
  unfold recCs at hu
  obtain ⟨r, _, hr⟩ := List.mem_flatMap.1 hu
  simp only [recC, List.mem_cons, List.not_mem_nil, or_false] at hr
  rcases hr with rfl | rfl | rfl | rfl | rfl <;> rfl
theorem lit_rec {w : World} {t n : Nat} {cs : Array Value} (r : Rec) (hn : n = w.heap.size) (hc : cs = (recC r).toArray) : RR (w.alloc (.cells cs t)) (some ⟨n, 0, none⟩) [r] := by
  subst hn hc
  refine RR.of_blk (Blk.new w t _) (fun j _ => ?_)
  simp [recCs]
theorem Rd.of_ownS {w : World} {base e size n c : Nat} {A : Option Addr} {vs : List Value} (h : w.ownsRow base e size (.slice A n c) n vs) : Rd w A vs := by
  rcases h.2 with ⟨_, h0⟩ | ⟨g, cap, cur, hv, hg, hh, hn, hm, hs, ht⟩
  · subst h0
    have : vs = [] := List.eq_nil_of_length_eq_zero (by have := h.1; omega)
    subst this
    exact Rd.nil _ _
  · injection hv with hA
    subst hA
    have hb : Blk w g e cur := hh
    intro k v hk
    refine ⟨g, 0, rfl, hb.lt, ?_⟩
    rw [Nat.zero_add, hb.cell]
    rw [← ht, List.getElem?_take] at hk
    split at hk
    · simpa using hk
    · cases hk
section
variable {w w' : World} {base g n c : Nat} {v : Value} {A : Option Addr} {l : List Rec}
end

/-- What a generator of an end leaves. -/
def GenE (w : World) (g p k : Nat) (R : Int → Int → Prop) (e : Ending) (w' : World) : Prop :=
  ∃ (x y : Int) (p' : Nat), e = .returned (.agg #[.int .i64 x, .int .i64 y]) ∧ R x y ∧ Rdr w' g p' ∧ p' ≤ p + k ∧ w.grownBy w' (some g)

end Go.Proofs.YthlaldikdlljfaaDoor
