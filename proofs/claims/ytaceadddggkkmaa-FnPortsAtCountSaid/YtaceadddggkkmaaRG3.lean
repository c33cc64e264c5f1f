/- Contracts of the generator: arguments of ValidRecords, WhoHad, PortsAt. -/
import Derived.Test.YtaceadddggkkmaaRG2
namespace Go.Proofs.Ytaceadddggkkmaa
open Go.RowKit

theorem c_DrawValidRecords (A : Option Addr) (n c : Nat) (w : World) (h : RB w A n) (hc : n ≤ c) :
    Calls Try.prog 18 #[.slice A n c] w fun e w' => ∃ D m d l, e = .returned (.slice D m d) ∧ l.length = m ∧ m ≤ d ∧ RR w' D l ∧ m ≤ 20 ∧ Below w.heap.size w w' := by
  go_enter Try.func18, Try.ntmps18
  go_wp2_with fail
  refine (c_newReader _ _ _ _ h hc).mono ?_
  rintro e w1 ⟨g, rfl, hr, hg, hb⟩
  go_wp2_with fail
  refine (c_someRecords _ _ _ hr (by omega)).mono ?_
  rintro e w2 ⟨D, m, d, l, p', rfl, hl, hd, hR, hm, hr, hp, G, -⟩
  go_wp2
  go_ret
  exact ⟨D, m, d, l, rfl, hl, hd, hR, hm, below_of_grown (grown_trans (grown_of_below hb (some g)) G) (Nat.le_refl _) hg⟩

theorem c_DrawWhoHad (A : Option Addr) (n c : Nat) (w : World) (h : RB w A n) (hc : n ≤ c) :
    Calls Try.prog 24 #[.slice A n c] w fun e w' => ∃ D m d l po now, e = .returned (.tuple #[.slice D m d, .int .i64 po, .int .i64 now]) ∧ l.length = m ∧ m ≤ d ∧ RR w' D l ∧ m ≤ 20 ∧ (1000 ≤ po ∧ po ≤ 1004) ∧ (-1 ≤ now ∧ now ≤ 20000) ∧ Below w.heap.size w w' := by
  go_enter Try.func24, Try.ntmps24
  go_wp2_with fail
  refine (c_newReader _ _ _ _ h hc).mono ?_
  rintro e w1 ⟨g, rfl, hr, hg, hb⟩
  go_wp2_with fail
  have hg1 := hr.lt
  refine (c_someRecords _ _ _ hr (by omega)).mono ?_
  rintro e w2 ⟨D, m, d, l, p', rfl, hl, hd, hR, hm, hr, hp, G, hD⟩
  replace G := grown_trans (grown_of_below hb (some g)) G
  have hgl : ∀ a, D = some a → a.block ≠ g := fun a ha => by
    have := hD a ha
    omega
  go_wp2_with fail
  refine (c_pick _ _ _ _ hr (by omega)).mono ?_
  rintro e w3 ⟨x, rfl, a1, b1, -, hr, h3⟩
  replace b1 := b1 (by omega)
  replace hR := hR.grown h3 hgl
  replace G := grown_trans G h3
  clear h3
  go_wp2_with fail
  refine (c_pick _ _ _ _ hr (by omega)).mono ?_
  rintro e w4 ⟨y, rfl, a2, b2, -, hr, h3⟩
  replace b2 := b2 (by omega)
  replace hR := hR.grown h3 hgl
  replace G := grown_trans G h3
  clear h3
  go_wp2_with fail
  refine (c_one _ _ _ _ [0, 5, 10, 20, 100, -1, 20000, y] _ (hr.alloc _) (by omega) (lit_ints _ rfl rfl) (by simp) (by simp) (lit_far hr rfl)).mono ?_
  rintro e w5 ⟨z, rfl, hz, hr, h3⟩
  have hzb : -1 ≤ z ∧ z ≤ 20000 := by
    simp only [List.mem_cons, List.not_mem_nil, or_false] at hz
    omega
  clear hz
  replace hR := (hR.alloc _).grown h3 hgl
  replace G := grown_trans (grown_alloc G _) h3
  clear h3
  go_wp2
  refine bodyPost_ret (v := .tuple #[.slice D m d, .int .i64 (1000 + x), .int .i64 z]) (by simp [results, Try.results24, go_sem]) rfl ?_
  exact ⟨D, m, d, l, _, _, rfl, hl, hd, hR, hm, by omega, hzb, below_of_grown G (Nat.le_refl _) hg⟩

theorem c_DrawPortsAt (A : Option Addr) (n c : Nat) (w : World) (h : RB w A n) (hc : n ≤ c) :
    Calls Try.prog 39 #[.slice A n c] w fun e w' => ∃ D m d l now, e = .returned (.tuple #[.slice D m d, .int .i64 now]) ∧ l.length = m ∧ m ≤ d ∧ RR w' D l ∧ m ≤ 20 ∧ (-1 ≤ now ∧ now ≤ 20000) ∧ Below w.heap.size w w' := by
  go_enter Try.func39, Try.ntmps39
  go_wp2_with fail
  refine (c_DrawWhoHad _ _ _ _ h hc).mono ?_
  rintro e w1 ⟨D, m, d, l, po, now, rfl, hl, hd, hR, hm, -, hn, B⟩
  go_wp2
  refine bodyPost_ret (v := .tuple #[.slice D m d, .int .i64 now]) (by simp [results, Try.results39, go_sem]) rfl ?_
  exact ⟨D, m, d, l, now, rfl, hl, hd, hR, hm, hn, B⟩
end Go.Proofs.Ytaceadddggkkmaa
