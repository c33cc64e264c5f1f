/- Contracts of the reference's functions that make tables: expire, mapEnd, MapEnd. -/
import Derived.Test.YthlaldikdlljfaaDoorT9
import Derived.Deep.DeepMust
namespace Go.Proofs.YthlaldikdlljfaaDoor
open Go.RowKit

/-- A table with a mapping of an end, and its port. -/
def mapT (l : List Mpg) (n : Nat) (x y now : Int) : Option (List Mpg × Int) :=
  if 0 ≤ byE l x y n then some (l.set (byE l x y n).toNat { mn l (byE l x y n).toNat with la := max (mn l (byE l x y n).toNat).la now }, (mn l (byE l x y n).toNat).po)
  else if fpt l n y < 0 then none else some (l ++ [⟨x, y, fpt l n y, now⟩], fpt l n y)
/-- What mapEnd hands back. -/
def EndM (q : Option (List Mpg × Int)) (w : World) (e : Ending) (w' : World) : Prop :=
  Below w.heap.size w w' ∧ match q with
    | none => e = .returned (.tuple #[.slice none 0 0, .int .i64 (-1), .bool false])
    | some (l', p) => ∃ v, e = .returned (.tuple #[v, .int .i64 p, .bool true]) ∧ MO w' w.heap.size v l'
theorem mapCs_set {l : List Mpg} {k : Nat} (hk : k < l.length) (t : Int) : (mapCs l).set (k * 4 + 3) (.int .i64 t) = mapCs (l.set k { mn l k with la := t }) := by
  apply List.ext_getElem?
  intro j
  by_cases hj : j < l.length * 4
  · have e : j = j / 4 * 4 + j % 4 := by omega
    have hi4 : j % 4 < 4 := Nat.mod_lt _ (by omega)
    have hjl : j / 4 < l.length := by omega
    generalize j / 4 = q at e hjl
    generalize j % 4 = i at e hi4
    subst e
    rw [mapCs_at (by rw [List.length_set]; exact hjl) hi4, List.getElem?_set]
    have hset : mn (l.set k { mn l k with la := t }) q = if k = q then { mn l k with la := t } else mn l q := by
      unfold mn
      rw [List.getElem?_set]
      by_cases h : k = q
      · subst h
        rw [if_pos rfl, if_pos rfl, if_pos hk]; rfl
      · rw [if_neg h, if_neg h]
    rw [hset]
    by_cases hq : k = q
    · subst hq
      rw [if_pos rfl]
      by_cases hi : i = 3
      · subst hi
        rw [if_pos rfl, if_pos (by rw [mapCs_len]; omega)]; rfl
      · rw [if_neg (by omega), mapCs_at hk hi4]
        rcases i with _ | _ | _ | i
        · rfl
        · rfl
        · rfl
        · omega
    · rw [if_neg hq, if_neg (by omega), mapCs_at hjl hi4]
  · rw [List.getElem?_eq_none (by rw [List.length_set, mapCs_len]; omega), List.getElem?_eq_none (by rw [mapCs_len, List.length_set]; omega)]
end Go.Proofs.YthlaldikdlljfaaDoor
