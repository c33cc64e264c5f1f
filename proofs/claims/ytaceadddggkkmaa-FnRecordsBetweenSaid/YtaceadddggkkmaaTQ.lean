/- Plain laws on the records that lead from table to table. No conditions. -/
import Derived.Test.YtaceadddggkkmaaTP
namespace Go.Proofs.Ytaceadddggkkmaa

/-- Who has a port behind one more record. -/
def stepO (f : Int → Option (Int × Int)) (r : Rec) : Int → Option (Int × Int) := fun p => if r.po = p then (if r.ov then none else some (r.ad, r.ep)) else f p
def runO (f : Int → Option (Int × Int)) (l : List Rec) : Int → Option (Int × Int) := l.foldl stepO f
/-- A record fits what is had. -/
def fitO (f : Int → Option (Int × Int)) (r : Rec) : Prop := if r.ov then f r.po = some (r.ad, r.ep) else f r.po = none
def goodO : (Int → Option (Int × Int)) → List Rec → Prop
  | _, [] => True
  | f, r :: l => fitO f r ∧ goodO (stepO f r) l
def noO : Int → Option (Int × Int) := fun _ => none
theorem goodO_app : ∀ (l m : List Rec) (f : Int → Option (Int × Int)), goodO f (l ++ m) ↔ goodO f l ∧ goodO (runO f l) m
  | [], m, f => by simp [goodO, runO]
  | r :: l, m, f => by
    have := goodO_app l m (stepO f r)
    simp only [List.cons_append, goodO, runO, List.foldl_cons] at this ⊢
    rw [this, and_assoc]
theorem runO_app (l m : List Rec) (f : Int → Option (Int × Int)) : runO f (l ++ m) = runO (runO f l) m := by unfold runO; rw [List.foldl_append]
theorem own_run (l : List Rec) (p : Int) : ∀ k, k ≤ l.length → ownP l p k = runO noO (l.take k) p
  | 0, _ => by simp [ownP, runO, noO]
  | k + 1, h => by
    have ih := own_run l p k (by omega)
    have hr : rn l k = l[k] := by simp [rn, show k < l.length by omega]
    rw [List.take_add_one, List.getElem?_eq_getElem (by omega), runO_app]
    unfold ownP
    rw [ih, hr]
    simp [runO, stepO]
theorem good_at : ∀ (l : List Rec) (f : Int → Option (Int × Int)), goodO f l → ∀ i, i < l.length → fitO (runO f (l.take i)) (rn l i)
  | [], _, _, i, hi => absurd hi (by simp)
  | r :: l, f, h, 0, _ => by simpa [runO, rn] using h.1
  | r :: l, f, h, i + 1, hi => by
    have := good_at l (stepO f r) h.2 i (by simpa using hi)
    simpa [runO, rn] using this
theorem fit_good {l : List Rec} (h : goodO noO l) {i : Nat} (hi : i < l.length) : fit l i = true := by
  have := good_at l noO h i hi
  unfold fitO at this
  unfold fit
  rw [own_run l _ i (by omega)]
  split at this
  · rename_i ho
    rw [if_pos ho, this]; simp
  · rename_i ho
    rw [if_neg ho, this]; rfl

/-- The end of the mapping of a port. -/
def ownT (L : List Mpg) (p : Int) : Option (Int × Int) := (L.find? (fun m => decide (m.po = p))).map (fun m => (m.ad, m.ep))
def addF (f : Int → Option (Int × Int)) (L : List Mpg) : Int → Option (Int × Int) := fun p => match ownT L p with | some e => some e | none => f p
def remF (f : Int → Option (Int × Int)) (L : List Mpg) : Int → Option (Int × Int) := fun p => match ownT L p with | some _ => none | none => f p
/-- Each port stands once. -/
def OnceP (L : List Mpg) : Prop := L.Pairwise (fun m n => m.po ≠ n.po)
theorem ownT_cons (m : Mpg) (L : List Mpg) (p : Int) : ownT (m :: L) p = if m.po = p then some (m.ad, m.ep) else ownT L p := by
  unfold ownT
  rw [List.find?_cons]
  by_cases h : m.po = p <;> simp [h]
theorem ownT_none {L : List Mpg} {p : Int} : ownT L p = none ↔ ∀ m ∈ L, m.po ≠ p := by unfold ownT; simp
theorem ownT_some {L : List Mpg} (h : OnceP L) {m : Mpg} (hm : m ∈ L) : ownT L m.po = some (m.ad, m.ep) := by
  induction L with
  | nil => cases hm
  | cons x L ih =>
    rw [ownT_cons]
    rcases List.mem_cons.1 hm with rfl | h1
    · rw [if_pos rfl]
    · have h2 := List.pairwise_cons.1 h
      rw [if_neg (h2.1 m h1), ih h2.2 h1]
theorem good_add (now : Int) : ∀ (L : List Mpg) (f : Int → Option (Int × Int)), OnceP L → (∀ m ∈ L, f m.po = none) → goodO f (L.map (recOf now false)) ∧ runO f (L.map (recOf now false)) = addF f L
  | [], f, _, _ => ⟨trivial, by funext p; rfl⟩
  | m :: L, f, h, hf => by
    have h2 := List.pairwise_cons.1 h
    have ih := good_add now L (stepO f (recOf now false m)) h2.2 (fun x hx => by
      show (if m.po = x.po then _ else f x.po) = none
      rw [if_neg (h2.1 x hx), hf x (List.mem_cons_of_mem _ hx)])
    refine ⟨⟨?_, ih.1⟩, ?_⟩
    · show (if false = true then _ else f m.po = none)
      rw [if_neg (by decide)]
      exact hf m (List.mem_cons_self ..)
    · rw [List.map_cons]
      show runO (stepO f (recOf now false m)) _ = _
      rw [ih.2]
      funext p
      unfold addF
      rw [ownT_cons]
      by_cases hp : m.po = p
      · subst hp
        rw [ownT_none.2 (fun x hx e => h2.1 x hx e.symm), if_pos rfl]
        show (if m.po = m.po then _ else _) = _
        rw [if_pos rfl]; rfl
      · rw [if_neg hp]
        cases ownT L p with
        | some e => rfl
        | none => show (if m.po = p then _ else _) = _; rw [if_neg hp]
theorem good_rem (now : Int) : ∀ (L : List Mpg) (f : Int → Option (Int × Int)), OnceP L → (∀ m ∈ L, f m.po = some (m.ad, m.ep)) → goodO f (L.map (recOf now true)) ∧ runO f (L.map (recOf now true)) = remF f L
  | [], f, _, _ => ⟨trivial, by funext p; rfl⟩
  | m :: L, f, h, hf => by
    have h2 := List.pairwise_cons.1 h
    have ih := good_rem now L (stepO f (recOf now true m)) h2.2 (fun x hx => by
      show (if m.po = x.po then _ else f x.po) = _
      rw [if_neg (h2.1 x hx), hf x (List.mem_cons_of_mem _ hx)])
    refine ⟨⟨?_, ih.1⟩, ?_⟩
    · show (if true = true then f m.po = some (m.ad, m.ep) else _)
      rw [if_pos rfl]
      exact hf m (List.mem_cons_self ..)
    · rw [List.map_cons]
      show runO (stepO f (recOf now true m)) _ = _
      rw [ih.2]
      funext p
      unfold remF
      rw [ownT_cons]
      by_cases hp : m.po = p
      · subst hp
        rw [ownT_none.2 (fun x hx e => h2.1 x hx e.symm), if_pos rfl]
        show (if m.po = m.po then _ else _) = _
        rw [if_pos rfl]; rfl
      · rw [if_neg hp]
        cases ownT L p with
        | some e => rfl
        | none => show (if m.po = p then _ else _) = _; rw [if_neg hp]
theorem tab_once {l : List Mpg} (h : vTab l = true) : OnceP l := by
  unfold OnceP
  rw [List.pairwise_iff_getElem]
  intro i j hi hj hij e
  have := tab_port h hi hj (by simpa [mn, hi, hj] using e)
  omega
theorem once_filter {l : List Mpg} (h : OnceP l) (q : Mpg → Bool) : OnceP (l.filter q) := List.Pairwise.filter q h
theorem once_eq {l : List Mpg} (h : OnceP l) {m n : Mpg} (hm : m ∈ l) (hn : n ∈ l) (e : m.po = n.po) : m.ad = n.ad ∧ m.ep = n.ep := by
  have h1 := ownT_some h hm
  have h2 := ownT_some h hn
  rw [e] at h1
  rw [h1] at h2
  injection h2 with h3
  injection h3 with h4 h5
  exact ⟨h4, h5⟩
theorem hasM_mem {l : List Mpg} {m : Mpg} : hasM l m = true ↔ ∃ n ∈ l, n.ad = m.ad ∧ n.ep = m.ep ∧ n.po = m.po := by
  unfold hasM
  rw [List.any_eq_true]
  simp only [Bool.and_eq_true, decide_eq_true_eq]
theorem hasM_self {l : List Mpg} {m : Mpg} (h : m ∈ l) : hasM l m = true := hasM_mem.2 ⟨m, h, rfl, rfl, rfl⟩
theorem vTab_nil : vTab [] = true := by rfl
theorem hasM_nil (m : Mpg) : hasM [] m = false := rfl
theorem filter_own (a : List Mpg) : a.filter (fun m => !hasM a m) = [] := by
  rw [List.filter_eq_nil_iff]
  intro m hm
  rw [hasM_self hm]; decide
theorem filter_none (a : List Mpg) : a.filter (fun m => !hasM [] m) = a := by
  rw [List.filter_eq_self]
  intro m _; rfl
theorem btw {a b : List Mpg} {now : Int} (h1 : vTab a = true) (h2 : vTab b = true) (h3 : inB now 0 10000 = true) : between a b now = (a.filter (fun m => !hasM b m)).map (recOf now true) ++ (b.filter (fun m => !hasM a m)).map (recOf now false) := by
  unfold between; rw [h1, h2, h3]; rfl
/-- FnRecordsBetweenNone. -/
theorem btw_same (a : List Mpg) (now : Int) : between a a now = [] := by
  unfold between; rw [filter_own]; simp
theorem btw_from {b : List Mpg} {now : Int} (h2 : vTab b = true) (h3 : inB now 0 10000 = true) : between [] b now = b.map (recOf now false) := by
  rw [btw vTab_nil h2 h3, filter_none]; rfl
theorem btw_to {b : List Mpg} {now : Int} (h2 : vTab b = true) (h3 : inB now 0 10000 = true) : between b [] now = b.map (recOf now true) := by
  rw [btw h2 vTab_nil h3, filter_none]; simp
theorem btw_le (a b : List Mpg) (now : Int) : (between a b now).length ≤ a.length + b.length := by
  unfold between
  split
  · rw [List.length_append, List.length_map, List.length_map]
    have := List.length_filter_le (fun m => !hasM b m) a
    have := List.length_filter_le (fun m => !hasM a m) b
    omega
  · simp
/-- FnRecordsBetweenBack. -/
theorem btw_back_len (a b : List Mpg) (now : Int) : (between b a now).length = (between a b now).length := by
  unfold between
  cases vTab a <;> cases vTab b <;> cases inB now 0 10000 <;> simp [Nat.add_comm]
theorem btw_back {a b : List Mpg} {now : Int} {r : Rec} (h : r ∈ between a b now) : r.at_ = now ∧ (⟨now, r.po, r.ad, r.ep, !r.ov⟩ : Rec) ∈ between b a now := by
  unfold between at h ⊢
  cases h1 : vTab a
  · rw [h1] at h; simp at h
  cases h2 : vTab b
  · rw [h2] at h; simp at h
  cases h3 : inB now 0 10000
  · rw [h3] at h; simp at h
  rw [h1, h2, h3] at h
  simp only [Bool.and_self, if_true] at h ⊢
  rcases List.mem_append.1 h with h | h
  · obtain ⟨m, hm, rfl⟩ := List.mem_map.1 h
    exact ⟨rfl, List.mem_append.2 (.inr (List.mem_map.2 ⟨m, hm, rfl⟩))⟩
  · obtain ⟨m, hm, rfl⟩ := List.mem_map.1 h
    exact ⟨rfl, List.mem_append.2 (.inl (List.mem_map.2 ⟨m, hm, rfl⟩))⟩
/-- FnRecordsBetween: the way over the empty table. -/
def way (a b : List Mpg) (now : Int) : List Rec := between [] a now ++ between a b now
section
variable {a b : List Mpg} {now : Int}
theorem way_eq (h1 : vTab a = true) (h2 : vTab b = true) (h3 : inB now 0 10000 = true) :
    way a b now = a.map (recOf now false) ++ ((a.filter (fun m => !hasM b m)).map (recOf now true) ++ (b.filter (fun m => !hasM a m)).map (recOf now false)) := by
  unfold way; rw [btw_from h1 h3, btw h1 h2 h3]
theorem mem_out {a b : List Mpg} {m : Mpg} : m ∈ a.filter (fun m => !hasM b m) ↔ m ∈ a ∧ hasM b m = false := by
  rw [List.mem_filter]; simp
theorem way_good (h1 : vTab a = true) (h2 : vTab b = true) (h3 : inB now 0 10000 = true) :
    goodO noO (way a b now) ∧ ∀ p, runO noO (way a b now) p = ownT b p := by
  have oa := tab_once h1
  have ob := tab_once h2
  have oa' := once_filter oa (fun m => !hasM b m)
  have ob' := once_filter ob (fun m => !hasM a m)
  rw [way_eq h1 h2 h3, goodO_app, goodO_app, runO_app, runO_app]
  obtain ⟨g1, r1⟩ := good_add now a noO oa (fun m _ => rfl)
  have f1 : ∀ p, addF noO a p = ownT a p := fun p => by unfold addF; cases ownT a p <;> rfl
  obtain ⟨g2, r2⟩ := good_rem now _ (addF noO a) oa' (fun m hm => by rw [f1]; exact ownT_some oa (mem_out.1 hm).1)
  have f2 : ∀ p, remF (addF noO a) (a.filter (fun m => !hasM b m)) p = (ownT b p).filter (fun _ => (ownT a p).isSome && (b.filter (fun m => !hasM a m)).all (fun m => decide (m.po ≠ p))) := fun p => by
    unfold remF
    rw [f1]
    cases ha : ownT (a.filter (fun m => !hasM b m)) p with
    | some e =>
      cases hb : ownT b p with
      | none => rfl
      | some e2 =>
        have hex : ∃ m ∈ b, m.po = p := Classical.byContradiction fun hn => by
          rw [ownT_none.2 (fun m hm e => hn ⟨m, hm, e⟩)] at hb; cases hb
        obtain ⟨m, hm, rfl⟩ := hex
        have hex2 : ∃ n ∈ a.filter (fun m => !hasM b m), n.po = m.po := Classical.byContradiction fun hn => by
          rw [ownT_none.2 (fun m hm e => hn ⟨m, hm, e⟩)] at ha; cases ha
        obtain ⟨n, hn, e⟩ := hex2
        have hn' := mem_out.1 hn
        have hma : hasM a m = false := by
          cases hh : hasM a m
          · rfl
          · obtain ⟨x, hx, e1, e2', e3⟩ := hasM_mem.1 hh
            obtain ⟨q1, q2⟩ := once_eq oa hx hn'.1 (e3.trans e.symm)
            have : hasM b n = true := hasM_mem.2 ⟨m, hm, by omega, by omega, by omega⟩
            rw [hn'.2] at this; cases this
        have hmb : m ∈ b.filter (fun m => !hasM a m) := mem_out.2 ⟨hm, hma⟩
        have : (b.filter (fun m => !hasM a m)).all (fun x => decide (x.po ≠ m.po)) = false := by
          rw [List.all_eq_false]
          exact ⟨m, hmb, by simp⟩
        rw [this]; simp
    | none =>
      cases hat : ownT a p with
      | none => simp
      | some e =>
        have hex : ∃ m ∈ a, m.po = p := Classical.byContradiction fun hn => by
          rw [ownT_none.2 (fun m hm e => hn ⟨m, hm, e⟩)] at hat; cases hat
        obtain ⟨m, hm, rfl⟩ := hex
        have hmb : hasM b m = true := by
          cases hh : hasM b m
          · exact absurd rfl (ownT_none.1 ha m (mem_out.2 ⟨hm, hh⟩))
          · rfl
        obtain ⟨n, hn, e1, e2, e3⟩ := hasM_mem.1 hmb
        have q1 := ownT_some oa hm
        have q2 := ownT_some ob hn
        rw [e1, e2, e3] at q2
        rw [hat] at q1
        rw [q2, q1]
        have : (b.filter (fun m => !hasM a m)).all (fun x => decide (x.po ≠ m.po)) = true := by
          rw [List.all_eq_true]
          intro x hx
          have hx' := mem_out.1 hx
          rw [decide_eq_true_eq]
          intro e
          obtain ⟨w1, w2⟩ := once_eq ob hx'.1 hn (e.trans e3.symm)
          have : hasM a x = true := hasM_mem.2 ⟨m, hm, by omega, by omega, e.symm⟩
          rw [hx'.2] at this; cases this
        rw [this]; rfl
  obtain ⟨g3, r3⟩ := good_add now _ (remF (addF noO a) (a.filter (fun m => !hasM b m))) ob' (fun m hm => by
    rw [f2]
    have : (b.filter (fun m => !hasM a m)).all (fun x => decide (x.po ≠ m.po)) = false := by
      rw [List.all_eq_false]
      exact ⟨m, hm, by simp⟩
    rw [this]; simp)
  rw [r1, r2, r3]
  refine ⟨⟨g1, g2, g3⟩, fun p => ?_⟩
  unfold addF
  rw [show remF (fun p => match ownT a p with | some e => some e | none => noO p) (a.filter (fun m => !hasM b m)) p = _ from f2 p]
  cases hb' : ownT (b.filter (fun m => !hasM a m)) p with
  | some e =>
    have hex : ∃ m ∈ b.filter (fun m => !hasM a m), m.po = p := Classical.byContradiction fun hn => by
      rw [ownT_none.2 (fun m hm e => hn ⟨m, hm, e⟩)] at hb'; cases hb'
    obtain ⟨m, hm, rfl⟩ := hex
    have q1 := ownT_some ob' hm
    have q2 := ownT_some ob (mem_out.1 hm).1
    rw [q2, ← q1, hb']
  | none =>
    have hall : (b.filter (fun m => !hasM a m)).all (fun x => decide (x.po ≠ p)) = true := by
      rw [List.all_eq_true]
      intro x hx
      rw [decide_eq_true_eq]
      exact ownT_none.1 hb' x hx
    rw [hall, Bool.and_true]
    cases hb : ownT b p with
    | none => rfl
    | some e =>
      have hex : ∃ m ∈ b, m.po = p := Classical.byContradiction fun hn => by
        rw [ownT_none.2 (fun m hm e => hn ⟨m, hm, e⟩)] at hb; cases hb
      obtain ⟨m, hm, rfl⟩ := hex
      have hma : hasM a m = true := by
        cases hh : hasM a m
        · exact absurd rfl (ownT_none.1 hb' m (mem_out.2 ⟨hm, hh⟩))
        · rfl
      obtain ⟨n, hn, e1, e2, e3⟩ := hasM_mem.1 hma
      have q := ownT_some oa hn
      rw [e3] at q
      rw [q]; rfl
theorem mem_way {r : Rec} (h : r ∈ way a b now) : ∃ m ov, (m ∈ a ∨ m ∈ b) ∧ r = recOf now ov m := by
  unfold way between at h
  rcases List.mem_append.1 h with h | h
  · split at h
    · rcases List.mem_append.1 h with h | h
      · simp at h
      · obtain ⟨m, hm, rfl⟩ := List.mem_map.1 h
        exact ⟨m, false, .inl (List.mem_filter.1 hm).1, rfl⟩
    · simp at h
  · split at h
    · rcases List.mem_append.1 h with h | h
      · obtain ⟨m, hm, rfl⟩ := List.mem_map.1 h
        exact ⟨m, true, .inl (List.mem_filter.1 hm).1, rfl⟩
      · obtain ⟨m, hm, rfl⟩ := List.mem_map.1 h
        exact ⟨m, false, .inr (List.mem_filter.1 hm).1, rfl⟩
    · simp at h
theorem way_at {i : Nat} (hi : i < (way a b now).length) : ∃ m ov, (m ∈ a ∨ m ∈ b) ∧ rn (way a b now) i = recOf now ov m := mem_way (rn_mem hi)
theorem tab_ok {l : List Mpg} (h : vTab l = true) {m : Mpg} (hm : m ∈ l) : okM m = true := by
  obtain ⟨k, hk, rfl⟩ := mem_mn hm
  exact (tab_at h hk).1
theorem way_valid (h1 : vTab a = true) (h2 : vTab b = true) (h3 : inB now 0 10000 = true) (hl : (way a b now).length ≤ 16) : vRec (way a b now) = true := by
  obtain ⟨n0, n1⟩ := inB_true h3
  refine vRec_iff.2 ⟨fun i hi => ?_, fun i hi => fit_good (way_good h1 h2 h3).1 hi, hl⟩
  obtain ⟨m, ov, hm, e⟩ := way_at hi
  have hok : okM m = true := hm.elim (tab_ok h1) (tab_ok h2)
  obtain ⟨⟨a1, a2⟩, a3, a4⟩ := okM_iff.1 hok
  refine stat_iff.2 ?_
  rw [e]
  refine ⟨⟨?_, n1⟩, a3, a1, a2⟩
  unfold pat
  split
  · exact n0
  · obtain ⟨m', ov', _, e'⟩ := way_at (a := a) (b := b) (now := now) (i := i - 1) (by omega)
    rw [e']
    exact Int.le_refl _
theorem way_upTo : upTo (way a b now) now = (way a b now).length := upTo_eq (Nat.le_refl _) (fun j hj => by
  obtain ⟨m, ov, _, e⟩ := way_at hj
  rw [e]; exact Int.le_refl _) (fun h => absurd h (Nat.lt_irrefl _))
theorem way_own (h1 : vTab a = true) (h2 : vTab b = true) (h3 : inB now 0 10000 = true) (p : Int) : ownP (way a b now) p (upTo (way a b now) now) = ownT b p := by
  rw [way_upTo, own_run _ _ _ (Nat.le_refl _), List.take_length]
  exact (way_good h1 h2 h3).2 p
theorem way_who (h1 : vTab a = true) (h2 : vTab b = true) (h3 : inB now 0 10000 = true) (hl : (way a b now).length ≤ 16) {i : Nat} (hi : i < b.length) :
    who (way a b now) (mn b i).po now = some ((mn b i).ad, (mn b i).ep) := by
  unfold who
  rw [way_valid h1 h2 h3 hl, if_pos rfl, way_own h1 h2 h3]
  exact ownT_some (tab_once h2) (mn_mem hi)
theorem way_ports (h1 : vTab a = true) (h2 : vTab b = true) (h3 : inB now 0 10000 = true) (hl : (way a b now).length ≤ 16) : (ports (way a b now) now).length = b.length := by
  have hv := way_valid h1 h2 h3 hl
  have hnd : (ports (way a b now) now).Nodup := by
    unfold ports
    rw [hv, if_pos rfl]
    refine List.Pairwise.filter _ (List.pairwise_map.2 (List.pairwise_lt_range.imp ?_))
    intro a b hab
    omega
  have hnb : (b.map (·.po)).Nodup := List.pairwise_map.2 (tab_once h2)
  have hp : (ports (way a b now) now).Perm (b.map (·.po)) := by
    refine (List.perm_ext_iff_of_nodup hnd hnb).2 fun p => ?_
    rw [mem_ports]
    unfold who
    rw [hv, if_pos rfl, way_own h1 h2 h3, List.mem_map]
    constructor
    · intro h
      refine Classical.byContradiction fun hn => ?_
      rw [ownT_none.2 (fun m hm e => hn ⟨m, hm, e⟩)] at h
      cases h
    · rintro ⟨m, hm, rfl⟩
      rw [ownT_some (tab_once h2) hm]; rfl
  rw [hp.length_eq, List.length_map]
end
end Go.Proofs.Ytaceadddggkkmaa
