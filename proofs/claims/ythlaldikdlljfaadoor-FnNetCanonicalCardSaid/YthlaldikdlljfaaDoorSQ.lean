/- Plain words on the reading of numbers, addresses, ends and nets. No program. -/
import Derived.Test.YthlaldikdlljfaaDoorSP
import Derived.Lib.IndexMore
import Derived.Lib.AtoiAllCases
import Derived.Lib.ItoaNum
namespace Go.Proofs.YthlaldikdlljfaaDoor

/-- One digit more. -/
def stepD (a : Nat) (c : UInt8) : Nat := 10 * a + (c.toNat - 48)
def valL (s : List UInt8) : Nat := s.foldl stepD 0
def isDig (c : UInt8) : Bool := decide (48 ≤ c.toNat) && decide (c.toNat ≤ 57)
/-- The number of a numeral of at most five digits, -1 for other texts. -/
def numV (s : List UInt8) : Int := if decide (s.length ≤ 5) && (decide (s ≠ []) && (s.all isDig && decide (Lib.decDigits (valL s) = s))) then valL s else -1
theorem isDig_iff {c : UInt8} : isDig c = true ↔ 48 ≤ c.toNat ∧ c.toNat ≤ 57 := by unfold isDig; simp
theorem valL_snoc (l : List UInt8) (c : UInt8) : valL (l ++ [c]) = stepD (valL l) c := by unfold valL; rw [List.foldl_append]; rfl
theorem valL_digits : ∀ u : Nat, valL (Lib.decDigits u) = u := by
  intro u
  induction u using Nat.strongRecOn with
  | ind u ih =>
    rw [Lib.decDigits]
    split
    · rename_i h
      unfold valL stepD
      simp
      omega
    · rename_i h
      rw [valL_snoc, ih (u / 10) (by omega)]
      unfold stepD
      simp
      omega
theorem fold_lt : ∀ (l : List UInt8) (a : Nat), l.all isDig = true → l.foldl stepD a < (a + 1) * 10 ^ l.length
  | [], a, _ => by simp
  | c :: l, a, h => by
    rw [List.all_cons, Bool.and_eq_true] at h
    have hc := isDig_iff.1 h.1
    have ih := fold_lt l (stepD a c) h.2
    rw [List.foldl_cons, List.length_cons, Nat.pow_succ]
    have hs : stepD a c + 1 ≤ (a + 1) * 10 := by unfold stepD; omega
    have := Nat.mul_le_mul_right (10 ^ l.length) hs
    rw [Nat.mul_assoc, Nat.mul_comm 10] at this
    omega
theorem valL_lt {l : List UInt8} (h : l.all isDig = true) (hl : l.length ≤ 5) : valL l < 100000 := by
  have h1 := fold_lt l 0 h
  have h2 : 10 ^ l.length ≤ 10 ^ 5 := Nat.pow_le_pow_right (by omega) hl
  unfold valL
  omega
theorem digits_le : ∀ (k u : Nat), u < 10 ^ (k + 1) → (Lib.decDigits u).length ≤ k + 1
  | 0, u, h => by
    rw [Lib.decDigits, dif_pos (by omega)]
    simp
  | k + 1, u, h => by
    rw [Lib.decDigits]
    split
    · simp
    · have := digits_le k (u / 10) (by rw [Nat.pow_succ] at h; omega)
      rw [List.length_append]
      simp
      omega
theorem numV_bd (s : List UInt8) : -1 ≤ numV s ∧ numV s ≤ 99999 := by
  unfold numV
  split
  · rename_i h
    simp only [Bool.and_eq_true, decide_eq_true_eq] at h
    have := valL_lt h.2.2.1 h.1
    omega
  · omega
theorem numV_some {s : List UInt8} (h : 0 ≤ numV s) : dl (numV s) = s ∧ s.all isDig = true ∧ s.length ≤ 5 ∧ numV s = valL s := by
  unfold numV at h ⊢
  split at h
  · rename_i hc
    rw [if_pos hc]
    simp only [Bool.and_eq_true, decide_eq_true_eq] at hc
    exact ⟨by unfold dl; rw [Int.toNat_natCast]; exact hc.2.2.2, hc.2.2.1, hc.1, rfl⟩
  · omega
theorem dl_all (n : Int) : (dl n).all isDig = true := by
  rw [List.all_eq_true]
  intro b hb
  exact isDig_iff.2 (dl_dig hb)
theorem numV_dl {n : Int} (h0 : 0 ≤ n) (h1 : n ≤ 99999) : numV (dl n) = n := by
  have hv : valL (dl n) = n.toNat := valL_digits _
  have hl : (dl n).length ≤ 5 := digits_le 4 n.toNat (by omega)
  have hne : dl n ≠ [] := digits_ne _
  unfold numV
  rw [hv, if_pos (by simp only [Bool.and_eq_true, decide_eq_true_eq]; exact ⟨hl, hne, dl_all n, rfl⟩)]
  omega
/-- A text with a sign that is no digit has no number. -/
theorem numV_no {s : List UInt8} {c : UInt8} (hc : c ∈ s) (hd : isDig c = false) : numV s = -1 := by
  rcases Int.lt_or_le (numV s) 0 with h | h
  · have := (numV_bd s).1; omega
  · have := List.all_eq_true.1 (numV_some h).2.1 c hc
    rw [hd] at this; cases this
theorem parse_dig : ∀ (l : List UInt8) (a : Nat), l.all isDig = true → (a + 1) * 10 ^ l.length ≤ 1000000 → Lib.parseUint10 a l = .ok (l.foldl stepD a)
  | [], a, _, _ => rfl
  | c :: l, a, h, hb => by
    rw [List.all_cons, Bool.and_eq_true] at h
    have hc := isDig_iff.1 h.1
    rw [List.length_cons, Nat.pow_succ] at hb
    have hs : stepD a c + 1 ≤ (a + 1) * 10 := by unfold stepD; omega
    have h2 := Nat.mul_le_mul_right (10 ^ l.length) hs
    rw [Nat.mul_assoc, Nat.mul_comm 10] at h2
    have hp : 1 ≤ 10 ^ l.length := Nat.one_le_pow _ _ (by decide)
    have ha : a + 1 ≤ (a + 1) * (10 ^ l.length * 10) := Nat.le_mul_of_pos_right _ (by omega)
    have ih := parse_dig l (stepD a c) h.2 (by omega)
    have he : a * 10 + (c.toNat - 48) = stepD a c := by unfold stepD; omega
    unfold Lib.parseUint10
    rw [if_pos hc, if_neg (by omega), if_neg (by omega), he, ih]; rfl
theorem atoi_num {s : List UInt8} (h : 0 ≤ numV s) : Lib.atoiAll s = .ok (numV s) := by
  obtain ⟨h1, h2, h3, h4⟩ := numV_some h
  have hlt := valL_lt h2 h3
  rw [h4]
  cases s with
  | nil => unfold numV at h; simp at h
  | cons c r =>
    have hc := isDig_iff.1 (List.all_eq_true.1 h2 c (List.mem_cons_self ..))
    have hp := parse_dig (c :: r) 0 h2 (by
      have : 10 ^ (c :: r).length ≤ 10 ^ 5 := Nat.pow_le_pow_right (by omega) h3
      omega)
    unfold Lib.atoiAll
    have e1 : ¬ (c.toNat = 43) := by omega
    have e2 : ¬ (c.toNat = 45) := by omega
    simp only [e1, e2, or_self, if_false]
    unfold Lib.parseMag
    rw [if_neg (by simp), hp]
    show (if ¬ False ∧ 9223372036854775808 ≤ valL (c :: r) then Lib.NumEnd.range else if False ∧ 9223372036854775808 < valL (c :: r) then Lib.NumEnd.range else Lib.NumEnd.ok (valL (c :: r) : Int)) = _
    rw [if_neg (by omega), if_neg (by simp)]
theorem num_of_atoi {s : List UInt8} {v : Int} (h0 : 0 ≤ v) (hl : s.length ≤ 5) (hd : dl v = s) : numV s = v := by
  have h1 : v ≤ 99999 := by
    have h2 := dl_all v
    have h3 := valL_lt h2 (by rw [hd]; exact hl)
    have h4 : valL (dl v) = v.toNat := valL_digits _
    omega
  rw [← hd]
  exact numV_dl h0 h1

/-- The text before a sign, and behind it. -/
def cutc : List UInt8 → UInt8 → Option (List UInt8 × List UInt8)
  | [], _ => none
  | b :: l, c => if b = c then some ([], l) else (cutc l c).map (fun p => (b :: p.1, p.2))
theorem cutc_spec (c : UInt8) : ∀ l : List UInt8, (cutc l c = none ∧ Lib.index l [c] = -1 ∧ c ∉ l) ∨ (∃ x y, cutc l c = some (x, y) ∧ Lib.index l [c] = x.length ∧ l = x ++ c :: y ∧ c ∉ x)
  | [] => .inl ⟨rfl, rfl, by simp⟩
  | b :: l => by
    unfold cutc Lib.index
    by_cases h : b = c
    · subst h
      rw [if_pos rfl]
      exact .inr ⟨[], l, rfl, by simp, rfl, by simp⟩
    · have hcb : ¬ c = b := fun e => h e.symm
      have hp : ([c] : List UInt8).isPrefixOf (b :: l) = false := by simp [List.isPrefixOf, hcb]
      rw [if_neg h, hp]
      rcases cutc_spec c l with ⟨h1, h2, h3⟩ | ⟨x, y, h1, h2, h3, h4⟩
      · exact .inl ⟨by rw [h1]; rfl, by rw [h2]; rfl, by simp [h3, hcb]⟩
      · refine .inr ⟨b :: x, y, by rw [h1]; rfl, ?_, by rw [h3]; rfl, by simp [h4, hcb]⟩
        rw [h2]
        have : ((x.length : Int) == -1) = false := by rw [beq_eq_false_iff_ne]; omega
        rw [this]
        simp
theorem cut_none {l : List UInt8} {c : UInt8} (h : cutc l c = none) : Lib.cut l [c] = (l, [], false) := by
  rcases cutc_spec c l with ⟨_, h2, _⟩ | ⟨x, y, h1, _⟩
  · unfold Lib.cut; rw [h2]; rfl
  · rw [h] at h1; cases h1
theorem cut_some {l x y : List UInt8} {c : UInt8} (h : cutc l c = some (x, y)) : Lib.cut l [c] = (x, y, true) := by
  rcases cutc_spec c l with ⟨h1, _⟩ | ⟨x', y', h1, h2, h3, _⟩
  · rw [h] at h1; cases h1
  · rw [h] at h1
    cases h1
    unfold Lib.cut
    rw [h2, if_pos (by omega), Int.toNat_natCast, h3]
    simp
theorem cutc_eq {l x y : List UInt8} {c : UInt8} (h : cutc l c = some (x, y)) : l = x ++ c :: y ∧ c ∉ x := by
  rcases cutc_spec c l with ⟨h1, _⟩ | ⟨x', y', h1, _, h3, h4⟩
  · rw [h] at h1; cases h1
  · rw [h] at h1; cases h1; exact ⟨h3, h4⟩
theorem cutc_none_iff {l : List UInt8} {c : UInt8} : cutc l c = none ↔ c ∉ l := by
  rcases cutc_spec c l with ⟨h1, _, h3⟩ | ⟨x, y, h1, _, h3, _⟩
  · exact ⟨fun _ => h3, fun _ => h1⟩
  · refine ⟨fun h => (by rw [h1] at h; cases h), fun h => absurd (show c ∈ l by rw [h3]; simp) h⟩
theorem cutc_app {x y : List UInt8} {c : UInt8} (h : c ∉ x) : cutc (x ++ c :: y) c = some (x, y) := by
  induction x with
  | nil => simp [cutc]
  | cons b x ih =>
    rw [List.mem_cons, not_or] at h
    rw [List.cons_append]
    unfold cutc
    rw [if_neg (fun e => h.1 e.symm), ih h.2]; rfl
/-- The parts of a text between the signs of a kind. -/
def spl : List UInt8 → UInt8 → List (List UInt8)
  | [], _ => [[]]
  | b :: l, c => if b = c then [] :: spl l c else match spl l c with
    | h :: t => (b :: h) :: t
    | [] => [[b]]
theorem spl_none {l : List UInt8} {c : UInt8} (h : c ∉ l) : spl l c = [l] := by
  induction l with
  | nil => rfl
  | cons b l ih =>
    rw [List.mem_cons, not_or] at h
    unfold spl
    rw [if_neg (fun e => h.1 e.symm), ih h.2]
theorem spl_app {x y : List UInt8} {c : UInt8} (h : c ∉ x) : spl (x ++ c :: y) c = x :: spl y c := by
  induction x with
  | nil => simp [spl]
  | cons b x ih =>
    rw [List.mem_cons, not_or] at h
    rw [List.cons_append]
    conv => lhs; unfold spl
    rw [if_neg (fun e => h.1 e.symm), ih h.2]
theorem spl_pos (l : List UInt8) (c : UInt8) : 1 ≤ (spl l c).length := by
  rcases cutc_spec c l with ⟨_, _, h⟩ | ⟨x, y, _, _, h, h2⟩
  · rw [spl_none h]; simp
  · rw [h, spl_app h2]; simp
theorem spl_two {l : List UInt8} {c : UInt8} (h : 2 ≤ (spl l c).length) : ∃ x y, cutc l c = some (x, y) ∧ spl l c = x :: spl y c := by
  rcases cutc_spec c l with ⟨_, _, h1⟩ | ⟨x, y, h0, _, h1, h2⟩
  · rw [spl_none h1] at h; simp at h
  · exact ⟨x, y, h0, by rw [h1, spl_app h2]⟩
/-- The address of a text, -1 for none. -/
def addrV (s : List UInt8) : Int := match cutc s 46 with
  | some (x, y) => if inB (numV x) 0 255 && inB (numV y) 0 255 then 256 * numV x + numV y else -1
  | none => -1
theorem addrV_bd (s : List UInt8) : -1 ≤ addrV s ∧ addrV s ≤ 65535 := by
  unfold addrV
  split
  · split
    · rename_i h
      simp only [Bool.and_eq_true] at h
      have := inB_true h.1
      have := inB_true h.2
      omega
    · omega
  · omega
theorem addrV_some {s : List UInt8} (h : 0 ≤ addrV s) : aL (addrV s) = s := by
  unfold addrV at h ⊢
  cases hc : cutc s 46 with
  | none => rw [hc] at h; simp at h
  | some p =>
    obtain ⟨x, y⟩ := p
    rw [hc] at h
    simp only at h ⊢
    split at h
    · rename_i hb
      rw [if_pos hb]
      simp only [Bool.and_eq_true] at hb
      have b1 := inB_true hb.1
      have b2 := inB_true hb.2
      have e1 : (256 * numV x + numV y) / 256 = numV x := by omega
      have e2 : (256 * numV x + numV y) % 256 = numV y := by omega
      unfold aL
      rw [e1, e2, (numV_some b1.1).1, (numV_some b2.1).1, (cutc_eq hc).1]
    · omega
theorem dl_not {n : Int} {c : UInt8} (h : isDig c = false) : c ∉ dl n := fun hc => by
  have := isDig_iff.2 (dl_dig hc)
  rw [h] at this; cases this
theorem addrV_aL {a : Int} (h0 : 0 ≤ a) (h1 : a ≤ 65535) : addrV (aL a) = a := by
  unfold addrV aL
  rw [cutc_app (dl_not (by decide))]
  simp only
  rw [numV_dl (by omega) (by omega), numV_dl (by omega) (by omega), if_pos (by rw [inB_mk (by omega) (by omega), inB_mk (by omega) (by omega)]; rfl)]
  omega
theorem aL_not {a : Int} {c : UInt8} (h : isDig c = false) (hc : c ≠ 46) : c ∉ aL a := by
  unfold aL
  simp only [List.mem_append, List.mem_cons, not_or]
  exact ⟨dl_not h, hc, dl_not h⟩
/-- The end of a text. -/
def parE (s : List UInt8) : Option (Int × Int) := match cutc s 58 with
  | some (x, y) => if inB (addrV x) 0 65535 && inB (numV y) 0 65535 then some (addrV x, numV y) else none
  | none => none
/-- The net of a text. -/
def parN (s : List UInt8) : Option (Int × Int) := match cutc s 47 with
  | some (x, y) => if vNet (addrV x) (numV y) then some (addrV x, numV y) else none
  | none => none
theorem parE_text {s : ByteArray} {a p : Int} (h : parE s.data.toList = some (a, p)) : (inB a 0 65535 && inB p 0 65535) = true ∧ fmtEnd a p = s := by
  unfold parE at h
  cases hc : cutc s.data.toList 58 with
  | none => rw [hc] at h; cases h
  | some q =>
    obtain ⟨x, y⟩ := q
    rw [hc] at h
    simp only at h
    split at h
    · rename_i hb
      cases h
      refine ⟨hb, ?_⟩
      apply ByteArray.ext
      apply Array.toList_inj.1
      unfold fmtEnd
      rw [if_pos hb, fmtE_list]
      simp only [Bool.and_eq_true] at hb
      rw [addrV_some (inB_true hb.1).1, (numV_some (inB_true hb.2).1).1, ← (cutc_eq hc).1]
    · cases h
theorem parN_text {s : ByteArray} {a p : Int} (h : parN s.data.toList = some (a, p)) : vNet a p = true ∧ fmtNet a p = s := by
  unfold parN at h
  cases hc : cutc s.data.toList 47 with
  | none => rw [hc] at h; cases h
  | some q =>
    obtain ⟨x, y⟩ := q
    rw [hc] at h
    simp only at h
    split at h
    · rename_i hb
      cases h
      refine ⟨hb, ?_⟩
      apply ByteArray.ext
      apply Array.toList_inj.1
      unfold fmtNet
      rw [if_pos hb, fmtN_list]
      rw [addrV_some (inB_true (vNet_base hb)).1, (numV_some (inB_true (vNet_bits hb)).1).1, ← (cutc_eq hc).1]
    · cases h
theorem parE_fmt {a p : Int} (h : (inB a 0 65535 && inB p 0 65535) = true) : parE (fmtE a p).data.toList = some (a, p) := by
  have hb := h
  simp only [Bool.and_eq_true] at hb
  have b1 := inB_true hb.1
  have b2 := inB_true hb.2
  unfold parE
  rw [fmtE_list, cutc_app (aL_not (by decide) (by decide))]
  simp only
  rw [addrV_aL b1.1 b1.2, numV_dl b2.1 (by omega), if_pos h]
theorem parN_fmt {a p : Int} (h : vNet a p = true) : parN (fmtN a p).data.toList = some (a, p) := by
  have b1 := inB_true (vNet_base h)
  have b2 := inB_true (vNet_bits h)
  unfold parN
  rw [fmtN_list, cutc_app (aL_not (by decide) (by decide))]
  simp only
  rw [addrV_aL b1.1 b1.2, numV_dl b2.1 (by omega), if_pos h]
end Go.Proofs.YthlaldikdlljfaaDoor
