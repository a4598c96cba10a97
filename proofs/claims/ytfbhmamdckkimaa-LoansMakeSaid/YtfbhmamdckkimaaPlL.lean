/- Places: plain laws: which begins which, which meet, the least ones. No program in sight. -/
import Derived.Lib.Hide
namespace Go.Proofs.Ytfbhmamdckkimaa

abbrev PKey := ByteArray × List ByteArray
def begB (p q : PKey) : Bool := decide (p.1 = q.1 ∧ q.2.take p.2.length = p.2)
def sameB (p q : PKey) : Bool := decide (p = q)
def meetB (p q : PKey) : Bool := begB p q || begB q p
theorem begB_iff {p q : PKey} : begB p q = true ↔ p.1 = q.1 ∧ p.2 <+: q.2 := by
  unfold begB
  rw [decide_eq_true_iff, List.prefix_iff_eq_take]
  exact ⟨fun h => ⟨h.1, h.2.symm⟩, fun h => ⟨h.1, h.2.symm⟩⟩
theorem sameB_iff {p q : PKey} : sameB p q = true ↔ p = q := by unfold sameB; rw [decide_eq_true_iff]
theorem begB_refl (p : PKey) : begB p p = true := begB_iff.2 ⟨rfl, List.prefix_rfl⟩
theorem begB_trans {p q r : PKey} (h1 : begB p q = true) (h2 : begB q r = true) : begB p r = true := by
  rw [begB_iff] at *
  exact ⟨h1.1.trans h2.1, h1.2.trans h2.2⟩
theorem begB_anti {p q : PKey} (h1 : begB p q = true) (h2 : begB q p = true) : p = q := by
  rw [begB_iff] at *
  obtain ⟨a, b⟩ := p
  obtain ⟨c, d⟩ := q
  obtain rfl : a = c := h1.1
  obtain rfl : b = d := h1.2.eq_of_length_le h2.2.length_le
  rfl
theorem meetB_iff {p q : PKey} : meetB p q = true ↔ begB p q = true ∨ begB q p = true := by simp [meetB]
theorem meetB_comm (p q : PKey) : meetB p q = meetB q p := by unfold meetB; rw [Bool.or_comm]
theorem begB_two {p q r : PKey} (h1 : begB p r = true) (h2 : begB q r = true) : meetB p q = true := by
  rw [meetB_iff]
  simp only [begB_iff] at *
  rcases List.prefix_or_prefix_of_prefix h1.2 h2.2 with h | h
  · exact .inl ⟨h1.1.trans h2.1.symm, h⟩
  · exact .inr ⟨h2.1.trans h1.1.symm, h⟩
theorem meetB_less {p q r : PKey} (h1 : begB p q = true) (h2 : meetB q r = true) : meetB p r = true := by
  rw [meetB_iff] at h2
  rcases h2 with h2 | h2
  · rw [meetB_iff]; exact .inl (begB_trans h1 h2)
  · exact begB_two h1 h2
theorem meetB_name {p q : PKey} (h : meetB p q = true) : p.1 = q.1 := by
  rw [meetB_iff] at h
  simp only [begB_iff] at h
  rcases h with h | h
  · exact h.1
  · exact h.1.symm
theorem begB_same_len {p q : PKey} (hn : p.1 = q.1) (hl : p.2.length = q.2.length) : begB p q = sameB p q := by
  rw [Bool.eq_iff_iff, begB_iff, sameB_iff]
  constructor
  · intro h
    exact Prod.ext hn (h.2.eq_of_length hl)
  · rintro rfl
    exact ⟨rfl, List.prefix_rfl⟩

/-- more steps -/
def withK (p : PKey) (S : List ByteArray) : PKey := (p.1, p.2 ++ S)
theorem beg_with (p : PKey) (S : List ByteArray) : begB p (withK p S) = true := begB_iff.2 ⟨rfl, List.prefix_append _ _⟩
theorem with_beg (p : PKey) (S : List ByteArray) : begB (withK p S) p = decide (S = []) := by
  rw [Bool.eq_iff_iff, begB_iff, decide_eq_true_iff]
  constructor
  · intro h
    have := h.2.length_le
    simp only [withK, List.length_append] at this
    exact List.eq_nil_of_length_eq_zero (by omega)
  · rintro rfl
    exact ⟨rfl, by simp [withK]⟩
theorem same_with (p : PKey) (S : List ByteArray) : sameB p (withK p S) = decide (S = []) := by
  rw [Bool.eq_iff_iff, sameB_iff, decide_eq_true_iff]
  constructor
  · intro h
    have := congrArg (fun x : PKey => x.2.length) h
    simp [withK] at this
    exact this
  · rintro rfl
    simp [withK]
theorem meet_with (p : PKey) (S : List ByteArray) : meetB p (withK p S) = true := meetB_iff.2 (.inl (beg_with p S))
theorem meet_steps (p : PKey) (x y : ByteArray) (S : List ByteArray) : meetB (withK (withK p [x]) S) (withK p [y]) = decide (x = y) := by
  rw [Bool.eq_iff_iff, meetB_iff, begB_iff, begB_iff, decide_eq_true_iff]
  simp only [withK, true_and]
  constructor
  · rintro (h | h)
    · rw [List.append_assoc, List.prefix_append_right_inj] at h
      simp at h
      exact h.1
    · rw [List.append_assoc, List.prefix_append_right_inj] at h
      simp at h
      exact h.symm
  · rintro rfl
    exact .inr ⟨S, rfl⟩
theorem meet_two (p : PKey) (x y : ByteArray) : meetB (withK p [x]) (withK p [y]) = decide (x = y) := by
  have := meet_steps p x y []
  simpa [withK] using this

/-! ### the least ones -/
/-- by the program -/
def begun (L : List PKey) (p : PKey) : Bool := L.any (fun q => begB q p && !sameB q p)
def leastStep (L : List PKey) (out : List PKey) (p : PKey) : List PKey := if !begun L p && !out.any (fun q => sameB q p) then out ++ [p] else out
def leastP (L : List PKey) (M : List PKey) : List PKey := M.foldl (leastStep L) []
/-- by the document -/
def isLeast (L : List PKey) (i : Nat) (p : PKey) : Bool := (List.range L.length).all fun k => !(match L[k]? with | some q => begB q p && (!sameB q p || decide (k < i)) | none => false)
theorem isLeast_iff {L : List PKey} {i : Nat} {p : PKey} : isLeast L i p = true ↔ ∀ k q, L[k]? = some q → begB q p = true → q = p ∧ i ≤ k := by
  unfold isLeast
  rw [List.all_eq_true]
  constructor
  · intro h k q hq hb
    have hk := (List.getElem?_eq_some_iff.1 hq).1
    have := h k (List.mem_range.2 hk)
    rw [hq] at this
    simp only [hb, Bool.true_and, Bool.not_eq_true', Bool.or_eq_false_iff, Bool.not_eq_false', decide_eq_false_iff_not] at this
    exact ⟨sameB_iff.1 this.1, by omega⟩
  · intro h k hk
    rw [List.mem_range] at hk
    rw [List.getElem?_eq_getElem hk]
    have := h k _ (List.getElem?_eq_getElem hk)
    cases hb : begB L[k] p
    · simp [hb]
    · obtain ⟨e, hi⟩ := this hb
      have h1 : sameB L[k] p = true := sameB_iff.2 e
      have h2 : ¬ k < i := by omega
      simp [h1, h2]
def leastR (L : List PKey) (n : Nat) : List PKey := (List.range n).filterMap fun i => match L[i]? with | some p => if isLeast L i p then some p else none | none => none
theorem leastR_succ {L : List PKey} {n : Nat} {p : PKey} (h : L[n]? = some p) : leastR L (n + 1) = if isLeast L n p then leastR L n ++ [p] else leastR L n := by
  unfold leastR
  rw [List.range_succ, List.filterMap_append]
  simp only [List.filterMap_cons, h, List.filterMap_nil]
  cases isLeast L n p <;> simp
theorem leastP_succ {L : List PKey} {n : Nat} {p : PKey} (h : L[n]? = some p) : leastP L (L.take (n + 1)) = leastStep L (leastP L (L.take n)) p := by
  unfold leastP
  rw [List.take_add_one, h, List.foldl_append]; rfl
theorem begun_iff {L : List PKey} {p : PKey} : begun L p = true ↔ ∃ q ∈ L, begB q p = true ∧ q ≠ p := by
  unfold begun
  rw [List.any_eq_true]
  constructor
  · rintro ⟨q, hq, h⟩
    rw [Bool.and_eq_true, Bool.not_eq_true'] at h
    exact ⟨q, hq, h.1, fun e => by rw [sameB_iff.2 e] at h; cases h.2⟩
  · rintro ⟨q, hq, h1, h2⟩
    refine ⟨q, hq, ?_⟩
    have : sameB q p = false := by rw [Bool.eq_false_iff]; intro h; exact h2 (sameB_iff.1 h)
    simp [h1, this]
theorem any_same {l : List PKey} {p : PKey} : l.any (fun q => sameB q p) = true ↔ p ∈ l := by
  rw [List.any_eq_true]
  constructor
  · rintro ⟨q, hq, h⟩; rw [← sameB_iff.1 h]; exact hq
  · intro h; exact ⟨p, h, sameB_iff.2 rfl⟩
/-- what is among the program's so far -/
theorem mem_leastP {L : List PKey} : ∀ (M : List PKey) (out : List PKey) (p : PKey), p ∈ M.foldl (leastStep L) out ↔ p ∈ out ∨ (p ∈ M ∧ begun L p = false)
  | [], out, p => by simp
  | x :: M, out, p => by
    rw [List.foldl_cons, mem_leastP M]
    unfold leastStep
    by_cases hx : begun L x = true
    · rw [if_neg (by simp [hx])]
      constructor
      · rintro (h | ⟨h1, h2⟩)
        · exact .inl h
        · exact .inr ⟨List.mem_cons_of_mem _ h1, h2⟩
      · rintro (h | ⟨h1, h2⟩)
        · exact .inl h
        · rcases List.mem_cons.1 h1 with rfl | h1
          · rw [hx] at h2; cases h2
          · exact .inr ⟨h1, h2⟩
    · have hx' : begun L x = false := by simpa using hx
      by_cases ho : out.any (fun q => sameB q x) = true
      · rw [if_neg (by simp [ho])]
        have ho' := any_same.1 ho
        constructor
        · rintro (h | ⟨h1, h2⟩)
          · exact .inl h
          · exact .inr ⟨List.mem_cons_of_mem _ h1, h2⟩
        · rintro (h | ⟨h1, h2⟩)
          · exact .inl h
          · rcases List.mem_cons.1 h1 with rfl | h1
            · exact .inl ho'
            · exact .inr ⟨h1, h2⟩
      · rw [if_pos (by simp [hx', ho])]
        constructor
        · rintro (h | ⟨h1, h2⟩)
          · rcases List.mem_append.1 h with h | h
            · exact .inl h
            · simp at h; subst h; exact .inr ⟨by simp, hx'⟩
          · exact .inr ⟨List.mem_cons_of_mem _ h1, h2⟩
        · rintro (h | ⟨h1, h2⟩)
          · exact .inl (List.mem_append_left _ h)
          · rcases List.mem_cons.1 h1 with rfl | h1
            · exact .inl (by simp)
            · exact .inr ⟨h1, h2⟩
/-- the two ways come to the same -/
theorem least_eq (L : List PKey) : ∀ n, n ≤ L.length → leastP L (L.take n) = leastR L n
  | 0, _ => by simp [leastP, leastR]
  | n + 1, h => by
    have hn : n < L.length := by omega
    have hp : L[n]? = some L[n] := List.getElem?_eq_getElem hn
    have ih := least_eq L n (by omega)
    rw [leastP_succ hp, leastR_succ hp, ih]
    unfold leastStep
    have hmem : ∀ p, p ∈ leastR L n ↔ p ∈ L.take n ∧ begun L p = false := by
      intro p
      rw [← ih]
      unfold leastP
      rw [mem_leastP]; simp
    by_cases hl : isLeast L n L[n] = true
    · rw [if_pos hl, if_pos]
      rw [isLeast_iff] at hl
      have h1 : begun L L[n] = false := by
        rw [Bool.eq_false_iff]
        intro hb
        obtain ⟨q, hq, hb1, hne⟩ := begun_iff.1 hb
        obtain ⟨k, hk⟩ := List.mem_iff_getElem?.1 hq
        exact hne (hl k q hk hb1).1
      have h2 : (leastR L n).any (fun q => sameB q L[n]) = false := by
        rw [Bool.eq_false_iff]
        intro hb
        obtain ⟨hm, _⟩ := (hmem _).1 (any_same.1 hb)
        obtain ⟨k, hk⟩ := List.mem_iff_getElem?.1 hm
        have hkn : k < n := by
          have := (List.getElem?_eq_some_iff.1 hk).1
          simp at this; omega
        rw [List.getElem?_take, if_pos hkn] at hk
        have := (hl k _ hk (begB_refl _)).2
        omega
      rw [h1, h2]; rfl
    · rw [if_neg hl, if_neg]
      intro hc
      rw [Bool.and_eq_true, Bool.not_eq_true', Bool.not_eq_true'] at hc
      obtain ⟨h1, h2⟩ := hc
      apply hl
      rw [isLeast_iff]
      intro k q hk hb
      have he : q = L[n] := by
        by_cases e : q = L[n]
        · exact e
        · have : begun L L[n] = true := begun_iff.2 ⟨q, List.mem_of_getElem? hk, hb, e⟩
          rw [h1] at this; cases this
      refine ⟨he, ?_⟩
      rcases Nat.lt_or_ge k n with hkn | hkn
      · subst he
        have : L[n] ∈ leastR L n := (hmem _).2 ⟨List.mem_iff_getElem?.2 ⟨k, by rw [List.getElem?_take, if_pos hkn]; exact hk⟩, h1⟩
        rw [any_same.2 this] at h2; cases h2
      · exact hkn
theorem leastP_all (L : List PKey) : leastP L L = leastR L L.length := by
  have := least_eq L L.length (Nat.le_refl _)
  rwa [List.take_length] at this
theorem mem_least {L : List PKey} {p : PKey} : p ∈ leastP L L ↔ p ∈ L ∧ begun L p = false := by
  unfold leastP
  rw [mem_leastP]; simp
theorem nodup_step {L : List PKey} : ∀ (M out : List PKey), out.Nodup → (M.foldl (leastStep L) out).Nodup
  | [], out, h => h
  | x :: M, out, h => by
    rw [List.foldl_cons]
    apply nodup_step M
    unfold leastStep
    split
    · rename_i hc
      rw [Bool.and_eq_true, Bool.not_eq_true', Bool.not_eq_true'] at hc
      rw [List.nodup_append]
      refine ⟨h, by simp, ?_⟩
      intro a ha b hb
      simp at hb
      subst hb
      rintro rfl
      rw [any_same.2 ha] at hc
      cases hc.2
    · exact h
/-- no two of the least ones meet -/
theorem least_apart {L : List PKey} {i k : Nat} {p q : PKey} (hi : (leastP L L)[i]? = some p) (hk : (leastP L L)[k]? = some q) (hik : i ≠ k) : meetB p q = false := by
  rw [Bool.eq_false_iff]
  intro hm
  have hp := mem_least.1 (List.mem_of_getElem? hi)
  have hq := mem_least.1 (List.mem_of_getElem? hk)
  have hpq : p = q := by
    rcases meetB_iff.1 hm with h | h
    · by_cases e : p = q
      · exact e
      · have := begun_iff.2 ⟨p, hp.1, h, e⟩
        rw [hq.2] at this; cases this
    · by_cases e : q = p
      · exact e.symm
      · have := begun_iff.2 ⟨q, hq.1, h, e⟩
        rw [hp.2] at this; cases this
  subst hpq
  have hnd : (leastP L L).Nodup := nodup_step L [] (by simp)
  have h1 := (List.getElem?_eq_some_iff.1 hi)
  have h2 := (List.getElem?_eq_some_iff.1 hk)
  obtain ⟨l1, e1⟩ := h1
  obtain ⟨l2, e2⟩ := h2
  have hpw := List.pairwise_iff_getElem.1 hnd
  rcases Nat.lt_or_ge i k with h | h
  · exact hpw i k l1 l2 h (e1.trans e2.symm)
  · exact hpw k i l2 l1 (by omega) (e2.trans e1.symm)
/-- each has a least one ahead of it -/
theorem has_least {L : List PKey} : ∀ (n : Nat) (p : PKey), p.2.length ≤ n → p ∈ L → ∃ q ∈ leastP L L, begB q p = true
  | n, p, hn, hp => by
    by_cases hb : begun L p = true
    · obtain ⟨q, hq, h1, h2⟩ := begun_iff.1 hb
      have hlt : q.2.length < p.2.length := by
        have hle := (begB_iff.1 h1).2.length_le
        rcases Nat.lt_or_ge q.2.length p.2.length with h | h
        · exact h
        · exfalso
          have : sameB q p = true := by rw [← begB_same_len (begB_iff.1 h1).1 (by omega)]; exact h1
          exact h2 (sameB_iff.1 this)
      match n with
      | 0 => omega
      | n + 1 =>
        obtain ⟨r, hr, h3⟩ := has_least n q (by omega) hq
        exact ⟨r, hr, begB_trans h3 h1⟩
    · exact ⟨p, mem_least.2 ⟨hp, by simpa using hb⟩, begB_refl p⟩
theorem least_enough (L : List PKey) (p : PKey) : L.any (fun x => meetB x p) = (leastP L L).any (fun x => meetB x p) := by
  rw [Bool.eq_iff_iff, List.any_eq_true, List.any_eq_true]
  constructor
  · rintro ⟨x, hx, h⟩
    obtain ⟨q, hq, hb⟩ := has_least _ x (Nat.le_refl _) hx
    exact ⟨q, hq, meetB_less hb h⟩
  · rintro ⟨x, hx, h⟩
    exact ⟨x, (mem_least.1 hx).1, h⟩
end Go.Proofs.Ytfbhmamdckkimaa
