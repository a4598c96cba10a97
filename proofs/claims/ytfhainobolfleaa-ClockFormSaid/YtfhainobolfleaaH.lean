/- Clock: plain laws of forms, Join, Tick, Within and Same. -/
import Derived.Test.YtfhainobolfleaaG
namespace Go.Proofs.Ytfhainobolfleaa
open Go.RowKit
set_option linter.unusedVariables false

theorem trim_zero (g : Nat → Int) : ∀ N i, trim g N ≤ i → i < N → g i = 0
  | 0, i, _, h => by omega
  | n + 1, i, h, hi => by
    unfold trim at h
    split at h
    · rename_i h0
      rcases Nat.lt_or_ge i n with h1 | h1
      · exact trim_zero g n i h h1
      · obtain rfl : i = n := by omega
        exact h0
    · omega
theorem trim_last (g : Nat → Int) : ∀ N k, trim g N = k + 1 → g k ≠ 0
  | 0, k, h => by simp [trim] at h
  | n + 1, k, h => by
    unfold trim at h
    split at h
    · exact trim_last g n k h
    · rename_i h0
      obtain rfl : n = k := by omega
      exact h0
theorem trim_ext (g : Nat → Int) (n : Nat) : ∀ m, n ≤ m → (∀ i, n ≤ i → i < m → g i = 0) → trim g m = trim g n
  | 0, h, _ => by obtain rfl : n = 0 := by omega
                  rfl
  | m + 1, h, hz => by
    rcases Nat.eq_or_lt_of_le h with e | e
    · rw [e]
    · conv => lhs; unfold trim
      rw [if_pos (hz m (by omega) (by omega))]
      exact trim_ext g n m (by omega) fun i h1 h2 => hz i h1 (by omega)
theorem formL_ext (g : Nat → Int) (n m : Nat) (h : n ≤ m) (hz : ∀ i, n ≤ i → i < m → g i = 0) : formL g m = formL g n := by
  unfold formL; rw [trim_ext g n m h hz]
theorem formL_length (g : Nat → Int) (N : Nat) : (formL g N).length = trim g N := by simp [formL]
theorem atZ_nat (C : List Int) (i : Nat) : atZ C i = C.getD i 0 := by
  by_cases h : i < C.length
  · rw [atZ_in (List.getElem?_eq_getElem h), List.getD_eq_getElem?_getD, List.getElem?_eq_getElem h]; rfl
  · rw [atZ_out (.inr (by omega)), List.getD_eq_getElem?_getD, List.getElem?_eq_none (by omega)]; rfl
theorem atZ_neg (C : List Int) {n : Int} (h : n < 0) : atZ C n = 0 := atZ_out (.inl h)
theorem atZ_formL (g : Nat → Int) (N i : Nat) : atZ (formL g N) i = if i < N then g i else 0 := by
  by_cases h : i < trim g N
  · have h2 := trim_le g N
    rw [if_pos (by omega)]
    refine atZ_in ?_
    unfold formL
    rw [List.getElem?_map, List.getElem?_range h]; rfl
  · rw [atZ_out (.inr (by rw [formL_length]; omega))]
    split
    · exact (trim_zero g N i (by omega) (by assumption)).symm
    · rfl
theorem all_int {P : Int → Prop} (h0 : ∀ n : Int, n < 0 → P n) (h1 : ∀ i : Nat, P i) (n : Int) : P n := by
  by_cases h : n < 0
  · exact h0 n h
  · obtain ⟨i, rfl⟩ : ∃ i : Nat, n = i := ⟨n.toNat, by omega⟩
    exact h1 i
theorem atZ_joinL (C D : List Int) (n : Int) : atZ (joinL C D) n = max (atZ C n) (atZ D n) := by
  revert n
  refine all_int (fun n h => by rw [atZ_neg _ h, atZ_neg _ h, atZ_neg _ h]; rfl) fun i => ?_
  unfold joinL
  rw [atZ_formL]
  split
  · rfl
  · rw [atZ_out (C := C) (.inr (by omega)), atZ_out (C := D) (.inr (by omega))]; rfl
theorem leL_iff (C D : List Int) : leL C D = true ↔ ∀ n : Int, atZ C n ≤ atZ D n := by
  unfold leL
  rw [List.all_eq_true]
  constructor
  · intro h
    refine all_int (fun n hn => by rw [atZ_neg _ hn, atZ_neg _ hn]; exact Int.le_refl _) fun i => ?_
    by_cases hi : i < max C.length D.length
    · simpa using h i (List.mem_range.2 hi)
    · rw [atZ_out (C := C) (.inr (by omega)), atZ_out (C := D) (.inr (by omega))]; exact Int.le_refl _
  · intro h i _
    simpa using h i
theorem eqL_iff (C D : List Int) : eqL C D = true ↔ ∀ n : Int, atZ C n = atZ D n := by
  unfold eqL
  rw [List.all_eq_true]
  constructor
  · intro h
    refine all_int (fun n hn => by rw [atZ_neg _ hn, atZ_neg _ hn]) fun i => ?_
    by_cases hi : i < max C.length D.length
    · simpa using h i (List.mem_range.2 hi)
    · rw [atZ_out (C := C) (.inr (by omega)), atZ_out (C := D) (.inr (by omega))]
  · intro h i _
    simpa using h i
theorem bool_iff {a b : Bool} (h : a = true ↔ b = true) : a = b := by cases a <;> cases b <;> simp_all
/-- two clocks' one forms are the same just if their numbers are -/
theorem form_same (C D : List Int) : decide (formL (atN C) C.length = formL (atN D) D.length) = eqL C D := by
  refine bool_iff ?_
  rw [decide_eq_true_iff, eqL_iff]
  constructor
  · intro h
    refine all_int (fun n hn => by rw [atZ_neg _ hn, atZ_neg _ hn]) fun i => ?_
    have h1 := atZ_formL (atN C) C.length i
    have h2 := atZ_formL (atN D) D.length i
    rw [h] at h1
    rw [h1] at h2
    unfold atN at h2
    by_cases a1 : i < C.length <;> by_cases a2 : i < D.length
    · rwa [if_pos a1, if_pos a2] at h2
    · rw [if_pos a1, if_neg a2] at h2; rw [h2, atZ_out (C := D) (.inr (by omega))]
    · rw [if_neg a1, if_pos a2] at h2; rw [← h2, atZ_out (C := C) (.inr (by omega))]
    · rw [atZ_out (C := C) (.inr (by omega)), atZ_out (C := D) (.inr (by omega))]
  · intro h
    rw [← formL_ext (atN C) C.length (max C.length D.length) (by omega) (fun i h1 h2 => atZ_out (.inr (by omega))), ← formL_ext (atN D) D.length (max C.length D.length) (by omega) (fun i h1 h2 => atZ_out (.inr (by omega)))]
    exact formL_congr _ fun i _ => h i
theorem tickOn_iff (C : List Int) (n : Int) : tickOn C n = true ↔ 0 ≤ n ∧ n < 65536 ∧ atZ C n < 9223372036854775807 := by
  simp [tickOn, and_assoc]
theorem atZ_tickL (C : List Int) (n : Int) (hb : -9223372036854775808 ≤ atZ C n) (m : Int) : atZ (tickL C n) m = if tickOn C n = true ∧ m = n then atZ C n + 1 else atZ C m := by
  revert m
  refine all_int (fun m hm => ?_) fun i => ?_
  · rw [atZ_neg _ hm, atZ_neg _ hm]
    by_cases ht : tickOn C n = true ∧ m = n
    · have := (tickOn_iff C n).1 ht.1; omega
    · rw [if_neg ht]
  · unfold tickL
    rw [atZ_formL]
    unfold tickG tickN
    by_cases ht : tickOn C n = true
    · obtain ⟨h0, h1, h2⟩ := (tickOn_iff C n).1 ht
      by_cases hn : (i : Int) = n
      · rw [if_pos ht, if_pos (by omega), if_pos ⟨ht, hn⟩, if_pos ⟨ht, hn⟩, hn]
        unfold wrap64; omega
      · have e1 : (if tickOn C n = true ∧ (i : Int) = n then wrap64 (atZ C i + 1) else atZ C i) = atZ C i := if_neg (fun h => hn h.2)
        have e2 : (if tickOn C n = true ∧ (i : Int) = n then atZ C n + 1 else atZ C i) = atZ C i := if_neg (fun h => hn h.2)
        rw [if_pos ht, e1, e2]
        by_cases hi : i < max C.length (n.toNat + 1)
        · rw [if_pos hi]
        · rw [if_neg hi, atZ_out (.inr (by omega))]
    · have e1 : (if tickOn C n = true ∧ (i : Int) = n then wrap64 (atZ C i + 1) else atZ C i) = atZ C i := if_neg (fun h => ht h.1)
      have e2 : (if tickOn C n = true ∧ (i : Int) = n then atZ C n + 1 else atZ C i) = atZ C i := if_neg (fun h => ht h.1)
      rw [if_neg ht, e1, e2]
      by_cases hi : i < C.length
      · rw [if_pos hi]
      · rw [if_neg hi, atZ_out (.inr (by omega))]
theorem formL_last (g : Nat → Int) (N k : Nat) (h : (formL g N).length = k + 1) : (formL g N)[k]? = some (g k) ∧ g k ≠ 0 := by
  rw [formL_length] at h
  refine ⟨?_, trim_last g N k h⟩
  unfold formL
  rw [List.getElem?_map, List.getElem?_range (by omega)]; rfl
/-- noughts at the end change no number -/
theorem atZ_more (C : List Int) (k : Nat) (n : Int) : atZ (C ++ List.replicate k 0) n = atZ C n := by
  revert n
  refine all_int (fun n hn => by rw [atZ_neg _ hn, atZ_neg _ hn]) fun i => ?_
  rw [atZ_nat, atZ_nat, List.getD_eq_getElem?_getD, List.getD_eq_getElem?_getD]
  rcases Nat.lt_or_ge i C.length with h | h
  · rw [List.getElem?_append_left h]
  · rw [List.getElem?_append_right h, List.getElem?_eq_none h, List.getElem?_replicate]
    split <;> rfl
theorem form_eq_of {g g' : Nat → Int} {n m : Nat} (h : ∀ i, (if i < n then g i else 0) = (if i < m then g' i else 0)) : formL g n = formL g' m := by
  have e1 : formL g n = formL (fun i => if i < n then g i else 0) (max n m) := by
    rw [formL_ext _ n (max n m) (by omega) (fun i h1 h2 => if_neg (by omega))]
    exact formL_congr n fun i hi => (if_pos hi).symm
  have e2 : formL g' m = formL (fun i => if i < m then g' i else 0) (max n m) := by
    rw [formL_ext _ m (max n m) (by omega) (fun i h1 h2 => if_neg (by omega))]
    exact formL_congr m fun i hi => (if_pos hi).symm
  rw [e1, e2]
  exact formL_congr _ fun i _ => h i
theorem joinL_congr {C C' D : List Int} (h : ∀ n, atZ C n = atZ C' n) : joinL C D = joinL C' D := by
  unfold joinL
  refine form_eq_of fun i => ?_
  have h1 := atZ_formL (joinG C D) (max C.length D.length) i
  have h2 := atZ_formL (joinG C' D) (max C'.length D.length) i
  rw [← h1, ← h2]
  have e1 := atZ_joinL C D i
  have e2 := atZ_joinL C' D i
  unfold joinL at e1 e2
  rw [e1, e2, h]
theorem tickL_congr {C C' : List Int} (h : ∀ n, atZ C n = atZ C' n) (n : Int) (hb : -9223372036854775808 ≤ atZ C n) : tickL C n = tickL C' n := by
  have ht : tickOn C n = tickOn C' n := by unfold tickOn; rw [h]
  unfold tickL
  refine form_eq_of fun i => ?_
  have h1 := atZ_formL (tickG C (tickOn C n) n) (tickN C n) i
  have h2 := atZ_formL (tickG C' (tickOn C' n) n) (tickN C' n) i
  rw [← h1, ← h2]
  have e1 := atZ_tickL C n hb i
  have e2 := atZ_tickL C' n (by rw [← h]; exact hb) i
  unfold tickL at e1 e2
  rw [e1, e2, h, h, ht]
end Go.Proofs.Ytfhainobolfleaa
