/- Race: contracts of follows and touches. -/
import Derived.Test.YtpcjcmbhoglnfaaK
namespace Go.Proofs.Ytpcjcmbhoglnfaa
open Go.RowKit
set_option linter.unusedVariables false
set_option linter.unusedSimpArgs false

def folB (x y : Ev) : Bool :=
  if x.thread = y.thread then true else if x.kind = 7 then decide (x.id = y.thread) else if y.kind = 8 then decide (x.thread = y.id) else decide (x.kind = 6) && decide (y.kind = 5) && decide (x.id = y.id)
theorem folB_iff (L : List Ev) (i k : Nat) : folB (evAt L i) (evAt L k) = true ↔ (trOf L).F i k := by
  unfold folB Tr.F trOf
  dsimp only
  split
  · simp
  · split
    · simp
    · split
      · simp
      · simp [and_assoc]

set_option maxRecDepth 100000 in
set_option maxHeartbeats 6400000 in
theorem follows_any (x y : Ev) (lx ly : Nat) (w : World) :
    Calls Try.prog 27 #[.agg #[.int .u8 x.kind, .int .i64 x.thread, .int .i64 x.id, .slice x.pa lx x.pc], .agg #[.int .u8 y.kind, .int .i64 y.thread, .int .i64 y.id, .slice y.pa ly y.pc]] w fun r w' => r = .returned (.bool (folB x y)) ∧ Below w.heap.size w w' := by
  have hB : ∀ (o o' : Obj), Below w.heap.size w ((w.alloc o).alloc o') := fun o o' => ((Below.refl _ w).alloc (Nat.le_refl _) _).alloc (by simp) _
  have HB := Lib.hid hB
  clear hB
  obtain ⟨k1, t1, i1, a1, c1, P1⟩ := x
  obtain ⟨k2, t2, i2, a2, c2, P2⟩ := y
  unfold folB
  dsimp only
  by_cases h1 : t1 = t2
  · rw [if_pos h1]
    have e1 : (t1 == t2) = true := by simpa using h1
    clear h1
    go_enter Try.func27, Try.ntmps27
    go_wp2
    go_ret
    exact ⟨rfl, HB.out _ _⟩
  rw [if_neg h1]
  have e1 : (t1 == t2) = false := by simpa using h1
  clear h1
  by_cases h2 : k1 = 7
  · subst h2
    rw [if_pos rfl]
    by_cases h3 : i1 = t2
    · rw [decide_eq_true h3]
      have e3 : (i1 == t2) = true := by simpa using h3
      clear h3
      go_enter Try.func27, Try.ntmps27
      go_wp2
      go_ret
      exact ⟨rfl, HB.out _ _⟩
    · rw [decide_eq_false h3]
      have e3 : (i1 == t2) = false := by simpa using h3
      clear h3
      go_enter Try.func27, Try.ntmps27
      go_wp2
      go_ret
      exact ⟨rfl, HB.out _ _⟩
  rw [if_neg h2]
  have e2 : (k1 == 7) = false := by simpa using h2
  clear h2
  by_cases h4 : k2 = 8
  · subst h4
    rw [if_pos rfl]
    by_cases h3 : t1 = i2
    · rw [decide_eq_true h3]
      have e3 : (t1 == i2) = true := by simpa using h3
      clear h3
      go_enter Try.func27, Try.ntmps27
      go_wp2
      go_ret
      exact ⟨rfl, HB.out _ _⟩
    · rw [decide_eq_false h3]
      have e3 : (t1 == i2) = false := by simpa using h3
      clear h3
      go_enter Try.func27, Try.ntmps27
      go_wp2
      go_ret
      exact ⟨rfl, HB.out _ _⟩
  rw [if_neg h4]
  have e4 : (k2 == 8) = false := by simpa using h4
  clear h4
  by_cases h5 : k1 = 6
  · subst h5
    by_cases h6 : k2 = 5
    · subst h6
      by_cases h3 : i1 = i2
      · rw [decide_eq_true h3]
        have e3 : (i1 == i2) = true := by simpa using h3
        clear h3
        go_enter Try.func27, Try.ntmps27
        go_wp2
        go_ret
        exact ⟨rfl, HB.out _ _⟩
      · rw [decide_eq_false h3]
        have e3 : (i1 == i2) = false := by simpa using h3
        clear h3
        go_enter Try.func27, Try.ntmps27
        go_wp2
        go_ret
        exact ⟨rfl, HB.out _ _⟩
    · rw [decide_eq_false h6]
      have e6 : (k2 == 5) = false := by simpa using h6
      clear h6
      go_enter Try.func27, Try.ntmps27
      go_wp2
      go_ret
      exact ⟨rfl, HB.out _ _⟩
  · rw [decide_eq_false h5]
    have e5 : (k1 == 6) = false := by simpa using h5
    clear h5
    go_enter Try.func27, Try.ntmps27
    go_wp2
    go_ret
    exact ⟨rfl, HB.out _ _⟩

/-! ### touches -/
def agreeB (P Q : List Int) : Bool := (List.range (min P.length Q.length)).all fun j => decide (P.getD j 0 = Q.getD j 0)
def tchB (x y : Ev) : Bool := accB x.kind && accB y.kind && agreeB x.path y.path && decide (x.thread ≠ y.thread) && decide (x.id = y.id) && (wrB x.kind || wrB y.kind) && (decide (x.kind ≠ 4) || decide (y.kind ≠ 4))
theorem agree_beg (P Q : List Int) : agreeB P Q = (begB P Q || begB Q P) := by
  have key : ∀ P Q : List Int, P.length ≤ Q.length → (agreeB P Q = true ↔ P = Q.take P.length) := by
    intro P Q h
    unfold agreeB
    rw [Nat.min_eq_left h, List.all_eq_true]
    constructor
    · intro hh
      apply List.ext_getElem (by rw [List.length_take]; omega)
      intro i h1 h2
      have := hh i (List.mem_range.2 h1)
      rw [decide_eq_true_iff, List.getD_eq_getElem?_getD, List.getD_eq_getElem?_getD, List.getElem?_eq_getElem h1, List.getElem?_eq_getElem (by omega)] at this
      rw [List.getElem_take]
      exact this
    · intro hh i hi
      have hi := List.mem_range.1 hi
      rw [decide_eq_true_iff, List.getD_eq_getElem?_getD, List.getD_eq_getElem?_getD]
      conv => lhs; rw [hh]
      rw [List.getElem?_take, if_pos hi]
  have comm : ∀ P Q : List Int, agreeB P Q = agreeB Q P := by
    intro P Q
    unfold agreeB
    rw [Nat.min_comm]
    congr 1
    funext j
    rw [Bool.eq_iff_iff]
    simp [eq_comm]
  rw [Bool.eq_iff_iff, Bool.or_eq_true]
  unfold begB
  rcases Nat.lt_trichotomy P.length Q.length with h | h | h
  · rw [key P Q (by omega)]
    simp only [Bool.and_eq_true, decide_eq_true_eq]
    constructor
    · intro e; exact .inl ⟨by omega, e⟩
    · rintro (e | e)
      · exact e.2
      · omega
  · rw [key P Q (by omega)]
    simp only [Bool.and_eq_true, decide_eq_true_eq]
    constructor
    · intro e; exact .inl ⟨by omega, e⟩
    · rintro (e | e)
      · exact e.2
      · have h1 := e.2
        rw [List.take_of_length_le (by omega)] at h1
        rw [List.take_of_length_le (by omega)]
        exact h1.symm
  · rw [comm, key Q P (by omega)]
    simp only [Bool.and_eq_true, decide_eq_true_eq]
    constructor
    · intro e; exact .inr ⟨by omega, e⟩
    · rintro (e | e)
      · omega
      · exact e.2
theorem tch_conf {x y : Ev} (hx : x.kind = 3 → x.path = []) (hy : y.kind = 3 → y.path = []) : tchB x y = confB x y := by
  have e : ∀ z : Ev, (z.kind = 3 → z.path = []) → plainP z = z.path := by
    intro z hz
    unfold plainP
    split
    · rename_i h; exact (hz h).symm
    · rfl
  unfold tchB confB
  rw [e x hx, e y hy, ← agree_beg]
  cases accB x.kind <;> cases accB y.kind <;> cases agreeB x.path y.path <;> cases decide (x.thread ≠ y.thread) <;> cases decide (x.id = y.id) <;> simp
end Go.Proofs.Ytpcjcmbhoglnfaa
