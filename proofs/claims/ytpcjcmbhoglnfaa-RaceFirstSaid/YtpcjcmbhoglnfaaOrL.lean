/- Race: the document's Order: the plain law of its rows, and what lies in memory. -/
import Derived.Test.YtpcjcmbhoglnfaaThW
import Derived.Test.YtpcjcmbhoglnfaaO
import Derived.Test.YtpcjcmbhoglnfaaS
namespace Go.Proofs.Ytpcjcmbhoglnfaa
open Go.RowKit Go.ChangeMaps Go.MapKept
set_option linter.unusedVariables false
set_option linter.unusedSimpArgs false

/-- an event follows an earlier one at once -/
def dB (x y : Ev) : Bool := decide (x.thread = y.thread) || (decide (x.kind = 7) && decide (x.id = y.thread)) || (decide (y.kind = 8) && decide (x.thread = y.id)) || (decide (x.kind = 6) && decide (y.kind = 5) && decide (x.id = y.id))
theorem dB_iff (L : List Ev) (i k : Nat) : dB (evAt L i) (evAt L k) = true ↔ (trOf L).D i k := by
  simp [dB, Tr.D, trOf, or_assoc, and_assoc]
/-- by way of one from s on -/
def viaB (L : List Ev) (k s j : Nat) : Bool := (List.range k).any fun m => decide (s ≤ m) && ahN L m k && ahN L j m
theorem viaB_iff {L : List Ev} {k s j : Nat} : viaB L k s j = true ↔ ∃ m, s ≤ m ∧ m < k ∧ ahN L m k = true ∧ ahN L j m = true := by
  unfold viaB
  rw [List.any_eq_true]
  constructor
  · rintro ⟨m, hm, h⟩
    rw [List.mem_range] at hm
    simp only [Bool.and_eq_true, decide_eq_true_eq] at h
    exact ⟨m, h.1.1, hm, h.1.2, h.2⟩
  · rintro ⟨m, h1, h2, h3, h4⟩
    exact ⟨m, List.mem_range.2 h2, by simp [h1, h3, h4]⟩
theorem viaB_end (L : List Ev) (k j : Nat) : viaB L k k j = false := by
  rw [Bool.eq_false_iff]
  intro h
  obtain ⟨m, h1, h2, _⟩ := viaB_iff.1 h
  omega
theorem ahN_split {L : List Ev} (h : mayB L = true) (hN : L.length ≤ 60000) {i k : Nat} (hik : i < k) (hk : k < L.length) : ahN L i k = (dB (evAt L i) (evAt L k) || viaB L k (i + 1) i) := by
  rw [Bool.eq_iff_iff, Bool.or_eq_true, dB_iff, viaB_iff]
  constructor
  · intro hh
    have h1 := (HB_F (all_ok h hN) hk).1 ((ahN_iff h hN hk).1 hh)
    obtain ⟨j, hj, h2, h3⟩ := HB.last.1 h1
    rcases h2 with rfl | h2
    · exact .inl h3
    · exact .inr ⟨j, h2.lt, hj, ahN_D h hN hj hk h3, (ahN_iff h hN (by omega)).2 ((HB_F (all_ok h hN) (by omega)).2 h2)⟩
  · rintro (h1 | ⟨m, h1, h2, h3, h4⟩)
    · exact ahN_D h hN hik hk h1
    · exact ahN_trans h hN (by omega) hk h4 h3
theorem viaB_no {L : List Ev} {k i : Nat} (h : ahN L i k = false) (j : Nat) : viaB L k i j = viaB L k (i + 1) j := by
  rw [Bool.eq_iff_iff, viaB_iff, viaB_iff]
  constructor
  · rintro ⟨m, h1, h2, h3, h4⟩
    refine ⟨m, ?_, h2, h3, h4⟩
    rcases Nat.eq_or_lt_of_le h1 with rfl | h1
    · rw [h] at h3; cases h3
    · omega
  · rintro ⟨m, h1, h2, h3, h4⟩
    exact ⟨m, by omega, h2, h3, h4⟩
theorem viaB_yes {L : List Ev} {k i : Nat} (h : ahN L i k = true) (hik : i < k) (j : Nat) : viaB L k i j = (viaB L k (i + 1) j || ahN L j i) := by
  rw [Bool.eq_iff_iff, Bool.or_eq_true, viaB_iff, viaB_iff]
  constructor
  · rintro ⟨m, h1, h2, h3, h4⟩
    rcases Nat.eq_or_lt_of_le h1 with rfl | h1
    · exact .inr h4
    · exact .inl ⟨m, by omega, h2, h3, h4⟩
  · rintro (⟨m, h1, h2, h3, h4⟩ | h1)
    · exact ⟨m, by omega, h2, h3, h4⟩
    · exact ⟨i, Nat.le_refl _, hik, h, h1⟩
/-- the row at k, where those from s on are done -/
def rowF (L : List Ev) (k s j : Nat) : Bool := if s ≤ j then ahN L j k else viaB L k s j
theorem rowF_no {L : List Ev} {k i : Nat} (h : ahN L i k = false) (hd : viaB L k (i + 1) i = false) (j : Nat) : rowF L k i j = rowF L k (i + 1) j := by
  unfold rowF
  by_cases h1 : i + 1 ≤ j
  · rw [if_pos (by omega), if_pos h1]
  · rw [if_neg h1]
    by_cases h2 : i ≤ j
    · obtain rfl : j = i := by omega
      rw [if_pos h2, h, hd]
    · rw [if_neg h2, viaB_no h]
/-- where event i is ahead, and the first q are joined -/
def rowQ (L : List Ev) (k i q j : Nat) : Bool := if j < q then rowF L k i j else if j = i then true else rowF L k (i + 1) j
theorem rowQ_end {L : List Ev} {k i : Nat} (h : ahN L i k = true) (j : Nat) : rowQ L k i i j = rowF L k i j := by
  unfold rowQ
  by_cases h1 : j < i
  · rw [if_pos h1]
  · rw [if_neg h1]
    by_cases h2 : j = i
    · subst h2
      rw [if_pos rfl]; unfold rowF; rw [if_pos (Nat.le_refl _), h]
    · rw [if_neg h2]; unfold rowF; rw [if_pos (by omega), if_pos (by omega)]
theorem rowQ_zero (L : List Ev) (k i j : Nat) : rowQ L k i 0 j = if j = i then true else rowF L k (i + 1) j := by unfold rowQ; rw [if_neg (by omega)]
theorem rowQ_at {L : List Ev} {k i q : Nat} (hq : q < i) : rowQ L k i q q = viaB L k (i + 1) q := by
  unfold rowQ; rw [if_neg (by omega), if_neg (by omega)]; unfold rowF; rw [if_neg (by omega)]
theorem rowQ_succ {L : List Ev} {k i q : Nat} (h : ahN L i k = true) (hik : i < k) (hq : q < i) (j : Nat) : rowQ L k i (q + 1) j = if j = q then (viaB L k (i + 1) q || ahN L q i) else rowQ L k i q j := by
  by_cases h1 : j = q
  · subst h1
    rw [if_pos rfl]
    unfold rowQ rowF
    rw [if_pos (by omega), if_neg (by omega), viaB_yes h hik]
  · rw [if_neg h1]
    unfold rowQ
    by_cases h2 : j < q
    · rw [if_pos (by omega), if_pos h2]
    · rw [if_neg (by omega), if_neg h2]

/-- a row of truths -/
def bl (k : Nat) (f : Nat → Bool) : List Value := (List.range k).map fun j => .bool (f j)
theorem bl_len (k : Nat) (f : Nat → Bool) : (bl k f).length = k := by simp [bl]
theorem bl_at {k : Nat} {f : Nat → Bool} {j : Nat} (h : j < k) : (bl k f)[j]? = some (.bool (f j)) := by simp [bl, h]
theorem bl_congr {k : Nat} {f g : Nat → Bool} (h : ∀ j, j < k → f j = g j) : bl k f = bl k g := List.map_congr_left (fun j hj => by rw [h j (List.mem_range.1 hj)])
theorem bl_set {k p : Nat} {f : Nat → Bool} {b : Bool} : (bl k f).set p (.bool b) = bl k (fun j => if j = p then b else f j) := by
  apply List.ext_getElem?
  intro j
  by_cases hj : j < k
  · rw [bl_at hj, List.getElem?_set]
    by_cases h : p = j
    · subst h; rw [if_pos rfl, if_pos (by rw [bl_len]; exact hj), if_pos rfl]
    · rw [if_neg h, bl_at hj, if_neg (fun e => h e.symm)]
  · rw [List.getElem?_eq_none (by rw [List.length_set, bl_len]; omega), List.getElem?_eq_none (by rw [bl_len]; omega)]
theorem bl_false (n : Nat) : (List.replicate n false).map Value.bool = bl n (fun _ => false) := by
  apply List.ext_getElem?
  intro j
  by_cases hj : j < n
  · rw [bl_at hj]; simp [List.getElem?_replicate, hj]
  · rw [List.getElem?_eq_none (by simpa using hj), List.getElem?_eq_none (by rw [bl_len]; omega)]

theorem own_mono {w : World} {base base' : Nat} {e : TypeId} {size : Nat} {v : Value} {n : Nat} {xs : List Value} (h : w.ownsRow base e size v n xs) (hb : base' ≤ base) : w.ownsRow base' e size v n xs := by
  refine ⟨h.1, ?_⟩
  rcases h.2 with h | ⟨g, cap, cur, h1, h2, h3⟩
  · exact .inl h
  · exact .inr ⟨g, cap, cur, h1, by omega, h3⟩
/-- the rows so far -/
structure OutR (W : World) (B : Nat) (L : List Ev) (v : Value) (n : Nat) : Prop where
  ex : ∃ xs, W.ownsRow B 51 1 v n xs ∧ ∀ m, m < n → ∃ A c, xs[m]? = some (.slice A m c) ∧ W.ownsRow B 4 1 (.slice A m c) m (bl m (fun i => ahN L i m))
theorem OutR.below {W W' : World} {B n : Nat} {L : List Ev} {v : Value} (h : OutR W B L v n) (hb : Below W.heap.size W W') : OutR W' B L v n := by
  obtain ⟨xs, h1, h2⟩ := h
  refine ⟨xs, own_below h1 hb, fun m hm => ?_⟩
  obtain ⟨A, c, h3, h4⟩ := h2 m hm
  exact ⟨A, c, h3, own_below h4 hb⟩
theorem OutR.nil (W : World) (B : Nat) (L : List Ev) : OutR W B L (.slice none 0 0) 0 := ⟨[], World.ownsRow_nil _ _ _ _, fun m hm => by omega⟩
/-- the row m, and its cell i -/
theorem OutR.at_ {W : World} {B n m i c0 : Nat} {L : List Ev} {A0 : Option Addr} (h : OutR W B L (.slice A0 n c0) n) (hm : m < n) (hi : i < m) :
    ∃ g gr c, A0 = some ⟨g, 0, none⟩ ∧ W.cell? ⟨g, m, none⟩ = some (.slice (some ⟨gr, 0, none⟩) m c) ∧ W.cell? ⟨gr, i, none⟩ = some (.bool (ahN L i m)) := by
  obtain ⟨xs, h1, h2⟩ := h
  obtain ⟨A, c, h3, h4⟩ := h2 m hm
  obtain ⟨g, rfl⟩ := own_pos h1 (by omega)
  obtain ⟨gr, rfl⟩ := own_pos h4 (by omega)
  exact ⟨g, gr, c, rfl, (h1.cellAt m (by omega)).trans h3, (h4.cellAt i (by omega)).trans (bl_at hi)⟩
theorem OutR.push {W W' : World} {B n c : Nat} {L : List Ev} {v v' : Value} {xs : List Value} {A : Option Addr} (h1 : W.ownsRow B 51 1 v n xs) (h2 : ∀ m, m < n → ∃ A c, xs[m]? = some (.slice A m c) ∧ W.ownsRow B 4 1 (.slice A m c) m (bl m (fun i => ahN L i m)))
    (hr : W.ownsRow B 4 1 (.slice A n c) n (bl n (fun i => ahN L i n))) (h' : W'.ownsRow B 51 1 v' (n + 1) (xs ++ [.slice A n c])) (hg : W.grownBy W' v.ownBlock) : OutR W' B L v' (n + 1) := by
  refine ⟨_, h', fun m hm => ?_⟩
  have hl : xs.length = n := by have := h1.1; omega
  rcases Nat.lt_or_ge m n with hmn | hmn
  · obtain ⟨A', c', h3, h4⟩ := h2 m hmn
    exact ⟨A', c', by rw [List.getElem?_append_left (by omega)]; exact h3, own_other h4 h1 (by decide) hg⟩
  · obtain rfl : m = n := by omega
    exact ⟨A, c, by rw [List.getElem?_append_right (by omega), hl, Nat.sub_self]; rfl, own_other hr h1 (by decide) hg⟩
end Go.Proofs.Ytpcjcmbhoglnfaa
