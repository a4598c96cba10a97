/- Threads: a table in memory: rows of rows; and the contracts of what only looks. -/
import Derived.Test.YtnhhinlhfaapcaaChecked
import Derived.Test.YtnhhinlhfaapcaaApp
import Derived.Deep.RegionWith
import Derived.Laws.OwnMore
import Derived.Lib.Hide
namespace Go.Proofs.Ytnhhinlhfaapcaa
open Go.RowKit
set_option linter.unusedVariables false
set_option linter.unusedSimpArgs false

/-! ### the state, plainly -/
structure Th where
  parent : Int
  ended : Bool
  panicked : Bool
  scopes : List (List Nat)
structure Tab where
  n : Nat
  th : Nat → Th

/-! ### rows of four cells each -/
def ch (f : Nat → List Value) (n : Nat) : List Value := (List.range n).flatMap f
theorem ch_succ (f : Nat → List Value) (n : Nat) : ch f (n + 1) = ch f n ++ f n := by
  unfold ch; rw [List.range_succ, List.flatMap_append]; simp
theorem ch_len {f : Nat → List Value} (hf : ∀ i, (f i).length = 4) : ∀ n, (ch f n).length = n * 4
  | 0 => rfl
  | n + 1 => by rw [ch_succ, List.length_append, ch_len hf n, hf]; omega
theorem ch_at {f : Nat → List Value} (hf : ∀ i, (f i).length = 4) : ∀ {n i j : Nat}, i < n → j < 4 → (ch f n)[i * 4 + j]? = (f i)[j]?
  | n + 1, i, j, hi, hj => by
    rw [ch_succ]
    rcases Nat.lt_or_ge i n with h | h
    · rw [List.getElem?_append_left (by rw [ch_len hf]; omega)]
      exact ch_at hf h hj
    · obtain rfl : i = n := by omega
      rw [List.getElem?_append_right (by rw [ch_len hf]; omega), ch_len hf, Nat.add_sub_cancel_left]
theorem ch_congr {f g : Nat → List Value} : ∀ {n : Nat}, (∀ i, i < n → f i = g i) → ch f n = ch g n
  | 0, _ => rfl
  | n + 1, h => by rw [ch_succ, ch_succ, ch_congr (fun i hi => h i (by omega)), h n (by omega)]
theorem ch_set {f : Nat → List Value} (hf : ∀ i, (f i).length = 4) {n m j : Nat} (hm : m < n) (hj : j < 4) (u : Value) : (ch f n).set (m * 4 + j) u = ch (fun i => if i = m then (f i).set j u else f i) n := by
  have hg : ∀ i, ((fun i => if i = m then (f i).set j u else f i) i).length = 4 := by
    intro i
    show (if i = m then (f i).set j u else f i).length = 4
    split
    · rw [List.length_set, hf]
    · exact hf i
  apply List.ext_getElem?
  intro k
  by_cases hk : k < n * 4
  · obtain ⟨i, q, hq, rfl⟩ : ∃ i q, q < 4 ∧ k = i * 4 + q := ⟨k / 4, k % 4, Nat.mod_lt _ (by decide), by omega⟩
    have hi : i < n := by omega
    rw [ch_at hg hi hq, List.getElem?_set]
    by_cases e : m * 4 + j = i * 4 + q
    · obtain rfl : m = i := by omega
      obtain rfl : j = q := by omega
      rw [if_pos rfl, if_pos (by rw [ch_len hf]; omega), if_pos rfl, List.getElem?_set, if_pos rfl, if_pos (by rw [hf]; omega)]
    · rw [if_neg e, ch_at hf hi hq]
      by_cases e2 : i = m
      · subst e2
        rw [if_pos rfl, List.getElem?_set, if_neg (by omega)]
      · rw [if_neg e2]
  · rw [List.getElem?_eq_none (by rw [List.length_set, ch_len hf]; omega), List.getElem?_eq_none (by rw [ch_len hg]; omega)]

/-! ### a row that may have been cut: its capacity may be less than its block's -/
def RowS (W : World) (B : Nat) (e : TypeId) (v : Value) (n : Nat) (xs : List Value) : Prop :=
  xs.length = n ∧ ((v = .slice none 0 0 ∧ n = 0) ∨
  ∃ g cap cur, v = .slice (some ⟨g, 0, none⟩) n cap ∧ B ≤ g ∧ W.heap[g]? = some (.cells cur e (0, 0)) ∧ n ≤ cap ∧ cap ≤ maxLen ∧ cap ≤ cur.size ∧ cur.toList.take n = xs)
section
variable {W W' : World} {B e n : Nat} {v : Value} {xs : List Value}
theorem RowS.of (h : W.ownsRow B e 1 v n xs) : RowS W B e v n xs := by
  refine ⟨by have := h.1; omega, ?_⟩
  rcases h.2 with h | ⟨g, cap, cur, h1, h2, h3, h4, h5, h6, h7⟩
  · exact .inl h
  · exact .inr ⟨g, cap, cur, h1, h2, h3, h4, h5, by omega, by rw [Nat.mul_one] at h7; exact h7⟩
theorem RowS.lt (h : RowS W B e v n xs) : ∀ k, v.ownBlock = some k → B ≤ k ∧ k < W.heap.size := by
  intro k hk
  rcases h.2 with ⟨rfl, _⟩ | ⟨g, cap, cur, rfl, h2, h3, _⟩
  · cases hk
  · simp [Value.ownBlock] at hk
    subst hk
    exact ⟨h2, by
      rcases Nat.lt_or_ge g W.heap.size with h | h
      · exact h
      · rw [Array.getElem?_eq_none h] at h3; cases h3⟩
theorem RowS.kept {row : Option Nat} (h : RowS W B e v n xs) (hg : W.grownBy W' row) (hne : v.ownBlock = none ∨ v.ownBlock ≠ row) : RowS W' B e v n xs := by
  refine ⟨h.1, ?_⟩
  have hlt := h.lt
  rcases h.2 with h | ⟨g, cap, cur, rfl, h2, h3, h4⟩
  · exact .inl h
  · refine .inr ⟨g, cap, cur, rfl, h2, ?_, h4⟩
    rw [hg.block g (hlt g rfl).2 (by
      rcases hne with h | h
      · cases h
      · exact h)]
    exact h3
theorem RowS.below (h : RowS W B e v n xs) (hb : Below W.heap.size W W') : RowS W' B e v n xs :=
  h.kept (row := none) ⟨hb.os, hb.tape, hb.output, hb.size, fun i hi _ => hb.block i hi⟩ (by
    cases v.ownBlock with
    | none => exact .inl rfl
    | some _ => exact .inr (by simp))
theorem RowS.form (h : RowS W B e v n xs) (hn : 0 < n) : ∃ g cap, v = .slice (some ⟨g, 0, none⟩) n cap := by
  rcases h.2 with ⟨_, h⟩ | ⟨g, cap, _, h, _⟩
  · omega
  · exact ⟨g, cap, h⟩
theorem RowS.sl (h : RowS W B e v n xs) : ∃ A cap, v = .slice A n cap ∧ n ≤ cap ∧ (A = none → cap = 0) ∧ cap ≤ maxLen := by
  rcases h.2 with ⟨rfl, rfl⟩ | ⟨g, cap, _, h, _, _, h4, h5, _⟩
  · exact ⟨none, 0, rfl, Nat.le_refl _, fun _ => rfl, by unfold maxLen; omega⟩
  · exact ⟨_, cap, h, h4, (fun e => by cases e), h5⟩
theorem RowS.cell {g cap j : Nat} (h : RowS W B e (.slice (some ⟨g, 0, none⟩) n cap) n xs) (hj : j < n) : W.cell? ⟨g, j, none⟩ = xs[j]? := by
  rcases h.2 with ⟨h, _⟩ | ⟨g', cap', cur, h1, h2, h3, h4, h5, h6, h7⟩
  · cases h
  · rw [Value.slice.injEq, Option.some.injEq, Addr.mk.injEq] at h1
    obtain ⟨⟨rfl, _⟩, _, rfl⟩ := h1
    rw [cell_of_row W g j cur e (0, 0) h3, ← Array.getElem?_toList, ← h7, List.getElem?_take, if_pos hj]
theorem RowS.frz {g cap : Nat} (h : RowS W B e (.slice (some ⟨g, 0, none⟩) n cap) n xs) (j : Nat) : W.frozen? ⟨g, j, none⟩ = false := by
  rcases h.2 with ⟨h, _⟩ | ⟨g', cap', cur, h1, h2, h3, h4, h5, h6, h7⟩
  · cases h
  · rw [Value.slice.injEq, Option.some.injEq, Addr.mk.injEq] at h1
    obtain ⟨⟨rfl, _⟩, _, rfl⟩ := h1
    exact Blk.frozen (cs := cur) h3 j
theorem RowS.set_ {g cap j : Nat} (h : RowS W B e (.slice (some ⟨g, 0, none⟩) n cap) n xs) (u : Value) : RowS (W.setCell ⟨g, j, none⟩ u) B e (.slice (some ⟨g, 0, none⟩) n cap) n (xs.set j u) := by
  refine ⟨by rw [List.length_set]; exact h.1, ?_⟩
  rcases h.2 with ⟨h, _⟩ | ⟨g', cap', cur, h1, h2, h3, h4, h5, h6, h7⟩
  · cases h
  · rw [Value.slice.injEq, Option.some.injEq, Addr.mk.injEq] at h1
    obtain ⟨⟨rfl, _⟩, _, rfl⟩ := h1
    refine .inr ⟨g, cap, cur.setIfInBounds j u, rfl, h2, Blk.set_ (cs := cur) h3 j u, h4, h5, by simpa using h6, ?_⟩
    rw [← h7]
    simp [List.take_set]
theorem RowS.cut {g cap m : Nat} (h : RowS W B e (.slice (some ⟨g, 0, none⟩) n cap) n xs) (hm : m ≤ n) : RowS W B e (.slice (some ⟨g, 0, none⟩) m m) m (xs.take m) := by
  refine ⟨by rw [List.length_take, h.1]; omega, ?_⟩
  rcases h.2 with ⟨h, _⟩ | ⟨g', cap', cur, h1, h2, h3, h4, h5, h6, h7⟩
  · cases h
  · rw [Value.slice.injEq, Option.some.injEq, Addr.mk.injEq] at h1
    obtain ⟨⟨rfl, _⟩, _, rfl⟩ := h1
    refine .inr ⟨g, m, cur, rfl, h2, h3, Nat.le_refl _, by omega, by omega, ?_⟩
    rw [← h7, List.take_take, Nat.min_eq_left hm]
end

/-! ### a table in memory -/
def natV (n : Nat) : Value := .int .i64 n
def thC (t : Th) (s : Value) : List Value := [.int .i64 t.parent, .bool t.ended, .bool t.panicked, s]
theorem thC_len (t : Th) (s : Value) : (thC t s).length = 4 := rfl
/-- how many scopes are open -/
def dep (t : Tab) (i : Nat) : Nat := (t.th i).scopes.length
/-- the threads of a scope -/
def mem (t : Tab) (i k : Nat) : List Nat := (t.th i).scopes.getD k []
structure TabX (W : World) (B g : Nat) (v : Value) (S : Nat → Value) (C : Nat → Nat → Value) (t : Tab) : Prop where
  hB : B ≤ g
  hn : 0 < t.n
  blk : Blk W g 56 #[v]
  ol : W.ownsRow B 60 4 v t.n (ch (fun i => thC (t.th i) (S i)) t.n)
  os : ∀ i, i < t.n → RowS W B 29 (S i) (dep t i) ((List.range (dep t i)).map (C i))
  oi : ∀ i k, i < t.n → k < dep t i → W.ownsRow B 3 1 (C i k) (mem t i k).length ((mem t i k).map natV)
  ds : ∀ i j q, i < t.n → j < t.n → (S i).ownBlock = some q → (S j).ownBlock = some q → i = j
  di : ∀ i k j m q, i < t.n → k < dep t i → j < t.n → m < dep t j → (C i k).ownBlock = some q → (C j m).ownBlock = some q → i = j ∧ k = m
def TabR (W : World) (B g : Nat) (t : Tab) : Prop := ∃ v S C, TabX W B g v S C t
theorem TabX.lt {W : World} {B g : Nat} {v : Value} {S : Nat → Value} {C : Nat → Nat → Value} {t : Tab} (h : TabX W B g v S C t) : g < W.heap.size := h.blk.lt
theorem own_below {w w' : World} {B : Nat} {e : TypeId} {s n : Nat} {v : Value} {xs : List Value} (h : w.ownsRow B e s v n xs) (hb : Below w.heap.size w w') : w'.ownsRow B e s v n xs :=
  h.kept (row := none) ⟨hb.os, hb.tape, hb.output, hb.size, fun i hi _ => hb.block i hi⟩ (by
    cases v.ownBlock with
    | none => exact .inl rfl
    | some _ => exact .inr (by simp))
theorem TabX.below {W W' : World} {B g : Nat} {v : Value} {S : Nat → Value} {C : Nat → Nat → Value} {t : Tab} (h : TabX W B g v S C t) (hb : Below W.heap.size W W') : TabX W' B g v S C t :=
  ⟨h.hB, h.hn, h.blk.below hb h.blk.lt, own_below h.ol hb, fun i hi => (h.os i hi).below hb, fun i k hi hk => own_below (h.oi i k hi hk) hb, h.ds, h.di⟩
theorem TabR.below {W W' : World} {B g : Nat} {t : Tab} (h : TabR W B g t) (hb : Below W.heap.size W W') : TabR W' B g t := by
  obtain ⟨v, S, C, h⟩ := h
  exact ⟨v, S, C, h.below hb⟩
theorem TabX.l {W : World} {B g : Nat} {v : Value} {S : Nat → Value} {C : Nat → Nat → Value} {t : Tab} (h : TabX W B g v S C t) : ∃ gl cl, v = .slice (some ⟨gl, 0, none⟩) t.n cl := by
  rcases h.ol.2 with ⟨_, h2⟩ | ⟨gl, cl, _, h2, _⟩
  · have := h.hn; omega
  · exact ⟨gl, cl, h2⟩
theorem TabX.box {W : World} {B g : Nat} {v : Value} {S : Nat → Value} {C : Nat → Nat → Value} {t : Tab} (h : TabX W B g v S C t) : W.cell? ⟨g, 0, none⟩ = some v := h.blk.cell 0
theorem TabX.cells {W : World} {B g gl cl : Nat} {S : Nat → Value} {C : Nat → Nat → Value} {t : Tab} (h : TabX W B g (.slice (some ⟨gl, 0, none⟩) t.n cl) S C t) {i : Nat} (hi : i < t.n) :
    W.cell? ⟨gl, i * 4, none⟩ = some (.int .i64 (t.th i).parent) ∧ W.cell? ⟨gl, i * 4 + 1, none⟩ = some (.bool (t.th i).ended) ∧ W.cell? ⟨gl, i * 4 + 2, none⟩ = some (.bool (t.th i).panicked) ∧ W.cell? ⟨gl, i * 4 + 3, none⟩ = some (S i) := by
  have hf : ∀ i, ((fun i => thC (t.th i) (S i)) i).length = 4 := fun i => rfl
  have hc := fun (j : Nat) (hj : j < 4) => (h.ol.cellAt (i * 4 + j) (by omega)).trans (ch_at hf hi hj)
  exact ⟨hc 0 (by omega), hc 1 (by omega), hc 2 (by omega), hc 3 (by omega)⟩
theorem TabX.sform {W : World} {B g : Nat} {v : Value} {S : Nat → Value} {C : Nat → Nat → Value} {t : Tab} (h : TabX W B g v S C t) {i : Nat} (hi : i < t.n) : ∃ A cap, S i = .slice A (dep t i) cap ∧ dep t i ≤ cap ∧ (A = none → cap = 0) ∧ cap ≤ maxLen := (h.os i hi).sl

def hasB (t : Tab) (n : Int) : Bool := decide (0 ≤ n) && decide (n < t.n)
theorem hasB_iff {t : Tab} {n : Int} : hasB t n = true ↔ 0 ≤ n ∧ n < t.n := by simp [hasB]
theorem has_any (g B : Nat) (t : Tab) (n : Int) (w : World) (h : TabR w B g t) : Calls Try.prog 31 #[.pointer (some ⟨g, 0, none⟩), .int .i64 n] w fun r w' => r = .returned (.bool (hasB t n)) ∧ w = w' := by
  obtain ⟨v, S, C, h⟩ := h
  obtain ⟨gl, cl, rfl⟩ := h.l
  have c0 := h.box
  have HN := Lib.hid h.hn
  clear h
  by_cases h0 : n < 0
  · have HE := Lib.hid (show hasB t n = false by unfold hasB; rw [decide_eq_false (by omega)]; rfl)
    have h0' : ¬ (0 : Int) ≤ n := by omega
    go_enter Try.func31, Try.ntmps31
    go_wp2
    go_ret
    exact ⟨by rw [HE.out]; rfl, rfl⟩
  · have HE := Lib.hid (show hasB t n = decide (n < t.n) by unfold hasB; rw [decide_eq_true (by omega)]; rfl)
    have h0' : (0 : Int) ≤ n := by omega
    obtain ⟨b, hb⟩ : ∃ b, decide (n < (t.n : Int)) = b := ⟨_, rfl⟩
    rw [hb] at HE
    go_enter Try.func31, Try.ntmps31
    go_wp2
    go_ret
    exact ⟨by rw [HE.out]; rfl, rfl⟩
theorem none_any (g B : Nat) (t : Tab) (w : World) (h : TabR w B g t) : Calls Try.prog 33 #[.pointer (some ⟨g, 0, none⟩)] w fun r w' => r = .returned (.bool false) ∧ w = w' := by
  obtain ⟨v, S, C, h⟩ := h
  obtain ⟨gl, cl, rfl⟩ := h.l
  have c0 := h.box
  have hn : ((t.n : Int) == 0) = false := beq_eq_false_iff_ne.2 (by have := h.hn; omega)
  have hn2 : ¬ (t.n : Int) = 0 := by have := h.hn; omega
  clear h
  go_enter Try.func33, Try.ntmps33
  go_wp2
  go_ret
  exact ⟨rfl, rfl⟩
end Go.Proofs.Ytnhhinlhfaapcaa
