/- Race: the contract of reaches: whether an event is looked for backwards. -/
import Derived.Test.YtpcjcmbhoglnfaaM
import Derived.Test.YtpcjcmbhoglnfaaG
namespace Go.Proofs.Ytpcjcmbhoglnfaa
open Go.RowKit
set_option linter.unusedVariables false
set_option linter.unusedSimpArgs false

/-! ### plain -/
structure RIn (F : Nat → Nat → Prop) (k n mm : Nat) (seen : List Bool) (td : List Nat) : Prop where
  len : seen.length = k + 1
  snd : ∀ m, seen[m]? = some true → m < k ∧ HB F m k
  mem : ∀ q ∈ td, q = k ∨ seen[q]? = some true
  hn : n = k ∨ seen[n]? = some true
  cls : ∀ q, (q = k ∨ seen[q]? = some true) → q ∈ td ∨ (q = n ∧ ∀ m, m < mm → F m n → seen[m]? = some true) ∨ ∀ m, m < q → F m q → seen[m]? = some true
structure RInv (F : Nat → Nat → Prop) (k : Nat) (seen : List Bool) (td : List Nat) : Prop where
  len : seen.length = k + 1
  snd : ∀ m, seen[m]? = some true → m < k ∧ HB F m k
  mem : ∀ q ∈ td, q = k ∨ seen[q]? = some true
  cls : ∀ q, (q = k ∨ seen[q]? = some true) → q ∈ td ∨ ∀ m, m < q → F m q → seen[m]? = some true
section
variable {F : Nat → Nat → Prop} {k n mm : Nat} {seen : List Bool} {td : List Nat}
theorem rinv0 (F : Nat → Nat → Prop) (k : Nat) : RInv F k (List.replicate (k + 1) false) [k] where
  len := by simp
  snd := by
    intro m h
    rw [List.getElem?_replicate] at h
    split at h <;> cases h
  mem := by intro q hq; exact .inl (List.mem_singleton.1 hq)
  cls := by
    intro q hq
    rcases hq with rfl | hq
    · exact .inl (List.mem_singleton.2 rfl)
    · rw [List.getElem?_replicate] at hq
      split at hq <;> cases hq
theorem RInv.pop (h : RInv F k seen (td ++ [n])) : RIn F k n 0 seen td where
  len := h.len
  snd := h.snd
  mem := fun q hq => h.mem q (List.mem_append_left _ hq)
  hn := h.mem n (by simp)
  cls := by
    intro q hq
    rcases h.cls q hq with h1 | h1
    · rcases List.mem_append.1 h1 with h2 | h2
      · exact .inl h2
      · exact .inr (.inl ⟨List.mem_singleton.1 h2, fun m hm => by omega⟩)
    · exact .inr (.inr h1)
theorem RIn.skip (h : RIn F k n mm seen td) (hs : F mm n → seen[mm]? = some true) : RIn F k n (mm + 1) seen td where
  len := h.len
  snd := h.snd
  mem := h.mem
  hn := h.hn
  cls := by
    intro q hq
    rcases h.cls q hq with h1 | ⟨h1, h2⟩ | h1
    · exact .inl h1
    · refine .inr (.inl ⟨h1, fun m hm hf => ?_⟩)
      rcases Nat.lt_or_ge m mm with h3 | h3
      · exact h2 m h3 hf
      · obtain rfl : m = mm := by omega
        exact hs hf
    · exact .inr (.inr h1)
theorem RIn.nk (h : RIn F k n mm seen td) : n ≤ k := by
  rcases h.hn with h1 | h1
  · omega
  · have := (h.snd n h1).1; omega
theorem RIn.take (h : RIn F k n mm seen td) (hm : mm < n) (hf : F mm n) : RIn F k n (mm + 1) (seen.set mm true) (td ++ [mm]) := by
  have hnk := h.nk
  have hl : mm < seen.length := by rw [h.len]; omega
  have hup : ∀ q : Nat, seen[q]? = some true → (seen.set mm true)[q]? = some true := by
    intro q hq
    by_cases e : mm = q
    · subst e; exact List.getElem?_set_self hl
    · rw [List.getElem?_set_ne e]; exact hq
  have hself : (seen.set mm true)[mm]? = some true := List.getElem?_set_self hl
  have hdn : ∀ q : Nat, (seen.set mm true)[q]? = some true → q = mm ∨ seen[q]? = some true := by
    intro q hq
    by_cases e : mm = q
    · exact .inl e.symm
    · rw [List.getElem?_set_ne e] at hq; exact .inr hq
  have hnk2 : HB F mm k := by
    rcases h.hn with h1 | h1
    · subst h1; exact .one hm hf
    · exact (HB.one hm hf).trans (h.snd n h1).2
  refine ⟨by rw [List.length_set]; exact h.len, ?_, ?_, ?_, ?_⟩
  · intro q hq
    rcases hdn q hq with rfl | h1
    · exact ⟨by omega, hnk2⟩
    · exact h.snd q h1
  · intro q hq
    rcases List.mem_append.1 hq with h1 | h1
    · exact (h.mem q h1).imp id (hup q)
    · rw [List.mem_singleton.1 h1]; exact .inr hself
  · exact h.hn.imp id (hup n)
  · intro q hq
    have hq' : q = mm ∨ (q = k ∨ seen[q]? = some true) := by
      rcases hq with h1 | h1
      · exact .inr (.inl h1)
      · rcases hdn q h1 with h2 | h2
        · exact .inl h2
        · exact .inr (.inr h2)
    rcases hq' with rfl | hq'
    · exact .inl (by simp)
    · rcases h.cls q hq' with h1 | ⟨h1, h2⟩ | h1
      · exact .inl (List.mem_append_left _ h1)
      · refine .inr (.inl ⟨h1, fun m hm' hf' => ?_⟩)
        rcases Nat.lt_or_ge m mm with h3 | h3
        · exact hup m (h2 m h3 hf')
        · obtain rfl : m = mm := by omega
          exact hself
      · exact .inr (.inr fun m hm' hf' => hup m (h1 m hm' hf'))
theorem RIn.done (h : RIn F k n n seen td) : RInv F k seen td where
  len := h.len
  snd := h.snd
  mem := h.mem
  cls := by
    intro q hq
    rcases h.cls q hq with h1 | ⟨rfl, h2⟩ | h1
    · exact .inl h1
    · exact .inr h2
    · exact .inr h1
theorem RInv.fin (h : RInv F k seen []) {i : Nat} : seen[i]? = some true ↔ HB F i k := by
  constructor
  · exact fun hh => (h.snd i hh).2
  · intro hh
    have key : ∀ n, HB F i n → (n = k ∨ seen[n]? = some true) → seen[i]? = some true := by
      intro n hb
      induction hb with
      | one hlt hf =>
        intro hn
        rcases h.cls _ hn with h1 | h1
        · cases h1
        · exact h1 _ hlt hf
      | step _ hlt hf ih =>
        intro hn
        rcases h.cls _ hn with h1 | h1
        · cases h1
        · exact ih (.inr (h1 _ hlt hf))
    exact key k hh (.inl rfl)
end
theorem count_set {l : List Bool} : ∀ {m : Nat}, l[m]? = some false → (l.set m true).count false + 1 = l.count false := by
  induction l with
  | nil => intro m h; simp at h
  | cons a l ih =>
    intro m h
    cases m with
    | zero => simp at h; subst h; simp
    | succ m =>
      have := ih (m := m) (by simpa using h)
      simp only [List.set_cons_succ, List.count_cons]
      omega

/-! ### in memory -/
def isF : Option Value → Bool
  | some (.bool b) => !b
  | _ => false
def fcount (w : World) (g n : Nat) : Nat := (List.range n).countP fun i => isF (w.cell? ⟨g, i, none⟩)
def lenV : Value → Nat
  | .slice _ n _ => n
  | _ => 0
theorem fcount_of {w : World} {B g c n : Nat} {seen : List Bool} (h : w.ownsRow B 4 1 (.slice (some ⟨g, 0, none⟩) n c) n (seen.map Value.bool)) (hl : seen.length = n) : fcount w g n = seen.count false := by
  have e : seen = (List.range n).map fun i => seen.getD i true := by
    apply List.ext_getElem (by simp [hl])
    intro i h1 h2
    simp [List.getD_eq_getElem?_getD, List.getElem?_eq_getElem h1]
  conv => rhs; rw [e]
  unfold fcount
  rw [List.count, List.countP_map]
  refine List.countP_congr fun i hi => ?_
  have hi := List.mem_range.1 hi
  have hc := h.cellAt i (by omega)
  obtain ⟨b, hb⟩ : ∃ b, seen[i]? = some b := ⟨_, List.getElem?_eq_getElem (by omega)⟩
  rw [List.getElem?_map, hb] at hc
  rw [hc]
  simp only [Function.comp, List.getD_eq_getElem?_getD, hb]
  cases b <;> simp [isF]
theorem own_pop {w : World} {B e g n c : Nat} {xs : List Value} {x : Value} (h : w.ownsRow B e 1 (.slice (some ⟨g, 0, none⟩) (n + 1) c) (n + 1) (xs ++ [x])) : w.ownsRow B e 1 (.slice (some ⟨g, 0, none⟩) n c) n xs ∧ w.cell? ⟨g, n, none⟩ = some x ∧ n + 1 ≤ c ∧ c ≤ maxLen := by
  have hl := h.1
  simp at hl
  have hcell := h.cellAt n (by omega)
  rcases h.2 with ⟨e1, _⟩ | ⟨g', cap, cur, e1, hb, hh, hn, hm, hs, ht⟩
  · cases e1
  · rw [Value.slice.injEq, Option.some.injEq, Addr.mk.injEq] at e1
    obtain ⟨⟨rfl, _⟩, _, rfl⟩ := e1
    refine ⟨⟨by omega, .inr ⟨g, c, cur, rfl, hb, hh, by omega, hm, hs, ?_⟩⟩, ?_, hn, hm⟩
    · have := congrArg (List.take n) ht
      rw [List.take_take, Nat.min_eq_left (by omega), List.take_left' hl] at this
      rw [Nat.mul_one]
      exact this
    · rw [hcell, List.getElem?_append_right (by omega), hl]
      simp
def natV (n : Nat) : Value := .int .i64 n
/-- the two rows in memory -/
structure RW (w : World) (g k : Nat) (seen : List Bool) (td : List Nat) (v : Value) (W : World) : Prop where
  o4 : W.ownsRow w.heap.size 4 1 (.slice (some ⟨g, 0, none⟩) (k + 1) (k + 1)) (k + 1) (seen.map Value.bool)
  o3 : W.ownsRow w.heap.size 3 1 v td.length (td.map natV)
  b : Below w.heap.size w W
theorem RW.below {w W W' : World} {g k : Nat} {seen : List Bool} {td : List Nat} {v : Value} (h : RW w g k seen td v W) (hb : Below W.heap.size W W') : RW w g k seen td v W' :=
  ⟨own_below h.o4 hb, own_below h.o3 hb, h.b.trans (hb.mono h.b.size)⟩
theorem RW.set {w W : World} {g k : Nat} {seen : List Bool} {td : List Nat} {v : Value} (h : RW w g k seen td v W) (m : Nat) : RW w g k (seen.set m true) td v (W.setCell ⟨g, m, none⟩ (.bool true)) := by
  have hg : W.grownBy (W.setCell ⟨g, m, none⟩ (.bool true)) (some g) := grown_at _ _ _ _
  refine ⟨?_, own_gty h.o3 hg (own_ty h.o4 rfl) (by decide), h.b.setCell (p := ⟨g, m, none⟩) (h.o4.lt g rfl).1 _⟩
  have := (h.o4.stored m (.bool true)).1
  rwa [← List.map_set] at this
end Go.Proofs.Ytpcjcmbhoglnfaa
