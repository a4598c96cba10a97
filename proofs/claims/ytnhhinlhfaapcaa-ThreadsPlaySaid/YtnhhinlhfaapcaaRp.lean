/- Regions that draw their order and end in one store: what reads cells that nobody but that last store writes may be taken first. -/
import Derived.Test.YtnhhinlhfaapcaaRw
import Derived.OrdersHeld
import Derived.StillTail
namespace Go.Proofs.Ytnhhinlhfaapcaa
open Go.RowKit
set_option linter.unusedVariables false
set_option linter.unusedSimpArgs false

section
variable {P : Program} {ops : Array Oper} {Q : Exit → Act → World → Prop} {md : Region.Mode} {S : World → Prop} {n : Nat}

/-- Whatever order is picked, until the last operation alone is left; S holds behind each. -/
def wpPre (P : Program) (md : Region.Mode) (ops : Array Oper) (Q : Exit → Act → World → Prop) (S : World → Prop) (n : Nat) : Nat → Array Bool → Act → World → Prop
  | 0, listed, a, w => Region.ready md ops listed = [n] ∧ Region.ready md ops (listed.setIfInBounds n true) = [] ∧ wpOp P ops Q n (fun a' w' => Q .normal a' w') a w
  | f + 1, listed, a, w => Region.ready md ops listed ≠ [] ∧ ∀ i ∈ Region.ready md ops listed, wpOp P ops Q i (fun a' w' => S w' ∧ wpPre P md ops Q S n f (listed.setIfInBounds i true) a' w') a w

theorem wpAny_of_pre : ∀ (f : Nat) (listed : Array Bool) (a : Act) (w : World), wpPre P md ops Q S n f listed a w → wpAny P md ops Q (f + 1) listed a w
  | 0, listed, a, w, ⟨h1, h2, h3⟩ => ⟨fun h0 => (by rw [h1] at h0; cases h0), fun i hi => by
      rw [h1, List.mem_singleton] at hi
      subst hi
      exact wpOp_mono (fun a' w' h => ⟨h2, h⟩) h3⟩
  | f + 1, listed, a, w, ⟨h1, h2⟩ => ⟨fun h0 => absurd h0 h1, fun i hi => wpOp_mono (fun a' w' h => wpAny_of_pre f _ a' w' h.2) (h2 i hi)⟩

theorem wpPre_first {i : Nat} {oi : Oper} {v : Value} (hi : ops[i]? = some oi) (hsel : ∀ (j : Nat) (o : Oper) cs b, ops[j]? = some o → o.op ≠ .select cs b)
    (hQ : ∀ c a w, Q (.panic c) (a.put oi.dst v) w → Q (.panic c) a w) (hnw : Region.waitsFor md ops n i = true) :
    ∀ (f : Nat) (listed : Array Bool) (a : Act) (w : World),
      (∀ j oj, ops[j]? = some oj → j ≠ i → listed.getD j true = false → (∀ e ∈ oj.after, Region.binds md e = true → e.on ≠ i) → oi.apart ops oj = true) →
      i ∈ Region.ready md ops listed → YieldsIf P ops S oi v a → S w →
      wpPre P md ops Q S n f (listed.setIfInBounds i true) (a.put oi.dst v) w → wpPre P md ops Q S n (f + 1) listed a w := by
  intro f
  induction f with
  | zero =>
    intro listed a w _ hr hy hS H
    refine ⟨fun h => (by rw [h] at hr; cases hr), fun j hj => ?_⟩
    by_cases hji : j = i
    · subst hji; exact hy.wpOp hi hS ⟨hS, H⟩
    · exfalso
      have hm := ready_mono hj hji
      rw [H.1, List.mem_singleton] at hm
      subst hm
      obtain ⟨oj, hoj, e, he, hb, hon⟩ := Region.waitsFor_spec hnw
      obtain ⟨_, o', ho', hall⟩ := mem_ready.1 hj
      obtain rfl : oj = o' := Option.some.inj (hoj.symm.trans ho')
      have h2 := hall e he hb
      rw [hon, getD_both (mem_ready.1 hr).1] at h2
      cases h2
  | succ f ih =>
    intro listed a w hfree hr hy hS H
    refine ⟨fun h => (by rw [h] at hr; cases hr), fun j hj => ?_⟩
    by_cases hji : j = i
    · subst hji; exact hy.wpOp hi hS ⟨hS, H⟩
    · have h1 := H.2 j (ready_mono hj hji)
      obtain ⟨hjun, oj, hoj, hall⟩ := mem_ready.1 hj
      have hnot : ∀ e ∈ oj.after, Region.binds md e = true → e.on ≠ i := fun e he hb heq => by
        have h2 := hall e he hb
        rw [heq, getD_both (mem_ready.1 hr).1] at h2
        cases h2
      have h2 := wpOp_putIf hoj (hfree j oj hoj hji hjun hnot) (fun cs b => hsel i oi cs b hi) (fun cs b => hsel j oj cs b hoj) hQ hy h1
      have hfree' : ∀ k ok, ops[k]? = some ok → k ≠ i → (listed.setIfInBounds j true).getD k true = false →
          (∀ e ∈ ok.after, Region.binds md e = true → e.on ≠ i) → oi.apart ops ok = true := fun k ok hk hki hun hno => by
        refine hfree k ok hk hki ?_ hno
        by_cases hjk : j = k
        · subst hjk; exact hjun
        · rw [getD_set_ne true hjk] at hun; exact hun
      refine wpOp_mono (fun a' w' h3 => ⟨h3.2.1, ih (listed.setIfInBounds j true) a' w' hfree' (ready_mono hr (Ne.symm hji)) h3.1 h3.2.1 ?_⟩) h2
      rw [Array.setIfInBounds_comm _ _ hji]
      exact h3.2.2
theorem wpPre_take {i : Nat} {oi : Oper} {v : Value} {f : Nat} {listed : Array Bool} {a : Act} {w : World} (hi : ops[i]? = some oi)
    (hs : Region.noSelect ops = true) (hf : Region.free md ops listed i = true) (hr : (Region.ready md ops listed).contains i = true) (hnw : Region.waitsFor md ops n i = true)
    (hQ : ∀ c a w, Q (.panic c) (a.put oi.dst v) w → Q (.panic c) a w) (hS : S w) (hw : Region.wanted oi (yielded ops a.tmps) = true) (hy : ∀ w, S w → (execOp a.eval oi).run P w = .ok (.value v) w)
    (h : wpPre P md ops Q S n f (listed.setIfInBounds i true) (a.put oi.dst v) w) : wpPre P md ops Q S n (f + 1) listed a w :=
  wpPre_first hi (Region.noSelect_spec hs) hQ hnw f listed a w (Region.free_spec hi hf) (by simpa using hr) (.inl ⟨hw, hy⟩) hS h
theorem wpPre_op {i : Nat} {oi : Oper} {f : Nat} {listed : Array Bool} {a : Act} {w : World} (hi : ops[i]? = some oi)
    (h : ∀ K : Act → World → Prop, (∀ a' w', S w' → wpPre P md ops Q S n f (listed.setIfInBounds i true) a' w' → K a' w') → if Region.wanted oi (yielded ops a.tmps) = true then Oper.wp P oi a w K Q else True) (hw : Region.wanted oi (yielded ops a.tmps) = true) :
    wpOp P ops Q i (fun a' w' => S w' ∧ wpPre P md ops Q S n f (listed.setIfInBounds i true) a' w') a w := by
  have h := h (fun a' w' => S w' ∧ wpPre P md ops Q S n f (listed.setIfInBounds i true) a' w') (fun _ _ h1 h2 => ⟨h1, h2⟩)
  unfold wpOp
  simp only [hi]
  rw [if_pos hw] at h ⊢
  exact .inl h
theorem wpPre_one {i : Nat} {f : Nat} {listed : Array Bool} {a : Act} {w : World} (hr : Region.ready md ops listed = [i])
    (h : wpOp P ops Q i (fun a' w' => S w' ∧ wpPre P md ops Q S n f (listed.setIfInBounds i true) a' w') a w) : wpPre P md ops Q S n (f + 1) listed a w :=
  ⟨by rw [hr]; exact List.cons_ne_nil _ _, fun j hj => by rw [hr, List.mem_singleton] at hj; subst hj; exact h⟩
theorem wpPre_two {i j : Nat} {f : Nat} {listed : Array Bool} {a : Act} {w : World} (hr : Region.ready md ops listed = [i, j])
    (h : wpOp P ops Q i (fun a' w' => S w' ∧ wpPre P md ops Q S n f (listed.setIfInBounds i true) a' w') a w)
    (h' : wpOp P ops Q j (fun a' w' => S w' ∧ wpPre P md ops Q S n f (listed.setIfInBounds j true) a' w') a w) : wpPre P md ops Q S n (f + 1) listed a w :=
  ⟨by rw [hr]; exact List.cons_ne_nil _ _, fun k hk => by
    rw [hr, List.mem_cons, List.mem_singleton] at hk
    rcases hk with rfl | rfl
    · exact h
    · exact h'⟩
theorem wpPre_end {oi : Oper} {listed : Array Bool} {a : Act} {w : World} (h1 : Region.ready md ops listed = [n]) (h2 : Region.ready md ops (listed.setIfInBounds n true) = []) (hi : ops[n]? = some oi) (hw : Region.wanted oi (yielded ops a.tmps) = true)
    (h : Oper.wp P oi a w (fun a' w' => Q .normal a' w') Q) : wpPre P md ops Q S n 0 listed a w := by
  refine ⟨h1, h2, ?_⟩
  unfold wpOp
  simp only [hi]
  rw [if_pos hw]
  exact .inl h
theorem wp_region_pre {id : Nat} {a : Act} {w : World} (S : World → Prop) (n f : Nat) (hm : P.follows .mixedOrders = true) (hf : ops.size = f + 1)
    (h : wpPre P .any ops Q S n f (Array.replicate (f + 1) false) a w.drew) : (Code.region id ops true).wp P Q a w := by
  refine wp_region_any hm ?_
  rw [hf]
  exact wpAny_of_pre f _ a _ h
end
end Go.Proofs.Ytnhhinlhfaapcaa
