/- Locks: plain laws of the document's list of mutexes. -/
import Derived.Test.YthbajgpoldajmaaRef
import Derived.Test.YthbajgpoldajmaaOneW
namespace Go.Proofs.Ythbajgpoldajmaa
set_option linter.unusedVariables false

def lookM (M : List Mu) : LS := fun i => (M.find? (fun x => x.1 == i)).map (·.2)
def Uniq (M : List Mu) : Prop := M.Pairwise fun a b => a.1 ≠ b.1
theorem look_mem {M : List Mu} (h : Uniq M) (i : Int) (y : Int × Bool) : lookM M i = some y ↔ (i, y) ∈ M := by
  induction M with
  | nil => simp [lookM]
  | cons a M ih =>
    have h1 := List.pairwise_cons.1 h
    have ih := ih h1.2
    unfold lookM at ih ⊢
    by_cases e : a.1 = i
    · have : (a.1 == i) = true := by simpa using e
      rw [show List.find? (fun x : Mu => x.1 == i) (a :: M) = some a from List.find?_cons_of_pos (p := fun x : Mu => x.1 == i) this]
      constructor
      · intro hh
        simp at hh
        have : a = (i, y) := by rw [← e, ← hh]
        rw [this]; exact List.mem_cons_self
      · intro hh
        rcases List.mem_cons.1 hh with hh | hh
        · rw [← hh]; rfl
        · exact absurd e (h1.1 _ hh)
    · have : ¬ (a.1 == i) = true := by simpa using e
      rw [show List.find? (fun x : Mu => x.1 == i) (a :: M) = List.find? (fun x : Mu => x.1 == i) M from List.find?_cons_of_neg (p := fun x : Mu => x.1 == i) this, ih]
      constructor
      · exact fun hh => List.mem_cons_of_mem _ hh
      · intro hh
        rcases List.mem_cons.1 hh with hh | hh
        · rw [← hh] at e; exact absurd rfl e
        · exact hh
theorem look_none {M : List Mu} {i : Int} (h : ∀ y ∈ M, y.1 ≠ i) : lookM M i = none := by
  unfold lookM
  rw [List.find?_eq_none.2 (fun x hx => by simpa using h x hx)]; rfl
theorem look_at {M : List Mu} {i : Int} {k : Nat} {x : Mu} (hu : Uniq M) (hk : M[k]? = some x) (hx : x.1 = i) : lookM M i = some x.2 :=
  (look_mem hu i x.2).2 (by rw [← hx]; exact List.mem_of_getElem? hk)
theorem opt_ext {a b : Option (Int × Bool)} (h : ∀ y, a = some y ↔ b = some y) : a = b := by
  cases a with
  | none =>
    cases b with
    | none => rfl
    | some y => exact absurd ((h y).2 rfl) (by simp)
  | some x => exact ((h x).1 rfl).symm
theorem uniq_snoc {M : List Mu} (hu : Uniq M) {x : Mu} (h : ∀ y ∈ M, y.1 ≠ x.1) : Uniq (M ++ [x]) :=
  List.pairwise_append.2 ⟨hu, List.pairwise_singleton _ _, fun a ha b hb => by rw [List.mem_singleton.1 hb]; exact h a ha⟩
theorem look_snoc {M : List Mu} (hu : Uniq M) {x : Mu} (h : ∀ y ∈ M, y.1 ≠ x.1) : lookM (M ++ [x]) = setS (lookM M) x.1 (some x.2) := by
  funext j
  refine opt_ext fun y => ?_
  rw [look_mem (uniq_snoc hu h), List.mem_append, List.mem_singleton]
  by_cases e : j = x.1
  · subst e
    rw [setS_same]
    constructor
    · rintro (hh | hh)
      · exact absurd rfl (h (x.1, y) hh)
      · rw [← hh]
    · intro hh
      right
      rw [Option.some.injEq] at hh
      rw [← hh]
  · rw [setS_other _ _ e, look_mem hu]
    constructor
    · rintro (hh | hh)
      · exact hh
      · exact absurd (congrArg Prod.fst hh) e
    · exact .inl
theorem uniq_ne {M : List Mu} (hu : Uniq M) {k j : Nat} {x y : Mu} (hk : M[k]? = some x) (hj : M[j]? = some y) (h : j ≠ k) : y.1 ≠ x.1 := by
  have hp := List.pairwise_iff_getElem.1 hu
  obtain ⟨l1, e1⟩ := List.getElem?_eq_some_iff.1 hk
  obtain ⟨l2, e2⟩ := List.getElem?_eq_some_iff.1 hj
  rcases Nat.lt_or_gt_of_ne h with hh | hh
  · have := hp j k l2 l1 hh; rw [e1, e2] at this; exact this
  · have := hp k j l1 l2 hh; rw [e1, e2] at this; exact this.symm
theorem uniq_set {M : List Mu} (hu : Uniq M) {k : Nat} {x : Mu} (hk : M[k]? = some x) (v : Int × Bool) : Uniq (M.set k (x.1, v)) := by
  refine List.pairwise_iff_getElem.2 fun a b ha hb hab => ?_
  have ha' : a < M.length := by simpa using ha
  have hb' : b < M.length := by simpa using hb
  rw [List.getElem_set, List.getElem_set]
  by_cases h1 : k = a
  · rw [if_pos h1, if_neg (show ¬ k = b by omega)]
    exact (uniq_ne (x := x) (j := b) hu hk (List.getElem?_eq_getElem hb') (show b ≠ k by omega)).symm
  · rw [if_neg h1]
    by_cases h2 : k = b
    · rw [if_pos h2]
      have hne := uniq_ne (x := x) (j := a) hu hk (List.getElem?_eq_getElem ha') (show a ≠ k by omega)
      exact hne
    · rw [if_neg h2]
      exact List.pairwise_iff_getElem.1 hu a b ha' hb' hab
theorem look_set {M : List Mu} (hu : Uniq M) {k : Nat} {x : Mu} (hk : M[k]? = some x) (v : Int × Bool) : lookM (M.set k (x.1, v)) = setS (lookM M) x.1 (some v) := by
  have hl := (List.getElem?_eq_some_iff.1 hk).1
  funext j
  refine opt_ext fun y => ?_
  rw [look_mem (uniq_set hu hk v)]
  by_cases e : j = x.1
  · subst e
    rw [setS_same]
    constructor
    · intro hh
      obtain ⟨q, hq⟩ := List.mem_iff_getElem?.1 hh
      by_cases h : k = q
      · subst h
        rw [List.getElem?_set_self hl] at hq
        rw [Option.some.injEq, Prod.mk.injEq] at hq
        rw [hq.2]
      · rw [List.getElem?_set_ne h] at hq
        exact ((uniq_ne (x := x) (y := (x.1, y)) hu hk hq (fun e => h e.symm)) rfl).elim
    · intro hh
      rw [Option.some.injEq] at hh
      subst hh
      exact List.mem_iff_getElem?.2 ⟨k, List.getElem?_set_self hl⟩
  · rw [setS_other _ _ e, look_mem hu]
    constructor
    · intro hh
      obtain ⟨q, hq⟩ := List.mem_iff_getElem?.1 hh
      by_cases h : k = q
      · subst h
        rw [List.getElem?_set_self hl] at hq
        rw [Option.some.injEq, Prod.mk.injEq] at hq
        exact absurd hq.1.symm e
      · rw [List.getElem?_set_ne h] at hq
        exact List.mem_of_getElem? hq
    · intro hh
      obtain ⟨q, hq⟩ := List.mem_iff_getElem?.1 hh
      by_cases h : k = q
      · subst h; rw [hk, Option.some.injEq] at hq; rw [hq] at e; exact absurd rfl e
      · exact List.mem_iff_getElem?.2 ⟨q, by rw [List.getElem?_set_ne h]; exact hq⟩
theorem uniq_erase {M : List Mu} (hu : Uniq M) (k : Nat) : Uniq (M.take k ++ M.drop (k + 1)) := by
  rw [← List.eraseIdx_eq_take_drop_succ]
  exact List.Pairwise.sublist (List.eraseIdx_sublist M k) hu
theorem look_erase {M : List Mu} (hu : Uniq M) {k : Nat} {x : Mu} (hk : M[k]? = some x) : lookM (M.take k ++ M.drop (k + 1)) = setS (lookM M) x.1 none := by
  funext j
  refine opt_ext fun y => ?_
  rw [look_mem (uniq_erase hu k), ← List.eraseIdx_eq_take_drop_succ, List.mem_eraseIdx_iff_getElem?]
  by_cases e : j = x.1
  · subst e
    rw [setS_same]
    constructor
    · rintro ⟨q, hq, hh⟩
      exact ((uniq_ne (x := x) (y := (x.1, y)) hu hk hh hq) rfl).elim
    · intro hh; cases hh
  · rw [setS_other _ _ e, look_mem hu]
    constructor
    · rintro ⟨q, hq, hh⟩
      exact List.mem_of_getElem? hh
    · intro hh
      obtain ⟨q, hq⟩ := List.mem_iff_getElem?.1 hh
      refine ⟨q, fun h => ?_, hq⟩
      subst h; rw [hk, Option.some.injEq] at hq; rw [hq] at e; exact absurd rfl e
end Go.Proofs.Ythbajgpoldajmaa
