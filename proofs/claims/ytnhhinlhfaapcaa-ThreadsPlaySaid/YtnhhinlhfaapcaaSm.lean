/- Threads: the plain law: a table and the document's one, that the same calls have made, say the same. -/
import Derived.Test.YtnhhinlhfaapcaaRc
namespace Go.Proofs.Ytnhhinlhfaapcaa
open Go.RowKit
set_option linter.unusedVariables false
set_option linter.unusedSimpArgs false

/-- the document's Spawn -/
def rSpnBad (R : RTab) (n : Int) : Bool := (rat R n).ended || decide ((rat R n).opn.length = 0)
def rSpnT (R : RTab) (i : Nat) : RTab := ⟨R.n + 1, fun k => if k = R.n then ⟨i, rlast R i, false, false, 0, []⟩ else R.th k⟩
def rSpn (R : RTab) (n : Int) : RTab := if rSpnBad R n then R else if 16 ≤ R.n then R else rSpnT R n.toNat
def rSpnN (R : RTab) (n : Int) : Int := if rSpnBad R n then 0 else if 16 ≤ R.n then 0 else R.n
def rSpnE (R : RTab) (n : Int) : Int := if rSpnBad R n then 2 else if 16 ≤ R.n then 4 else 0
def rNewT : RTab := ⟨1, fun _ => ⟨-1, 0, false, false, 0, []⟩⟩

/-- the threads whose parent is i, and that are in its scope x -/
def rks (R : RTab) (i x n : Nat) : List Nat := (List.range n).filter fun m => decide ((R.th m).parent = (i : Int)) && decide ((R.th m).inn = x)
theorem rks_congr {R R' : RTab} {i x : Nat} : ∀ {n : Nat}, (∀ m, m < n → (R'.th m).parent = (R.th m).parent ∧ (R'.th m).inn = (R.th m).inn) → rks R' i x n = rks R i x n := by
  intro n h
  unfold rks
  apply List.filter_congr
  intro m hm
  obtain ⟨a, b⟩ := h m (List.mem_range.1 hm)
  rw [a, b]
theorem rks_nil {R : RTab} {i x n : Nat} (h : ∀ m, m < n → (R.th m).parent = (i : Int) → (R.th m).inn ≠ x) : rks R i x n = [] := by
  unfold rks
  rw [List.filter_eq_nil_iff]
  intro m hm
  by_cases e : (R.th m).parent = (i : Int)
  · simp [h m (List.mem_range.1 hm) e]
  · simp [e]
theorem rks_succ (R : RTab) (i x n : Nat) : rks R i x (n + 1) = rks R i x n ++ (if (R.th n).parent = (i : Int) ∧ (R.th n).inn = x then [n] else []) := by
  unfold rks
  rw [List.range_succ, List.filter_append]
  congr 1
  by_cases h : (R.th n).parent = (i : Int) ∧ (R.th n).inn = x
  · rw [if_pos h]; simp [h.1, h.2]
  · rw [if_neg h]
    simp [List.filter_cons]
    intro a b
    exact h ⟨a, b⟩

structure Sim (k : Nat) (t : Tab) (R : RTab) : Prop where
  n : t.n = R.n
  par : ∀ i, i < t.n → (t.th i).parent = (R.th i).parent
  fin : ∀ i, i < t.n → (t.th i).ended = (R.th i).ended
  pan : ∀ i, i < t.n → (t.th i).panicked = (R.th i).pan
  dp : ∀ i, i < t.n → (t.th i).scopes.length = (R.th i).opn.length
  ms : ∀ i q, i < t.n → q < (t.th i).scopes.length → mem t i q = rks R i ((R.th i).opn.getD q 0) t.n
  inc : ∀ i, i < t.n → (R.th i).opn.Pairwise (· < ·)
  le : ∀ i x, i < t.n → x ∈ (R.th i).opn → x ≤ (R.th i).opened
  inn : ∀ i m, i < t.n → m < t.n → (R.th m).parent = (i : Int) → (R.th m).inn ≤ (R.th i).opened
  opk : ∀ i, i < t.n → (R.th i).opened ≤ k
  plt : ∀ i, i < t.n → (R.th i).parent < (i : Int)
theorem Sim.up {k k' : Nat} {t : Tab} {R : RTab} (h : Sim k t R) (hk : k ≤ k') : Sim k' t R :=
  ⟨h.n, h.par, h.fin, h.pan, h.dp, h.ms, h.inc, h.le, h.inn, fun i hi => Nat.le_trans (h.opk i hi) hk, h.plt⟩
theorem sim_new : Sim 0 newT rNewT := by
  refine ⟨rfl, fun i _ => rfl, fun i _ => rfl, fun i _ => rfl, fun i _ => rfl, fun i q _ hq => ?_, fun i _ => List.Pairwise.nil, fun i x _ hx => ?_, fun i m _ _ hp => ?_, fun i _ => Nat.le_refl _, fun i _ => ?_⟩
  · exact absurd hq (Nat.not_lt_zero _)
  · cases hx
  · exact Nat.le_refl _
  · show (-1 : Int) < (i : Int)
    omega
theorem getD_snoc {L : List Nat} {q x : Nat} (h : q < L.length) : (L ++ [x]).getD q 0 = L.getD q 0 := by
  rw [List.getD_eq_getElem?_getD, List.getD_eq_getElem?_getD, List.getElem?_append_left h]
theorem getD_snoc_last {L : List Nat} {x : Nat} : (L ++ [x]).getD L.length 0 = x := by
  rw [List.getD_eq_getElem?_getD, List.getElem?_append_right (Nat.le_refl _)]
  simp
theorem getD_mem_ {L : List Nat} {q : Nat} (h : q < L.length) : L.getD q 0 ∈ L := by
  rw [List.getD_eq_getElem?_getD, List.getElem?_eq_getElem h]
  exact List.getElem_mem _
theorem rOpnR_at (R : RTab) (i j : Nat) : (rOpnR R i).th j = if j = i then { R.th i with opened := (R.th i).opened + 1, opn := (R.th i).opn ++ [(R.th i).opened + 1] } else R.th j := by
  unfold rOpnR
  rw [rset_at]
  split
  · rfl
  · rename_i h; rw [rset_at, if_neg h]
theorem rOpnR_keep (R : RTab) (i j : Nat) : ((rOpnR R i).th j).parent = (R.th j).parent ∧ ((rOpnR R i).th j).inn = (R.th j).inn ∧ ((rOpnR R i).th j).ended = (R.th j).ended ∧ ((rOpnR R i).th j).pan = (R.th j).pan := by
  rw [rOpnR_at]
  split
  · rename_i e; subst e; exact ⟨rfl, rfl, rfl, rfl⟩
  · exact ⟨rfl, rfl, rfl, rfl⟩
theorem openT_at (t : Tab) (i j : Nat) : (openT t i).th j = if j = i then { t.th i with scopes := (t.th i).scopes ++ [[]] } else t.th j := rfl
theorem Sim.o_ {k i : Nat} {t : Tab} {R : RTab} (h : Sim k t R) (hi : i < t.n) : Sim (k + 1) (openT t i) (rOpnR R i) := by
  have hk := rOpnR_keep R i
  refine ⟨h.n, fun j hj => ?_, fun j hj => ?_, fun j hj => ?_, fun j hj => ?_, fun j q hj hq => ?_, fun j hj => ?_, fun j x hj hx => ?_, fun j m hj hm hp => ?_, fun j hj => ?_, fun j hj => ?_⟩
  · rw [(hk j).1, openT_at]; split
    · rename_i e; subst e; exact h.par j hj
    · exact h.par j hj
  · rw [(hk j).2.2.1, openT_at]; split
    · rename_i e; subst e; exact h.fin j hj
    · exact h.fin j hj
  · rw [(hk j).2.2.2, openT_at]; split
    · rename_i e; subst e; exact h.pan j hj
    · exact h.pan j hj
  · rw [openT_at, rOpnR_at]
    split
    · rename_i e; subst e
      show ((t.th j).scopes ++ [[]]).length = ((R.th j).opn ++ [(R.th j).opened + 1]).length
      rw [List.length_append, List.length_append, h.dp j hj]; rfl
    · exact h.dp j hj
  · rw [rks_congr (R := R) (fun m _ => ⟨(hk m).1, (hk m).2.1⟩), rOpnR_at]
    rw [openT_at] at hq
    by_cases e : j = i
    · subst e
      rw [if_pos rfl] at hq ⊢
      have hq' : q < (t.th j).scopes.length + 1 := by simpa using hq
      have e1 : mem (openT t j) j q = ((t.th j).scopes ++ [[]]).getD q [] := by unfold mem; rw [openT_at, if_pos rfl]
      rw [e1]
      show _ = rks R j (((R.th j).opn ++ [(R.th j).opened + 1]).getD q 0) t.n
      by_cases hq2 : q < (t.th j).scopes.length
      · rw [getD_snoc (by rw [← h.dp j hj]; exact hq2), ← h.ms j q hj hq2]
        unfold mem
        rw [List.getD_eq_getElem?_getD, List.getD_eq_getElem?_getD, List.getElem?_append_left hq2]
      · obtain rfl : q = (t.th j).scopes.length := by omega
        rw [List.getD_eq_getElem?_getD, List.getElem?_append_right (Nat.le_refl _), h.dp j hj, getD_snoc_last]
        simp
        rw [rks_nil]
        intro m hm hp
        have := h.inn j m hj hm hp
        omega
    · rw [if_neg e] at hq ⊢
      show _ = rks R j ((R.th j).opn.getD q 0) t.n
      rw [← h.ms j q hj hq]
      unfold mem
      rw [openT_at, if_neg e]
  · rw [rOpnR_at]
    split
    · rename_i e; subst e
      show ((R.th j).opn ++ [(R.th j).opened + 1]).Pairwise (· < ·)
      rw [List.pairwise_append]
      refine ⟨h.inc j hj, by simp, fun a ha b hb => ?_⟩
      simp at hb
      have := h.le j a hj ha
      omega
    · exact h.inc j hj
  · rw [rOpnR_at] at hx ⊢
    split at hx
    · rename_i e; subst e
      rw [if_pos rfl]
      show x ≤ (R.th j).opened + 1
      rcases List.mem_append.1 hx with hx | hx
      · have := h.le j x hj hx; omega
      · simp at hx; omega
    · rename_i e
      rw [if_neg e]
      exact h.le j x hj hx
  · rw [(hk m).1] at hp
    rw [(hk m).2.1, rOpnR_at]
    have := h.inn j m hj hm hp
    split
    · rename_i e; subst e
      show _ ≤ (R.th j).opened + 1
      omega
    · exact this
  · rw [rOpnR_at]
    have := h.opk j hj
    split
    · rename_i e; subst e
      show (R.th j).opened + 1 ≤ k + 1
      omega
    · omega
  · rw [(hk j).1]; exact h.plt j hj
theorem rendR_at (R : RTab) (i j : Nat) (p : Bool) : (rendR R i p).th j = if j = i then { R.th i with ended := true, pan := p } else R.th j := by
  unfold rendR
  rw [rset_at]
  split
  · rfl
  · rename_i h; rw [rset_at, if_neg h]
theorem endT_at (t : Tab) (i j : Nat) (p : Bool) : (endT t i p).th j = if j = i then { t.th i with ended := true, panicked := p } else t.th j := rfl
theorem Sim.e_ {k i : Nat} {t : Tab} {R : RTab} (p : Bool) (h : Sim k t R) (hi : i < t.n) : Sim k (endT t i p) (rendR R i p) := by
  have hk : ∀ j, ((rendR R i p).th j).parent = (R.th j).parent ∧ ((rendR R i p).th j).inn = (R.th j).inn ∧ ((rendR R i p).th j).opened = (R.th j).opened ∧ ((rendR R i p).th j).opn = (R.th j).opn := by
    intro j
    rw [rendR_at]
    split
    · rename_i e; subst e; exact ⟨rfl, rfl, rfl, rfl⟩
    · exact ⟨rfl, rfl, rfl, rfl⟩
  have ht : ∀ j, ((endT t i p).th j).parent = (t.th j).parent ∧ ((endT t i p).th j).scopes = (t.th j).scopes := by
    intro j
    rw [endT_at]
    split
    · rename_i e; subst e; exact ⟨rfl, rfl⟩
    · exact ⟨rfl, rfl⟩
  refine ⟨h.n, fun j hj => ?_, fun j hj => ?_, fun j hj => ?_, fun j hj => ?_, fun j q hj hq => ?_, fun j hj => ?_, fun j x hj hx => ?_, fun j m hj hm hp => ?_, fun j hj => ?_, fun j hj => ?_⟩
  · rw [(hk j).1, (ht j).1]; exact h.par j hj
  · rw [rendR_at, endT_at]; split
    · rfl
    · exact h.fin j hj
  · rw [rendR_at, endT_at]; split
    · rfl
    · exact h.pan j hj
  · rw [(ht j).2, (hk j).2.2.2]; exact h.dp j hj
  · rw [(ht j).2] at hq
    rw [rks_congr (R := R) (fun m _ => ⟨(hk m).1, (hk m).2.1⟩), (hk j).2.2.2]
    have := h.ms j q hj hq
    unfold mem at this ⊢
    rw [(ht j).2]
    exact this
  · rw [(hk j).2.2.2]; exact h.inc j hj
  · rw [(hk j).2.2.2] at hx; rw [(hk j).2.2.1]; exact h.le j x hj hx
  · rw [(hk m).1] at hp; rw [(hk m).2.1, (hk j).2.2.1]; exact h.inn j m hj hm hp
  · rw [(hk j).2.2.1]; exact h.opk j hj
  · rw [(hk j).1]; exact h.plt j hj
theorem closeT_at (t : Tab) (i j : Nat) : (closeT t i).th j = if j = i then { t.th i with scopes := (t.th i).scopes.dropLast } else t.th j := rfl
theorem Sim.c_ {k i : Nat} {t : Tab} {R : RTab} (h : Sim k t R) (hi : i < t.n) : Sim k (closeT t i) (rset R i { R.th i with opn := (R.th i).opn.dropLast }) := by
  have hk : ∀ j, ((rset R i { R.th i with opn := (R.th i).opn.dropLast }).th j).parent = (R.th j).parent ∧ ((rset R i { R.th i with opn := (R.th i).opn.dropLast }).th j).inn = (R.th j).inn ∧ ((rset R i { R.th i with opn := (R.th i).opn.dropLast }).th j).opened = (R.th j).opened ∧ ((rset R i { R.th i with opn := (R.th i).opn.dropLast }).th j).ended = (R.th j).ended ∧ ((rset R i { R.th i with opn := (R.th i).opn.dropLast }).th j).pan = (R.th j).pan := by
    intro j
    rw [rset_at]
    split
    · rename_i e; subst e; exact ⟨rfl, rfl, rfl, rfl, rfl⟩
    · exact ⟨rfl, rfl, rfl, rfl, rfl⟩
  have ht : ∀ j, ((closeT t i).th j).parent = (t.th j).parent ∧ ((closeT t i).th j).ended = (t.th j).ended ∧ ((closeT t i).th j).panicked = (t.th j).panicked := by
    intro j
    rw [closeT_at]
    split
    · rename_i e; subst e; exact ⟨rfl, rfl, rfl⟩
    · exact ⟨rfl, rfl, rfl⟩
  refine ⟨h.n, fun j hj => ?_, fun j hj => ?_, fun j hj => ?_, fun j hj => ?_, fun j q hj hq => ?_, fun j hj => ?_, fun j x hj hx => ?_, fun j m hj hm hp => ?_, fun j hj => ?_, fun j hj => ?_⟩
  · rw [(hk j).1, (ht j).1]; exact h.par j hj
  · rw [(hk j).2.2.2.1, (ht j).2.1]; exact h.fin j hj
  · rw [(hk j).2.2.2.2, (ht j).2.2]; exact h.pan j hj
  · rw [closeT_at, rset_at]
    split
    · rename_i e; subst e
      show (t.th j).scopes.dropLast.length = (R.th j).opn.dropLast.length
      rw [List.length_dropLast, List.length_dropLast, h.dp j hj]
    · exact h.dp j hj
  · rw [rks_congr (R := R) (fun m _ => ⟨(hk m).1, (hk m).2.1⟩), rset_at]
    rw [closeT_at] at hq
    unfold mem
    rw [closeT_at]
    split at hq
    · rename_i e; subst e
      have hq' : q < (t.th j).scopes.length - 1 := by simpa using hq
      rw [if_pos rfl, if_pos rfl]
      show (t.th j).scopes.dropLast.getD q [] = rks R j ((R.th j).opn.dropLast.getD q 0) t.n
      have := h.ms j q hj (by omega)
      unfold mem at this
      rw [List.getD_eq_getElem?_getD] at this ⊢
      rw [List.getElem?_dropLast, if_pos hq', this]
      rw [List.getD_eq_getElem?_getD, List.getD_eq_getElem?_getD, List.getElem?_dropLast, if_pos (by rw [← h.dp j hj]; exact hq')]
    · rename_i e
      rw [if_neg e, if_neg e]
      exact h.ms j q hj hq
  · rw [rset_at]
    split
    · rename_i e; subst e
      exact (h.inc j hj).sublist (List.dropLast_sublist _)
    · exact h.inc j hj
  · rw [(hk j).2.2.1]
    rw [rset_at] at hx
    split at hx
    · rename_i e; subst e
      exact h.le j x hj ((List.dropLast_sublist _).subset hx)
    · exact h.le j x hj hx
  · rw [(hk m).1] at hp; rw [(hk m).2.1, (hk j).2.2.1]; exact h.inn j m hj hm hp
  · rw [(hk j).2.2.1]; exact h.opk j hj
  · rw [(hk j).1]; exact h.plt j hj
theorem rSpnT_at (R : RTab) (i j : Nat) : (rSpnT R i).th j = if j = R.n then ⟨i, rlast R i, false, false, 0, []⟩ else R.th j := rfl
theorem rlast_in {R : RTab} {i : Nat} (hi : i < R.n) : rlast R i = (R.th i).opn.getD ((R.th i).opn.length - 1) 0 := by
  unfold rlast
  rw [rat_in hi, List.getLastD_eq_getLast?, List.getLast?_eq_getElem?, List.getD_eq_getElem?_getD]
theorem inc_ne {L : List Nat} (h : L.Pairwise (· < ·)) {a b : Nat} (ha : a < L.length) (hb : b < L.length) (hne : a ≠ b) : L.getD a 0 ≠ L.getD b 0 := by
  rw [List.getD_eq_getElem?_getD, List.getElem?_eq_getElem ha, List.getD_eq_getElem?_getD, List.getElem?_eq_getElem hb]
  show L[a] ≠ L[b]
  rw [List.pairwise_iff_getElem] at h
  rcases Nat.lt_or_ge a b with hl | hl
  · have := h a b ha hb hl; omega
  · have := h b a hb ha (by omega); omega
theorem Sim.s_ {k i : Nat} {t : Tab} {R : RTab} (h : Sim k t R) (hi : i < t.n) (hd : 0 < (t.th i).scopes.length) : Sim k (spawnT t i) (rSpnT R i) := by
  have hN : (spawnT t i).n = t.n + 1 := rfl
  have hn := h.n
  have hko : ∀ j, j < t.n → (rSpnT R i).th j = R.th j := fun j hj => by rw [rSpnT_at, if_neg (by omega)]
  have hkn : (rSpnT R i).th t.n = ⟨i, rlast R i, false, false, 0, []⟩ := by rw [rSpnT_at, if_pos hn]
  have htn : (spawnT t i).th t.n = ⟨i, false, false, []⟩ := by rw [spawnT_at, if_pos rfl]
  have hto : ∀ j, j < t.n → ((spawnT t i).th j).parent = (t.th j).parent ∧ ((spawnT t i).th j).ended = (t.th j).ended ∧ ((spawnT t i).th j).panicked = (t.th j).panicked ∧ ((spawnT t i).th j).scopes.length = (t.th j).scopes.length := by
    intro j hj
    rw [spawnT_at, if_neg (by omega)]
    split
    · rename_i e; subst e; exact ⟨rfl, rfl, rfl, by show (pushS _ _).length = _; unfold pushS; rw [List.length_set]⟩
    · exact ⟨rfl, rfl, rfl, rfl⟩
  have hc : ∀ j, j < t.n + 1 → j < t.n ∨ j = t.n := fun j hj => by omega
  refine ⟨by show t.n + 1 = R.n + 1; omega, fun j hj => ?_, fun j hj => ?_, fun j hj => ?_, fun j hj => ?_, fun j q hj hq => ?_, fun j hj => ?_, fun j x hj hx => ?_, fun j m hj hm hp => ?_, fun j hj => ?_, fun j hj => ?_⟩
  · rw [hN] at hj
    rcases hc j hj with hj | rfl
    · rw [hko j hj, (hto j hj).1]; exact h.par j hj
    · rw [hkn, htn]
  · rw [hN] at hj
    rcases hc j hj with hj | rfl
    · rw [hko j hj, (hto j hj).2.1]; exact h.fin j hj
    · rw [hkn, htn]
  · rw [hN] at hj
    rcases hc j hj with hj | rfl
    · rw [hko j hj, (hto j hj).2.2.1]; exact h.pan j hj
    · rw [hkn, htn]
  · rw [hN] at hj
    rcases hc j hj with hj | rfl
    · rw [hko j hj, (hto j hj).2.2.2]; exact h.dp j hj
    · rw [hkn, htn]; rfl
  · rw [hN] at hj ⊢
    rcases hc j hj with hj | rfl
    · rw [(hto j hj).2.2.2] at hq
      rw [hko j hj, rks_succ, rks_congr (R := R) (fun m hm => by rw [hko m hm]; exact ⟨rfl, rfl⟩), hkn]
      have hm := h.ms j q hj hq
      unfold mem at hm ⊢
      rw [spawnT_at, if_neg (by omega)]
      by_cases e : j = i
      · subst e
        rw [if_pos rfl]
        show (pushS (t.th j).scopes t.n).getD q [] = _
        have hdep := h.dp j hj
        unfold pushS
        rw [List.getD_eq_getElem?_getD, List.getElem?_set]
        by_cases e2 : (t.th j).scopes.length - 1 = q
        · rw [if_pos e2, if_pos (by omega), e2, hm]
          rw [if_pos ⟨rfl, by show rlast R j = _; rw [rlast_in (by omega), ← hdep, e2]⟩]
          rfl
        · rw [if_neg e2]
          rw [List.getD_eq_getElem?_getD] at hm
          rw [hm, if_neg]
          · simp
          · rintro ⟨_, h2⟩
            have h3 : rlast R j = (R.th j).opn.getD q 0 := h2
            rw [rlast_in (by omega)] at h3
            exact inc_ne (h.inc j hj) (by omega) (by omega) (by omega) h3
      · rw [if_neg e, hm, if_neg]
        · simp
        · rintro ⟨h1, _⟩
          have : (i : Int) = (j : Int) := h1
          omega
    · rw [htn] at hq
      exact absurd hq (Nat.not_lt_zero _)
  · rw [hN] at hj
    rcases hc j hj with hj | rfl
    · rw [hko j hj]; exact h.inc j hj
    · rw [hkn]; exact List.Pairwise.nil
  · rw [hN] at hj
    rcases hc j hj with hj | rfl
    · rw [hko j hj] at hx ⊢; exact h.le j x hj hx
    · rw [hkn] at hx; cases hx
  · rw [hN] at hj hm
    rcases hc m hm with hm | rfl
    · rw [hko m hm] at hp ⊢
      rcases hc j hj with hj | rfl
      · rw [hko j hj]; exact h.inn j m hj hm hp
      · have := h.plt m hm
        omega
    · rw [hkn] at hp ⊢
      have hp' : (i : Int) = (j : Int) := hp
      obtain rfl : i = j := by omega
      rw [hko i hi]
      show rlast R i ≤ _
      rw [rlast_in (by omega)]
      exact h.le i _ hi (getD_mem_ (by have := h.dp i hi; omega))
  · rw [hN] at hj
    rcases hc j hj with hj | rfl
    · rw [hko j hj]; exact h.opk j hj
    · rw [hkn]; exact Nat.zero_le _
  · rw [hN] at hj
    rcases hc j hj with hj | rfl
    · rw [hko j hj]; exact h.plt j hj
    · rw [hkn]
      show (i : Int) < (t.n : Int)
      omega
/-! ### what both say -/
theorem Sim.cases_ {k : Nat} {t : Tab} {R : RTab} (h : Sim k t R) (n : Int) : (hasB t n = false ∧ at_ t n = noTh ∧ rhas R n = false ∧ rat R n = rnoTh) ∨ ∃ i : Nat, n = (i : Int) ∧ i < t.n ∧ i < R.n ∧ at_ t n = t.th i ∧ rat R n = R.th i ∧ hasB t n = true ∧ rhas R n = true := by
  have hn := h.n
  rcases has_cases t n with h0 | ⟨i, rfl, hi⟩
  · refine .inl ⟨h0, by unfold at_; rw [h0]; rfl, ?_⟩
    have : rhas R n = false := by
      unfold rhas
      unfold hasB at h0
      rw [← hn]; exact h0
    exact ⟨this, by unfold rat; rw [this]; rfl⟩
  · exact .inr ⟨i, rfl, hi, by omega, at_in hi, rat_in (by omega), has_in hi, rhas_in (by omega)⟩
theorem Sim.runs {k : Nat} {t : Tab} {R : RTab} (h : Sim k t R) (n : Int) : (hasB t n && !(at_ t n).ended) = !(rat R n).ended := by
  rcases h.cases_ n with ⟨a, b, c, d⟩ | ⟨i, rfl, hi, hi2, b, d, a, c⟩
  · rw [a, d]; rfl
  · rw [a, b, d, h.fin i hi]; rfl
theorem Sim.depth {k : Nat} {t : Tab} {R : RTab} (h : Sim k t R) (n : Int) : (at_ t n).scopes.length = (rat R n).opn.length := by
  rcases h.cases_ n with ⟨a, b, c, d⟩ | ⟨i, rfl, hi, hi2, b, d, a, c⟩
  · rw [b, d]; rfl
  · rw [b, d, h.dp i hi]
theorem Sim.ref0 {k : Nat} {t : Tab} {R : RTab} (h : Sim k t R) (n : Int) : refB t n 0 = (rat R n).ended := by
  have h1 := h.runs n
  unfold refB
  rw [decide_eq_false (by omega), Bool.or_false]
  revert h1
  cases hasB t n <;> cases (at_ t n).ended <;> cases (rat R n).ended <;> simp
theorem Sim.ref1 {k : Nat} {t : Tab} {R : RTab} (h : Sim k t R) (n : Int) : refB t n 1 = rSpnBad R n := by
  have h1 := h.runs n
  have h2 := h.depth n
  unfold refB rSpnBad
  rw [show decide (((at_ t n).scopes.length : Int) < 1) = decide ((rat R n).opn.length = 0) by rw [h2]; apply decide_eq_decide.2; omega]
  revert h1
  cases hasB t n <;> cases (at_ t n).ended <;> cases (rat R n).ended <;> simp
theorem Sim.bad {k : Nat} {t : Tab} {R : RTab} (h : Sim k t R) (n : Int) : endBad t n = rEndBad R n := by
  unfold endBad rEndBad
  rw [h.ref0, h.depth]
theorem Sim.members {k : Nat} {t : Tab} {R : RTab} (h : Sim k t R) (n : Int) : memL t n = rMem R n := by
  have hn := h.n
  rcases h.cases_ n with ⟨a, b, c, d⟩ | ⟨i, rfl, hi, hi2, b, d, a, c⟩
  · rw [memL_no a]; unfold rMem; rw [d]; rfl
  · have hdep := h.dp i hi
    by_cases hz : dep t i = 0
    · rw [memL_zero hz]
      unfold rMem
      rw [d, if_pos (by unfold dep at hz; omega)]
    · obtain ⟨ln, hln⟩ : ∃ m, dep t i = m + 1 := ⟨dep t i - 1, by omega⟩
      have hln' : (t.th i).scopes.length = ln + 1 := hln
      rw [memL_in hi hln, h.ms i ln hi (by omega)]
      unfold rMem
      rw [d, if_neg (by omega)]
      unfold rks rmk
      rw [← hn]
      apply List.filter_congr
      intro m _
      unfold rin
      rw [rlast_in hi2, ← hdep, hln', Nat.add_sub_cancel]
theorem rMem_lt' {R : RTab} {n : Int} {m : Nat} (h : m ∈ rMem R n) : m < R.n := rMem_lt h
theorem any_eq {L : List Nat} {f g : Nat → Bool} (h : ∀ m, m ∈ L → f m = g m) : L.any f = L.any g := by
  induction L with
  | nil => rfl
  | cons a L ih =>
    rw [List.any_cons, List.any_cons, h a List.mem_cons_self, ih (fun m hm => h m (List.mem_cons_of_mem _ hm))]
theorem Sim.waits {k : Nat} {t : Tab} {R : RTab} (h : Sim k t R) (n : Int) : waitsB t n = rWaits R n := by
  unfold waitsB rWaits
  rw [h.members]
  exact any_eq fun m hm => by rw [h.fin m (by rw [h.n]; exact rMem_lt' hm)]
theorem Sim.panics {k : Nat} {t : Tab} {R : RTab} (h : Sim k t R) (n : Int) : panB t n = (rMem R n).any fun m => (R.th m).pan := by
  unfold panB
  rw [h.members]
  exact any_eq fun m hm => by rw [h.pan m (by rw [h.n]; exact rMem_lt' hm)]
theorem Sim.cbad {k : Nat} {t : Tab} {R : RTab} (h : Sim k t R) (n : Int) : rClsBad R n = (refB t n 1 || waitsB t n) := by
  unfold rClsBad
  rw [h.ref1, h.waits]
  rfl
theorem Sim.clsE_ {k : Nat} {t : Tab} {R : RTab} (h : Sim k t R) (n : Int) : clsE t n = if rClsBad R n then 2 else 0 := by
  rw [h.cbad]
  unfold Go.Proofs.Ytnhhinlhfaapcaa.clsE
  cases refB t n 1 <;> cases waitsB t n <;> rfl
theorem Sim.clsP_ {k : Nat} {t : Tab} {R : RTab} (h : Sim k t R) (n : Int) : clsP t n = rClsP R n := by
  unfold rClsP
  rw [h.cbad, ← h.panics]
  unfold Go.Proofs.Ytnhhinlhfaapcaa.clsP
  cases refB t n 1 <;> cases waitsB t n <;> rfl
theorem Sim.spnN_ {k : Nat} {t : Tab} {R : RTab} (h : Sim k t R) (n : Int) : spnN t n = rSpnN R n := by
  unfold Go.Proofs.Ytnhhinlhfaapcaa.spnN rSpnN
  rw [h.ref1, h.n]
theorem Sim.spnE_ {k : Nat} {t : Tab} {R : RTab} (h : Sim k t R) (n : Int) : spnE t n = rSpnE R n := by
  unfold Go.Proofs.Ytnhhinlhfaapcaa.spnE rSpnE
  rw [h.ref1, h.n]
/-! ### what both become -/
theorem Sim.opn {k : Nat} {t : Tab} {R : RTab} (h : Sim k t R) (n : Int) : Sim (k + 1) (opnF t n) (rOpn R n) := by
  unfold opnF rOpn
  rw [← h.ref0]
  cases hr : refB t n 0
  · obtain ⟨i, rfl, hi, _, _⟩ := refB_no hr
    exact h.o_ hi
  · exact h.up (by omega)
theorem Sim.spn {k : Nat} {t : Tab} {R : RTab} (h : Sim k t R) (n : Int) : Sim k (spnF t n) (rSpn R n) := by
  unfold spnF rSpn
  rw [← h.ref1, ← h.n]
  cases hr : refB t n 1
  · obtain ⟨i, rfl, hi, _, hd⟩ := refB_no hr
    by_cases h16 : 16 ≤ t.n
    · rw [if_neg (by simp), if_pos h16, if_neg (by simp), if_pos h16]; exact h
    · rw [if_neg (by simp), if_neg h16, if_neg (by simp), if_neg h16]
      rw [Int.toNat_natCast]
      exact h.s_ hi (by unfold dep at hd; omega)
  · exact h
theorem Sim.end_ {k : Nat} {t : Tab} {R : RTab} (h : Sim k t R) (n : Int) (p : Bool) : Sim k (endF t n p) (rEnd R n p) := by
  unfold endF rEnd
  rw [← h.bad]
  cases hr : endBad t n
  · obtain ⟨i, rfl, hi, _, _⟩ := endBad_no hr
    exact h.e_ p hi
  · exact h
theorem Sim.cls {k : Nat} {t : Tab} {R : RTab} (h : Sim k t R) (n : Int) : Sim k (clsF t n) (rCls R n) := by
  unfold clsF rCls
  rw [h.cbad]
  cases hr : refB t n 1
  · obtain ⟨i, rfl, hi, _, _⟩ := refB_no hr
    cases hw : waitsB t i
    · exact h.c_ hi
    · exact h
  · exact h
def ractF (R : RTab) (a : Ac) : RTab := if a.kind.tmod 4 = 0 then rOpn R a.n else if a.kind.tmod 4 = 1 then rSpn R a.n else if a.kind.tmod 4 = 2 then rEnd R a.n a.pan else rCls R a.n
theorem Sim.act {k : Nat} {t : Tab} {R : RTab} (h : Sim k t R) (a : Ac) : Sim (k + 1) (actF t a) (ractF R a) := by
  unfold actF ractF
  split
  · exact h.opn a.n
  split
  · exact (h.spn a.n).up (by omega)
  split
  · exact (h.end_ a.n a.pan).up (by omega)
  · exact (h.cls a.n).up (by omega)
theorem Sim.small {k : Nat} {t : Tab} {R : RTab} (h : Sim k t R) (ht : Tok k t) (hk : k ≤ 1000) : R.n ≤ 16 ∧ ∀ i, i < R.n → (R.th i).opn.length ≤ 1000 ∧ (R.th i).opened ≤ 1000 := by
  have hn := h.n
  refine ⟨by have := ht.n16; omega, fun i hi => ?_⟩
  have h1 := h.dp i (by omega)
  have h2 := ht.dk i (by omega)
  have h3 := h.opk i (by omega)
  omega
end Go.Proofs.Ytnhhinlhfaapcaa
