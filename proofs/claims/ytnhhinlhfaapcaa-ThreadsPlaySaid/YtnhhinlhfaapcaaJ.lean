/- Threads: what a table in memory becomes where a scope is closed. -/
import Derived.Test.YtnhhinlhfaapcaaF
namespace Go.Proofs.Ytnhhinlhfaapcaa
open Go.RowKit
set_option linter.unusedVariables false
set_option linter.unusedSimpArgs false

/-- the innermost scope is closed -/
def closeT (t : Tab) (i : Nat) : Tab := setTh t i { t.th i with scopes := (t.th i).scopes.dropLast }
section
variable {W : World} {B g gl cl : Nat} {S : Nat → Value} {C : Nat → Nat → Value} {t : Tab}
theorem TabX.closed {i ln gs cs : Nat} (h : TabX W B g (.slice (some ⟨gl, 0, none⟩) t.n cl) S C t) (hi : i < t.n) (hd : dep t i = ln + 1) (hS : S i = .slice (some ⟨gs, 0, none⟩) (ln + 1) cs) :
    TabX (W.setCell ⟨gl, i * 4 + 3, none⟩ (.slice (some ⟨gs, 0, none⟩) ln ln)) B g (.slice (some ⟨gl, 0, none⟩) t.n cl) (updS S i (.slice (some ⟨gs, 0, none⟩) ln ln)) C (closeT t i) := by
  have hdi : dep (closeT t i) i = ln := by
    unfold dep at *
    unfold closeT
    rw [setTh_at]
    simp [hd]
  have hdn : ∀ k, k ≠ i → dep (closeT t i) k = dep t k := fun k hk => by unfold dep closeT; rw [setTh_ne hk]
  have hle : ∀ k, dep (closeT t i) k ≤ dep t k := fun k => by
    by_cases e : k = i
    · subst e; omega
    · rw [hdn k e]; exact Nat.le_refl _
  have hmem : ∀ k m, m < dep (closeT t i) k → mem (closeT t i) k m = mem t k m := by
    intro k m hm
    unfold mem closeT
    by_cases e : k = i
    · subst e
      rw [hdi] at hm
      rw [setTh_at]
      show (t.th k).scopes.dropLast.getD m [] = _
      rw [List.getD_eq_getElem?_getD, List.getD_eq_getElem?_getD, List.getElem?_dropLast, if_pos (by unfold dep at hd; omega)]
    · rw [setTh_ne e]
  have hg := gset W gl (i * 4 + 3) (.slice (some ⟨gs, 0, none⟩) ln ln)
  have hrow := h.os i hi
  rw [hS, hd] at hrow
  have hcut := hrow.cut (m := ln) (by omega)
  rw [← List.map_take, List.take_range, Nat.min_eq_left (by omega)] at hcut
  have hblk : ∀ k q, (updS S i (.slice (some ⟨gs, 0, none⟩) ln ln) k).ownBlock = some q → (S k).ownBlock = some q := by
    intro k q hq
    unfold updS at hq
    by_cases e : k = i
    · subst e; rw [if_pos rfl] at hq; rw [hS]; exact hq
    · rwa [if_neg e] at hq
  refine ⟨h.hB, h.hn, h.blk.far (fun e => h.tl.ne h.blk.ty (by decide) e.symm) _, ?_, fun k hk => ?_, fun k m hk hm => ?_, ?_, ?_⟩
  · refine h.store (t' := closeT t i) (S' := updS S i (.slice (some ⟨gs, 0, none⟩) ln ln)) (j := 3) hi (by omega) rfl (fun k hk => ?_)
    by_cases e : k = i
    · subst e; unfold closeT updS; rw [if_pos rfl, if_pos rfl, setTh_at]; rfl
    · unfold closeT updS; rw [if_neg e, if_neg e, setTh_ne e]
  · by_cases e : k = i
    · subst e
      rw [hdi, show updS S k (.slice (some ⟨gs, 0, none⟩) ln ln) k = .slice (some ⟨gs, 0, none⟩) ln ln from if_pos rfl]
      exact hcut.far hg (fun q hq => (hcut.ty hq).ne h.tl (by decide))
    · rw [hdn k e, show updS S i (.slice (some ⟨gs, 0, none⟩) ln ln) k = S k from if_neg e]
      exact (h.os k hk).far hg (fun q hq => ((h.os k hk).ty hq).ne h.tl (by decide))
  · rw [hmem k m hm]
    have hm' := Nat.lt_of_lt_of_le hm (hle k)
    exact own_far (h.oi k m hk hm') hg (fun q hq => (own_ty (h.oi k m hk hm') hq).ne h.tl (by decide))
  · intro a b q ha hb hqa hqb
    exact h.ds a b q ha hb (hblk a q hqa) (hblk b q hqb)
  · intro a k b m q ha hk hb hm hqa hqb
    exact h.di a k b m q ha (Nat.lt_of_lt_of_le hk (hle a)) hb (Nat.lt_of_lt_of_le hm (hle b)) hqa hqb
end
end Go.Proofs.Ytnhhinlhfaapcaa
