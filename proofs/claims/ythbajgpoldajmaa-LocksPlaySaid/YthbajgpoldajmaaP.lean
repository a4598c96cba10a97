/- Locks: the contract of one: an act on both. -/
import Derived.Test.YthbajgpoldajmaaRefD
import Derived.Test.YthbajgpoldajmaaApartW
namespace Go.Proofs.Ythbajgpoldajmaa
open Go.ChangeShapes Go.WideShapes Go.RowKit
set_option linter.unusedVariables false
set_option linter.unusedSimpArgs false

theorem RL.lt {w : World} {B gr : Nat} {M : List Mu} (h : RL w B gr M) : gr < w.heap.size := by obtain ⟨_, v, hb, _⟩ := h; exact hb.lt
theorem RL.grown {w w' : World} {B gr gm : Nat} {M : List Mu} (h : RL w B gr M) (hg : w.grownBy w' (some gm)) (hm : gm < B) : RL w' B gr M := by
  obtain ⟨hB, v, hb, hown⟩ := h
  refine ⟨hB, v, hb.grown hg (by simp; omega), hown.kept hg (.inr ?_)⟩
  intro e
  have := (hown.lt gm e).1
  omega
theorem RL.below {w w' : World} {B gr : Nat} {M : List Mu} (h : RL w B gr M) (hb : Below w.heap.size w w') : RL w' B gr M := by
  obtain ⟨hB, v, hbk, hown⟩ := h
  refine ⟨hB, v, hbk.below hb hbk.lt, hown.kept (grown_of_below hb none) ?_⟩
  cases e : v.ownBlock with
  | none => exact .inl rfl
  | some g => exact .inr (by simp)
theorem RL.alloc {w : World} {B gr : Nat} {M : List Mu} (h : RL w B gr M) (o : Obj) : RL (w.alloc o) B gr M := h.below ((Below.refl _ w).alloc (Nat.le_refl _) o)
theorem LIs.low {w w' : World} {B gc gm N : Nat} {S : LS} (h : LIs w gc gm N S) (hb : Below B w w') (h1 : gc < B) (h2 : gm < B) : LIs w' gc gm N S := h.kept (hb.block gc h1) (hb.block gm h2)
/-- both: the program's locks S, the document's list M -/
structure Both (w : World) (gc gm gr B N : Nat) (S : LS) (M : List Mu) : Prop where
  l : LIs w gc gm N S
  r : RL w B gr M
  u : Uniq M
  e : lookM M = S
  n : M.length ≤ N
  c1 : gc < B
  c2 : gm < B
end Go.Proofs.Ythbajgpoldajmaa
