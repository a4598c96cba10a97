/- Race: a loop over an iterator whose own steps write the caller's memory, and that is left at the first thing that it hands over. A plain law of the model; no statement of the seat is proved here. -/
import Derived.RangeFuncNested
import Derived.RangeFuncBound
import Derived.RangeFuncCalls
import Derived.RangeFuncLeaves
import Derived.RangeFuncBox
import Derived.Shelf.Abstract
import Derived.Shelf.RegionOpen
import Derived.OwnWalkIn
import Derived.TacticsInMore
import Derived.LoopNIn
import Derived.LoopIn
import Derived.Stop.RegionWithIn
import Derived.Sort.AtCallIn
import Derived.Test.YtpcjcmbhoglnfaaC
namespace Go.Proofs.Ytpcjcmbhoglnfaa
open Go.RowKit Go.Shelf
set_option linter.unusedVariables false

/-- the block is none of cells -/
def Odd (W : World) (l : Nat) : Prop := ∃ o : Obj, W.heap[l]? = some o ∧ o.isCells = false
theorem put_grown (W : World) (l : Nat) (o : Obj) : W.grownBy (W.putObj l o) (some l) := grownBy_putObj' W l o

theorem rangeFirst {α : Type} {F : Fence} {n : Nat} {P : Program} {g : Operand} {ps : Array Tmp} {assign body : Code} {Q : Exit → Act → World → Prop} {a : Act} {w : World}
    (hro : F.round = none) (h1 : 1 ≤ n) {gf : Nat} {lb : Array Value} (hg : a.eval g = .func (.func gf) #[] lb) (hFg : F.fn gf) (eg : ∀ args w, (callFunc gf args).run P w = .ok (.enter gf args) w)
    {encs : α → Array Value} (hps : ∀ x, (encs x).size = ps.size) (X : World → α → World → Prop) (Dn : World → World → Prop) (Ix : World → Prop)
    (hseq : ∀ (l : Nat) (W1 : World) (S : World → Prop), Below w.heap.size w W1 → (∀ x W, KeepsOthers W1 W → X W1 x W → YieldAt F (n - 1 - 1) P l (encs x) W fun e W' => e = .returned (.bool false) ∧ S W') →
      CallsIn F (n - 1) P gf (#[.func (.yield l) #[] #[]] ++ lb) W1 fun e W' => (∃ v, e = .returned v) ∧ ((KeepsOthers W1 W' ∧ Dn W1 W') ∨ S W'))
    (a₁ : α → Act)
    (hassign : ∀ (l : Nat) (x : α) (W : World) (K : Act → World → Prop), K (a₁ x) W →
      assign.wpIn (F.inRound l) (n - 1 - 1) P (Exit.then K (fun _ _ _ => False)) { tmps := (ps.zip (encs x)).foldl (fun t (p, v) => t.setIfInBounds p v) a.tmps, defers := [] } W)
    (hbody : ∀ (l : Nat) (x : α) (W1 W W2 : World), Below w.heap.size w W1 → KeepsOthers W1 W → X W1 x W → W.grownBy W2 (some l) → w.heap.size ≤ l → Odd W l → body.wpIn (F.inRound l) (n - 1 - 1) P (fun e _ W' => e = .ret ∧ KeepsOthers W2 W' ∧ Ix W') (a₁ x) W2)
    (hIx : ∀ (W W' : World) (l : Nat), Ix W → W.grownBy W' (some l) → w.heap.size ≤ l → Odd W l → Ix W')
    (hdone : ∀ (D l : Nat) (W1 W W2 : World), Below w.heap.size w W1 → KeepsOthers W1 W → Dn W1 W → W.grownBy W2 (some l) → w.heap.size ≤ l → Odd W l → w.heap.size ≤ D → W2.heap[D]? = some (.deferred (some [])) → Q .normal { a with defers := { target := .collected D, args := #[] } :: a.defers } W2)
    (hstop : ∀ (D : Nat) (W : World), w.heap.size ≤ D → Ix W → W.heap[D]? = some (.deferred (some [])) → Code.ret.wpIn F n P Q { a with defers := { target := .collected D, args := #[] } :: a.defers } W) :
    (Code.rangeFunc g ps assign body).wpIn F n P Q a w := by
  refine wpIn_rangeFunc fun fn hfn => ?_
  rw [hro]
  obtain ⟨R, hR⟩ : ∃ R : LoopState → Option Code → Loop, R = fun s p => { state := s, pending := p, fn := fn, tmps := a.tmps, params := ps, assign := assign, body := body, defers := w.heap.size } := ⟨_, rfl⟩
  obtain ⟨W1, e1⟩ : ∃ W1, W1 = (w.alloc (.deferred (some []))).alloc (.loop (R .ready none)) := ⟨_, rfl⟩
  have b1 : Below w.heap.size w W1 := by rw [e1]; exact ((Below.refl _ w).alloc (Nat.le_refl _) _).alloc (by simp) _
  have l1 : W1.heap[w.heap.size + 1]? = some (.loop (R .ready none)) := by
    have := World.alloc_heap_new (w.alloc (.deferred (some []))) (.loop (R .ready none))
    rw [World.size_alloc] at this
    rw [e1]; exact this
  have d1 : W1.heap[w.heap.size]? = some (.deferred (some [])) := by
    rw [e1]; exact (Below.heap_alloc _ _ _ (by simp)).trans (World.alloc_heap_new w _)
  refine ⟨w.heap.size + 1, [{ target := .collected w.heap.size, args := #[] }], W1, { target := .fn (.func gf) lb, args := #[.func (.yield (w.heap.size + 1)) #[] #[]] }, W1, gf, #[.func (.yield (w.heap.size + 1)) #[] #[]] ++ lb, W1, ?_, ?_, ?_, ?_, fun _ => h1, ?_⟩
  · rw [e1, hR]; exact run_enterLoop_outer _ _ _ _ _
  · simp only [resolve, hg]; simp [go_sem]
  · intro f hf; simp [Target.leads] at hf; subst hf; exact hFg
  · simp [invoke, go_sem, eg]
  have odd : ∀ {W : World} {s : LoopState} {p : Option Code}, W.heap[w.heap.size + 1]? = some (.loop (R s p)) → Odd W (w.heap.size + 1) := fun h => ⟨_, h, rfl⟩
  refine (hseq (w.heap.size + 1) W1 (fun W' => Ix W' ∧ W'.heap[w.heap.size + 1]? = some (.loop (R .done (some .ret))) ∧ W'.heap[w.heap.size]? = some (.deferred (some []))) b1 ?_).mono ?_
  · intro x W hk hx
    have hl : W.heap[w.heap.size + 1]? = some (.loop (R .ready none)) := hk.same _ _ l1 rfl
    have hd : W.heap[w.heap.size]? = some (.deferred (some [])) := hk.same _ _ d1 rfl
    have hlt : w.heap.size + 1 < W.heap.size := (Array.getElem?_eq_some_iff.1 hl).1
    have hy := run_yield (P := P) (args := encs x) hl (by rw [hR]; exact hps x)
    rw [hR] at hy
    refine ⟨fn, _, assign, body, hy, roundIn_of_wpIn hfn (hassign _ x W _ ⟨_, run_beginRound hl (by rw [hR]), ?_⟩)⟩
    have hl2 : (W.putObj (w.heap.size + 1) (.loop { R .ready none with state := .busy })).heap[w.heap.size + 1]? = some (.loop (R .busy none)) := by
      rw [World.putObj_heap_same hlt, hR]
    have hd2 : (W.putObj (w.heap.size + 1) (.loop { R .ready none with state := .busy })).heap[w.heap.size]? = some (.deferred (some [])) := (World.putObj_heap_other (by omega)).trans hd
    refine wpIn_mono (hbody _ x W1 W _ b1 hk hx (put_grown _ _ _) (by omega) (odd hl)) ?_
    rintro e a3 W3 ⟨rfl, hk3, hi3⟩
    have hl3 := hk3.same _ _ hl2 rfl
    have hd3 := hk3.same _ _ hd2 rfl
    have hend := run_endRound (P := P) (some .ret) hl3
    have hlt3 : w.heap.size + 1 < W3.heap.size := (Array.getElem?_eq_some_iff.1 hl3).1
    refine ⟨_, _, hend, rfl, hIx _ _ _ hi3 (put_grown _ _ _) (by omega) (odd hl3), ?_, (World.putObj_heap_other (by omega)).trans hd3⟩
    rw [World.putObj_heap_same hlt3, hR]; rfl
  · rintro e W2 ⟨⟨v, rfl⟩, (⟨hk, hd⟩ | ⟨hi, hl, hdd⟩)⟩
    · have hl := hk.same _ _ l1 rfl
      have hdd := hk.same _ _ d1 rfl
      have hend := run_endLoop (P := P) hl (by rw [hR]; simp)
      refine ⟨none, _, by rw [hend, hR], hdone _ _ W1 W2 _ b1 hk hd (put_grown _ _ _) (by omega) (odd hl) (Nat.le_refl _) ((World.putObj_heap_other (by omega)).trans hdd)⟩
    · have hend := run_endLoop (P := P) hl (by rw [hR]; simp)
      refine ⟨some .ret, _, by rw [hend, hR], hstop _ _ (Nat.le_refl _) (hIx _ _ _ hi (put_grown _ _ _) (by omega) (odd hl)) ((World.putObj_heap_other (by omega)).trans hdd)⟩
end Go.Proofs.Ytpcjcmbhoglnfaa
