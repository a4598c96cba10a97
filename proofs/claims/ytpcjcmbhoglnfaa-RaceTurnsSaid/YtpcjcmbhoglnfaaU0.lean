/- Race: the contract of a trace's does: what is held. -/
import Derived.Test.YtpcjcmbhoglnfaaT
namespace Go.Proofs.Ytpcjcmbhoglnfaa
open Go.RowKit
set_option linter.unusedVariables false
set_option linter.unusedSimpArgs false

theorem info4 : (Try.prog.info? 4).map (fun i => (i.zero, i.size, i.bytes)) = some (some (.bool false), 1, 1) := by kernel_rfl
theorem TS.fin {w w' : World} {B gs : Nat} {E : List Bool} (h : TS w B gs E) (hb : Below w.heap.size w w') : TS w' B gs E ∧ Below B w w' :=
  ⟨h.below hb, hb.mono (by have := h.lt; have := h.1; omega)⟩
theorem getD_at {E : List Bool} {k : Nat} {b : Bool} (h : E[k]? = some b) : E.getD k false = b := by rw [List.getD_eq_getElem?_getD, h]; rfl
theorem ownN {w : World} {B e s n : Nat} {v : Value} {xs : List Value} (h : w.ownsRow B e s v n xs) (k : Nat) : (w.drewN k).ownsRow B e s v n xs := h
theorem TS.store {w : World} {B gs g : Nat} {E : List Bool} {n c : Nat} (hB : B ≤ gs) (hb : Blk w gs 71 #[.slice (some ⟨g, 0, none⟩) n c]) (hn : n = E.length) (hown : w.ownsRow B 4 1 (.slice (some ⟨g, 0, none⟩) n c) n (E.map Value.bool)) (k : Nat) (b : Bool) :
    TS (w.setCell ⟨g, k, none⟩ (.bool b)) B gs (E.set k b) ∧ Below B w (w.setCell ⟨g, k, none⟩ (.bool b)) := by
  have hne := own_blk_ne hown hb (by decide)
  refine ⟨⟨hB, _, hb.far (p := ⟨g, k, none⟩) (fun e => hne (by rw [e]; rfl)) _, ?_⟩, (Below.refl B w).setCell (p := ⟨g, k, none⟩) (hown.lt g rfl).1 _⟩
  have := (hown.stored k (.bool b)).1
  rw [← List.map_set] at this
  rw [List.length_set, ← hn]
  exact this
theorem cell_new2 (w : World) (o : Obj) (k : Nat) (v : Value) (t : TypeId) : ∀ j u, [v][j]? = some u → (((w.alloc o).drewN k).alloc (.cells #[v] t)).cell? ((⟨w.heap.size + 1, 0, none⟩ : Addr).add j) = some u := by
  have h := cell_one_new ((w.alloc o).drewN k) v t
  have e : ((w.alloc o).drewN k).heap.size = w.heap.size + 1 := World.size_alloc w o
  rw [e] at h
  exact h
theorem grown_at (w : World) (b i : Nat) (v : Value) : w.grownBy (w.setCell ⟨b, i, none⟩ v) (some b) := ⟨rfl, rfl, rfl, by simp [World.setCell], fun k _ hk => Below.heap_setCell _ _ _ k (fun e => hk (by rw [e]))⟩
/-- no block is touched but those of types 71 and 4 -/
def KeepT (w w' : World) : Prop := w.heap.size ≤ w'.heap.size ∧ ∀ (k : Nat) (o : Obj), w.heap[k]? = some o → (∀ cs t r, o = .cells cs t r → t ≠ 71 ∧ t ≠ 4) → w'.heap[k]? = some o
theorem KeepT.trans {a b c : World} (h : KeepT a b) (k : KeepT b c) : KeepT a c := ⟨Nat.le_trans h.1 k.1, fun i o hi ho => k.2 i o (h.2 i o hi ho) ho⟩
theorem KeepT.of_below {w w' : World} (h : Below w.heap.size w w') : KeepT w w' := ⟨h.size, fun k o hk _ => (h.block k (Array.getElem?_eq_some_iff.1 hk).1).trans hk⟩
theorem KeepT.of_row {w w' : World} {B g n c m : Nat} {xs : List Value} (hown : w.ownsRow B 4 1 (.slice (some ⟨g, 0, none⟩) n c) m xs) (hg : w.grownBy w' (some g)) : KeepT w w' := by
  refine ⟨hg.size, fun k o hk ho => (hg.block k (Array.getElem?_eq_some_iff.1 hk).1 ?_).trans hk⟩
  intro e
  rw [Option.some.injEq] at e
  subst e
  rcases hown.2 with ⟨e, _⟩ | ⟨g', cap, cur, e, _, hh, _⟩
  · cases e
  · rw [Value.slice.injEq, Option.some.injEq, Addr.mk.injEq] at e
    obtain ⟨⟨rfl, _⟩, _⟩ := e
    rw [hh] at hk
    exact (ho _ _ _ (Option.some.inj hk).symm).2 rfl
theorem KeepT.of_set {w : World} {gs : Nat} {cs : Array Value} (hb : Blk w gs 71 cs) (v : Value) : KeepT w (w.setCell ⟨gs, 0, none⟩ v) := by
  refine ⟨by simp [World.setCell], fun k o hk ho => (Below.heap_setCell w ⟨gs, 0, none⟩ v k ?_).trans hk⟩
  rintro rfl
  unfold Blk at hb
  rw [hb] at hk
  exact (ho _ _ _ (Option.some.inj hk).symm).1 rfl
theorem KeepT.blk {w w' : World} (h : KeepT w w') {g : Nat} {t : TypeId} {cs : Array Value} (hb : Blk w g t cs) (h1 : t ≠ 71) (h2 : t ≠ 4) : Blk w' g t cs :=
  h.2 g _ hb (fun cs' t' r e => by rw [Obj.cells.injEq] at e; rw [← e.2.1]; exact ⟨h1, h2⟩)
/-- what is held where the thread is there and runs -/
structure DC (w : World) (B gs g c n t : Nat) (E : List Bool) (pa : Option Addr) (pc pl : Nat) (P : List Int) : Prop where
  ts : TS w B gs E
  hB : B ≤ gs
  hn : n = E.length
  hE : n ≤ 1000000
  hpl : P.length = pl
  blk : Blk w gs 71 #[.slice (some ⟨g, 0, none⟩) n c]
  own : w.ownsRow B 4 1 (.slice (some ⟨g, 0, none⟩) n c) n (E.map Value.bool)
  htn : t < n
  he : E[t]? = some false
  path : ∀ W : World, Below w.heap.size w W → Calls Try.prog 51 #[.slice pa pl pc] W fun r w' => r = .returned (.bool (pathOk P)) ∧ W = w'
section
variable {w : World} {B gs g c n t : Nat} {E : List Bool} {pa : Option Addr} {pc pl : Nat} {P : List Int}
theorem DC.cellE (H : DC w B gs g c n t E pa pc pl P) {k : Nat} {b : Bool} (hk : E[k]? = some b) : w.cell? ⟨g, k, none⟩ = some (.bool b) := by
  have := H.own.cellAt k (by have := (List.getElem?_eq_some_iff.1 hk).1; have := H.hn; omega)
  rw [this]; simp [hk]
theorem DC.cell0 (H : DC w B gs g c n t E pa pc pl P) : w.cell? ⟨gs, 0, none⟩ = some (.slice (some ⟨g, 0, none⟩) n c) := by
  have := H.blk.cell 0
  exact this
theorem DC.go (H : DC w B gs g c n t E pa pc pl P) : ¬ ((t : Int) < 0 ∨ (E.length : Int) ≤ t ∨ E.getD (t : Int).toNat false = true) := by
  have h1 := H.hn
  have h2 := H.htn
  rintro (h | h | h)
  · omega
  · omega
  · rw [Int.toNat_natCast, getD_at H.he] at h; cases h
theorem DC.bel (H : DC w B gs g c n t E pa pc pl P) (o : Obj) (k : Nat) : Below w.heap.size w ((w.alloc o).drewN k) := below_drewN ((Below.refl _ w).alloc (Nat.le_refl _) o) k
/-- what does leaves -/
def DoesP (w : World) (B gs : Nat) (E : List Bool) (x : Ev) (r : Ending) (w' : World) : Prop := r = .returned (.bool (doesF E x).1) ∧ TS w' B gs (doesF E x).2 ∧ Below B w w' ∧ KeepT w w'
theorem DoesP.same {w w' : World} {B gs : Nat} {E : List Bool} {x : Ev} {b : Bool} (h : TS w B gs E) (hb : Below w.heap.size w w') (hf : doesF E x = (b, E)) : DoesP w B gs E x (.returned (.bool b)) w' := by
  unfold DoesP; rw [hf]; exact ⟨rfl, (h.fin hb).1, (h.fin hb).2, .of_below hb⟩
end
end Go.Proofs.Ytpcjcmbhoglnfaa
