/- Arguments opened to lists: a slice that came in reads as a list of elements, each of so many cells. Plain lemmas; no statement of the seat is proved here. -/
import Derived.Test.YtnhhinlhfaapcaaKit
import Derived.Deep.Slices
import Derived.ChangeSame
import Derived.ProofKit
import Derived.OpenShut
import Derived.ShutString
import Derived.ChangeOld
import Derived.SizedLaws
namespace Go.Proofs.Ytnhhinlhfaapcaa
open Go.ChangeShapes Go.WideShapes Go.ChangeAt Go.RowKit

/-- The slice whose head is A holds the elements L, each of 'size' cells, in a block below B. -/
def Rd {α : Type} (w : World) (B size : Nat) (cells : α → List Value) (A : Option Addr) (L : List α) : Prop :=
  L = [] ∨ ∃ b off, A = some ⟨b, off, none⟩ ∧ b < B ∧ ∀ i x, L[i]? = some x → ∀ j u, (cells x)[j]? = some u → w.cell? ⟨b, off + i * size + j, none⟩ = some u

section
variable {α : Type} {w w' : World} {B B' size : Nat} {cells : α → List Value} {A : Option Addr} {L : List α}
theorem Rd.nil (w : World) (B size : Nat) (cells : α → List Value) (A : Option Addr) : Rd w B size cells A [] := .inl rfl
theorem Rd.keep (h : Rd w B size cells A L) (hk : ∀ p : Addr, p.block < B → w'.cell? p = w.cell? p) : Rd w' B size cells A L := by
  rcases h with h | ⟨b, off, e, hb, hc⟩
  · exact .inl h
  · exact .inr ⟨b, off, e, hb, fun i x hx j u hu => (hk _ hb).trans (hc i x hx j u hu)⟩
theorem Rd.more (h : Rd w B size cells A L) (hB : B ≤ B') : Rd w B' size cells A L := by
  rcases h with h | ⟨b, off, e, hb, hc⟩
  · exact .inl h
  · exact .inr ⟨b, off, e, by omega, hc⟩
theorem Rd.below (h : Rd w B size cells A L) (hb : Below B w w') : Rd w' B size cells A L := h.keep fun _ hp => hb.cell hp
theorem Rd.drew (h : Rd w B size cells A L) : Rd w.drew B size cells A L := h
theorem Rd.drewN (h : Rd w B size cells A L) (k : Nat) : Rd (w.drewN k) B size cells A L := h
theorem Rd.alloc (h : Rd w B size cells A L) (hB : B ≤ w.heap.size) (o : Obj) : Rd (w.alloc o) B size cells A L := h.keep fun p hp => World.cell?_alloc_lt w o p (by omega)
theorem Rd.grown (h : Rd w B size cells A L) {row : Option Nat} (hg : w.grownBy w' row) (hB : B ≤ w.heap.size) (hr : ∀ g, row = some g → B ≤ g) : Rd w' B size cells A L :=
  h.keep fun p hp => World.cell?_of_block (hg.block p.block (by omega) (fun e => by have := hr _ e.symm; omega))
/-- at an index: the head is an address, and the element's cells are there -/
theorem Rd.at_ (h : Rd w B size cells A L) {k : Nat} (hk : k < L.length) : ∃ b off, A = some ⟨b, off, none⟩ ∧ b < B ∧ ∀ j u, (cells (L[k]))[j]? = some u → w.cell? ⟨b, off + k * size + j, none⟩ = some u := by
  rcases h with h | ⟨b, off, e, hb, hc⟩
  · subst h; simp at hk
  · exact ⟨b, off, e, hb, fun j u hu => hc k _ (List.getElem?_eq_getElem hk) j u hu⟩
theorem Rd.head (h : Rd w B size cells A L) (hk : 0 < L.length) : ∃ b off, A = some ⟨b, off, none⟩ ∧ b < B ∧ ∀ i x, L[i]? = some x → ∀ j u, (cells x)[j]? = some u → w.cell? ⟨b, off + i * size + j, none⟩ = some u := by
  rcases h with h | h
  · subst h; simp at hk
  · exact h
theorem Rd.take (h : Rd w B size cells A L) (n : Nat) : Rd w B size cells A (L.take n) := by
  rcases h with h | ⟨b, off, e, hb, hc⟩
  · exact .inl (by rw [h]; simp)
  · refine .inr ⟨b, off, e, hb, fun i x hx j u hu => ?_⟩
    rw [List.getElem?_take] at hx
    split at hx
    · exact hc i x hx j u hu
    · cases hx
end

section
variable {H : Type} {enc : TypeId × Value → H} {P : Program} {w : World} {base : Nat} {spare : Nat → Bool} {held : Bool}

/-- A SLICE THAT CAME IN, OPENED TO A LIST. 'hrd': how one element is read off its cells. -/
theorem open_reads {α : Type} [Inhabited α] {t e : TypeId} (ht : P.underlying t = some (.slice e)) (size : Nat) (hC : P.cellsOf e = size) (hsz : 0 < size) (cells : α → List Value) (hlen : ∀ x, (cells x).length = size) (good : α → Prop)
    (hrd : ∀ n cs y, DataW.trod enc P w base spare held n e cs = some y → ∃ x : α, cs = cells x ∧ good x) {a : Option Addr} {len cap : Nat} {d : DataW H} {p : List MemPlace}
    (h : DataW.Trod enc P w base spare held t (.slice a len cap) d p) :
    ∃ L : List α, L.length = len ∧ Rd w w.heap.size size cells a L ∧ (∀ x ∈ L, good x) ∧ len ≤ cap ∧ cap ≤ maxLen := by
  obtain ⟨fuel, hf⟩ := h
  rcases Deep.open_slice ht hf with ⟨hcs, _⟩ | ⟨ad, len', cap', m, n, D, Pl, hcs, hb, hl, hm, hmm, hx, hi⟩
  · simp [Value.cells] at hcs
    obtain ⟨rfl, rfl, rfl⟩ := hcs
    exact ⟨[], rfl, .inl rfl, by simp, Nat.le_refl _, Nat.zero_le _⟩
  · simp [Value.cells] at hcs
    obtain ⟨rfl, rfl, rfl⟩ := hcs
    rw [hC] at hi
    have hlm : len ≤ m := by rw [hmm]; split <;> omega
    have hx' : ∀ i, i < len → ∃ x : α, good x ∧ ∀ j, j < size → w.cell? (ad.add (i * size + j)) = (cells x)[j]? := by
      intro i hil
      obtain ⟨cs', h1, h2⟩ := hi i (by omega)
      obtain ⟨x, rfl, hg⟩ := hrd _ _ _ h2
      obtain ⟨_, _, h3⟩ := World.cells?_some h1
      exact ⟨x, hg, fun j hj => by rw [← Deep.add_add]; exact h3 j hj⟩
    obtain ⟨X, hX⟩ := Deep.choose_lt hx'
    refine ⟨(List.range len).map X, by simp, ?_, ?_, hl, hm⟩
    · rcases Nat.eq_zero_or_pos len with h0 | h0
      · exact .inl (by simp [h0])
      · obtain ⟨b, off, spot⟩ := ad
        have h00 := (hX 0 h0).2 0 hsz
        have hs0 : (cells (X 0))[0]? = some ((cells (X 0))[0]'(by rw [hlen]; exact hsz)) := List.getElem?_eq_getElem _
        rw [hs0] at h00
        have hspot : spot = none := by simpa [Addr.add] using World.cell?_spot h00
        subst hspot
        refine .inr ⟨b, off, rfl, ?_, ?_⟩
        · have := World.block_lt_of_cell? w _ h00
          simpa [Addr.add] using this
        · intro i x hx j u hu
          rw [List.getElem?_map] at hx
          have hil : i < len := by
            rcases Nat.lt_or_ge i len with h | h
            · exact h
            · rw [List.getElem?_eq_none (by simpa using h)] at hx; cases hx
          rw [List.getElem?_range hil] at hx
          simp at hx
          subst hx
          have hj : j < size := by
            rcases Nat.lt_or_ge j size with h | h
            · exact h
            · rw [List.getElem?_eq_none (by rw [hlen]; exact h)] at hu; cases hu
          have := (hX i hil).2 j hj
          rw [hu] at this
          rw [← this]
          unfold Addr.add
          by_cases hz : i * size + j = 0
          · rw [if_pos hz]
            have : off + i * size + j = off := by omega
            rw [this]
          · rw [if_neg hz]
            have : off + i * size + j = off + (i * size + j) := by omega
            rw [this]
    · intro x hx
      obtain ⟨i, hi, rfl⟩ := List.mem_map.1 hx
      exact (hX i (by simpa using hi)).1

/-- one field's cell, and its reading -/
theorem read_int {k : IntKind} {t : TypeId} (ht : P.underlying t = some (.int k)) {n : Nat} {cs : List Value} {y : DataW H × List MemPlace} (h : DataW.trod enc P w base spare held n t cs = some y) : ∃ a : Int, cs = [.int k a] ∧ (Lit.int k a).wf = true := by
  obtain ⟨a, h1, _, h2⟩ := DataW.trod_int ht h; exact ⟨a, h1, h2⟩
theorem read_bool {t : TypeId} (ht : P.underlying t = some .bool) {n : Nat} {cs : List Value} {y : DataW H × List MemPlace} (h : DataW.trod enc P w base spare held n t cs = some y) : ∃ a : Bool, cs = [.bool a] := by
  obtain ⟨a, h1, _⟩ := DataW.trod_bool ht h; exact ⟨a, h1⟩
theorem read_string {t : TypeId} (ht : P.underlying t = some .string) {n : Nat} {cs : List Value} {y : DataW H × List MemPlace} (h : DataW.trod enc P w base spare held n t cs = some y) : ∃ a : ByteArray, cs = [.string a] ∧ a.size ≤ maxLen := by
  obtain ⟨a, h1, _, h2⟩ := DataW.trod_string ht h; exact ⟨a, h1, h2⟩
/-- a field that is a slice: its head, and its own reading -/
theorem read_slice {t e : TypeId} (ht : P.underlying t = some (.slice e)) {n : Nat} {cs : List Value} {y : DataW H × List MemPlace} (h : DataW.trod enc P w base spare held n t cs = some y) :
    ∃ (a : Option Addr) (len cap : Nat), cs = [.slice a len cap] ∧ DataW.Trod enc P w base spare held t (.slice a len cap) y.1 y.2 := by
  rcases Deep.open_slice ht h with ⟨rfl, rfl⟩ | ⟨ad, len', cap', m, n', D, Pl, rfl, hb, hl, hm, hmm, hx, hi⟩
  · exact ⟨none, 0, 0, rfl, n, by simpa [Value.cells] using h⟩
  · exact ⟨some ad, len', cap', rfl, n, by simpa [Value.cells] using h⟩

/-- the fields of a struct, each by its own cells -/
theorem read_fields {t : TypeId} {fs : Array Field} (ht : P.underlying t = some (.struct fs)) {n : Nat} {cs : List Value} {y : DataW H × List MemPlace} (h : DataW.trod enc P w base spare held n t cs = some y) :
    cs.length = P.cellsOf t ∧ ∃ m, ∀ (i : Nat) (f : Field), fs[i]? = some f → ∃ z, DataW.trod enc P w base spare held m f.type ((cs.drop f.offset).take (P.cellsOf f.type)) = some z := by
  obtain ⟨xs, m, _, _, hlen, hxl, hf⟩ := DataW.trod_struct ht h
  refine ⟨hlen, m, fun i f hi => ?_⟩
  have hil : i < xs.length := by rw [hxl]; exact (Array.getElem?_eq_some_iff.1 hi).1
  exact ⟨xs[i], by rw [hf i f hi]; exact List.getElem?_eq_getElem hil⟩
end

end Go.Proofs.Ytnhhinlhfaapcaa
