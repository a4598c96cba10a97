/- Threads: the arguments opened: rows of calls, rows of bytes. -/
import Derived.Test.YtnhhinlhfaapcaaP
namespace Go.Proofs.Ytnhhinlhfaapcaa
open Go.ChangeShapes Go.WideShapes Go.RowKit
set_option linter.unusedVariables false
set_option linter.unusedSimpArgs false

instance : Inhabited Ac := ⟨⟨0, 0, false⟩⟩
theorem acC_len (x : Ac) : (acC x).length = 3 := rfl
structure AcOk (x : Ac) : Prop where
  k0 : 0 ≤ x.kind
  k1 : x.kind ≤ 255
  wn : (Lit.int .i64 x.n).wf = true
theorem u8_wf {n : Int} (h : (Lit.int .u8 n).wf = true) : 0 ≤ n ∧ n ≤ 255 := by
  have h' : (decide ((0 : Int) ≤ n) && decide (n ≤ 255)) = true := h
  simpa using h'
theorem cells28 : Try.prog.cellsOf 28 = 3 := by kernel_rfl
theorem cells3q : Try.prog.cellsOf 3 = 1 := by kernel_rfl
theorem cells4q : Try.prog.cellsOf 4 = 1 := by kernel_rfl
theorem cells5q : Try.prog.cellsOf 5 = 1 := by kernel_rfl
section
variable {H : Type} {enc : TypeId × Value → H} {w : World} {base : Nat} {spare : Nat → Bool} {held : Bool}
theorem read28 (n : Nat) (cs : List Value) (y : DataW H × List MemPlace) (h : DataW.trod enc Try.prog w base spare held n 28 cs = some y) : ∃ x : Ac, cs = acC x ∧ AcOk x := by
  obtain ⟨hlen, m, hf⟩ := read_fields Try.underlying28 h
  rw [cells28] at hlen
  match cs, hlen with
  | [c0, c1, c2], _ =>
    obtain ⟨z0, h0⟩ := hf 0 _ rfl
    obtain ⟨z1, h1⟩ := hf 1 _ rfl
    obtain ⟨z2, h2⟩ := hf 2 _ rfl
    simp [cells3q, cells4q, cells5q] at h0 h1 h2
    obtain ⟨a0, e0, g0⟩ := read_int Try.underlying5 h0
    obtain ⟨a1, e1, g1⟩ := read_int Try.underlying3 h1
    obtain ⟨a2, e2⟩ := read_bool Try.underlying4 h2
    simp at e0 e1 e2
    exact ⟨⟨a0, a1, a2⟩, by simp [acC, e0, e1, e2], (u8_wf g0).1, (u8_wf g0).2, g1⟩
theorem open22 {r : Reach} {b0 : Nat} {v : Value} {d : DataW H} {p : List MemPlace} (hok : Value.okWide Try.prog w r b0 22 v) (h : DataW.Trod enc Try.prog w base spare held 22 v d p) :
    ∃ (A : Option Addr) (c : Nat) (L : List Ac), v = .slice A L.length c ∧ Rd w w.heap.size 3 acC A L ∧ (∀ x ∈ L, AcOk x) ∧ L.length ≤ c ∧ c ≤ maxLen := by
  obtain ⟨a, len, cap, rfl⟩ := okWide_slice Try.underlying22 hok
  obtain ⟨L, rfl, h1, h2, h3, h4⟩ := open_reads Try.underlying22 3 cells28 (by omega) acC acC_len (fun x => AcOk x) read28 h
  exact ⟨a, cap, L, rfl, h1, h2, h3, h4⟩
def byC (x : Int) : List Value := [.int .u8 x]
theorem byC_len (x : Int) : (byC x).length = 1 := rfl
theorem read5 (n : Nat) (cs : List Value) (y : DataW H × List MemPlace) (h : DataW.trod enc Try.prog w base spare held n 5 cs = some y) : ∃ x : Int, cs = byC x ∧ (0 ≤ x ∧ x ≤ 255) := by
  obtain ⟨a0, e0, g0⟩ := read_int Try.underlying5 h
  exact ⟨a0, e0, u8_wf g0⟩
theorem open40 {r : Reach} {b0 : Nat} {v : Value} {d : DataW H} {p : List MemPlace} (hok : Value.okWide Try.prog w r b0 40 v) (h : DataW.Trod enc Try.prog w base spare held 40 v d p) :
    ∃ (A : Option Addr) (c : Nat) (L : List Int), v = .slice A L.length c ∧ Rd w w.heap.size 1 byC A L ∧ (∀ x ∈ L, 0 ≤ x ∧ x ≤ 255) ∧ L.length ≤ c ∧ c ≤ maxLen := by
  obtain ⟨a, len, cap, rfl⟩ := okWide_slice Try.underlying40 hok
  obtain ⟨L, rfl, h1, h2, h3, h4⟩ := open_reads Try.underlying40 1 cells5q (by omega) byC byC_len (fun x => 0 ≤ x ∧ x ≤ 255) read5 h
  exact ⟨a, cap, L, rfl, h1, h2, h3, h4⟩
end
theorem Rd.ac {w : World} {B : Nat} {A : Option Addr} {L : List Ac} (h : Rd w B 3 acC A L) {k : Nat} {x : Ac} (hk : L[k]? = some x) :
    ∃ b off, A = some ⟨b, off, none⟩ ∧ b < B ∧ w.cell? ⟨b, off + k * 3, none⟩ = some (.int .u8 x.kind) ∧ w.cell? ⟨b, off + k * 3 + 1, none⟩ = some (.int .i64 x.n) ∧ w.cell? ⟨b, off + k * 3 + 2, none⟩ = some (.bool x.pan) := by
  obtain ⟨hl, e⟩ := List.getElem?_eq_some_iff.1 hk
  obtain ⟨b, off, hA, hb, hc⟩ := h.at_ hl
  rw [e] at hc
  exact ⟨b, off, hA, hb, by simpa using hc 0 _ rfl, hc 1 _ rfl, hc 2 _ rfl⟩
theorem Rd.by_ {w : World} {B : Nat} {A : Option Addr} {L : List Int} (h : Rd w B 1 byC A L) {k : Nat} {x : Int} (hk : L[k]? = some x) :
    ∃ b off, A = some ⟨b, off, none⟩ ∧ b < B ∧ w.cell? ⟨b, off + k, none⟩ = some (.int .u8 x) := by
  obtain ⟨hl, e⟩ := List.getElem?_eq_some_iff.1 hk
  obtain ⟨b, off, hA, hb, hc⟩ := h.at_ hl
  rw [e] at hc
  exact ⟨b, off, hA, hb, by simpa using hc 0 _ rfl⟩
/-- the table behind the first calls of a list -/
def runA (L : List Ac) : Tab := L.foldl actF newT
theorem runA_snoc (L : List Ac) (a : Ac) : runA (L ++ [a]) = actF (runA L) a := by simp [runA]
theorem runA_take {L : List Ac} {k : Nat} {a : Ac} (h : L[k]? = some a) : runA (L.take (k + 1)) = actF (runA (L.take k)) a := by
  rw [List.take_add_one, h]
  exact runA_snoc _ _
theorem Tok.run : ∀ (L : List Ac), Tok L.length (runA L) := by
  intro L
  unfold runA
  have : ∀ (L : List Ac) (k : Nat) (t : Tab), Tok k t → Tok (k + L.length) (L.foldl actF t) := by
    intro L
    induction L with
    | nil => intro k t h; exact h
    | cons a L ih =>
      intro k t h
      have := ih (k + 1) _ (h.act a)
      rw [List.foldl_cons, List.length_cons, show k + (L.length + 1) = k + 1 + L.length by omega]
      exact this
  have h := this L 0 newT tok_new
  rwa [Nat.zero_add] at h
end Go.Proofs.Ytnhhinlhfaapcaa
