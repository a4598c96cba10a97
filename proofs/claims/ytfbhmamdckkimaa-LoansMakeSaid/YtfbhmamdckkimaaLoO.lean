/- Loans: arguments opened: some loans, a loan. -/
import Derived.Test.YtfbhmamdckkimaaLoG
namespace Go.Proofs.Ytfbhmamdckkimaa
open Go.ChangeShapes Go.WideShapes Go.RowKit
set_option linter.unusedVariables false

theorem cellsL : Try.prog.cellsOf 36 = 4 := by kernel_rfl
theorem cellsB : Try.prog.cellsOf 4 = 1 := by kernel_rfl
theorem cellsI : Try.prog.cellsOf 3 = 1 := by kernel_rfl
section
variable {H : Type} {enc : TypeId × Value → H} {w : World} {base : Nat} {spare : Nat → Bool} {held : Bool}
theorem readL (n : Nat) (cs : List Value) (y : DataW H × List MemPlace) (h : DataW.trod enc Try.prog w base spare held n 36 cs = some y) : ∃ x : Lo, cs = loC x ∧ LoOk w x := by
  obtain ⟨hlen, m, hf⟩ := read_fields Try.underlying36 h
  rw [cellsL] at hlen
  match cs, hlen with
  | [c0, c1, c2, c3], _ =>
    obtain ⟨z0, h0⟩ := hf 0 _ rfl
    obtain ⟨z1, h1⟩ := hf 1 _ rfl
    obtain ⟨z2, h2⟩ := hf 2 _ rfl
    simp [cellsP, cellsB, cellsI] at h0 h1 h2
    obtain ⟨p, hp, gp⟩ := readP _ _ _ h0
    obtain ⟨a, ha⟩ := read_bool Try.underlying4 h1
    obtain ⟨t, ht, gt⟩ := read_int Try.underlying3 h2
    simp [plC] at hp ha ht
    exact ⟨⟨p, a, t⟩, by simp [loC, hp, ha, ht], gp, gt⟩
theorem openLs {r : Reach} {b0 : Nat} {v : Value} {d : DataW H} {p : List MemPlace} (hok : Value.okWide Try.prog w r b0 22 v) (h : DataW.Trod enc Try.prog w base spare held 22 v d p) :
    ∃ (A : Option Addr) (c : Nat) (L : List Lo), v = .slice A L.length c ∧ Rd w w.heap.size 4 loC A L ∧ (∀ x ∈ L, LoOk w x) ∧ L.length ≤ c ∧ c ≤ maxLen := by
  obtain ⟨a, len, cap, rfl⟩ := okWide_slice Try.underlying22 hok
  obtain ⟨L, rfl, h1, h2, h3, h4⟩ := open_reads Try.underlying22 4 cellsL (by omega) loC loC_len (fun x => LoOk w x) readL h
  exact ⟨a, cap, L, rfl, h1, h2, h3, h4⟩
theorem openL {r : Reach} {b0 : Nat} {v : Value} {d : DataW H} {p : List MemPlace} (hok : Value.okWide Try.prog w r b0 36 v) (h : DataW.Trod enc Try.prog w base spare held 36 v d p) :
    ∃ x : Lo, v = .agg #[.string x.pl.name, .slice x.pl.pa x.pl.path.length x.pl.pc, .bool x.alone, .int .i64 x.till] ∧ LoOk w x := by
  obtain ⟨cs, rfl, _⟩ := WideShapes.okWide_struct Try.underlying36 hok
  obtain ⟨n, hn⟩ := h
  obtain ⟨x, hx, hg⟩ := readL n _ _ hn
  exact ⟨x, by congr 1; apply Array.ext'; simpa [Value.cells, loC] using hx, hg⟩
end
/-- a row that isn't too long -/
theorem short_row {A : Option Addr} {c : Nat} {L : List Lo} {w : World} (rd : Rd w w.heap.size 4 loC A L) (g : ∀ x ∈ L, LoOk w x) (hc : L.length ≤ c) (h : manyB L = false) :
    LoRow w A L.length c L ∧ L.length ≤ 40 ∧ ∀ x ∈ L, x.pl.path.length ≤ 1000000 := by
  obtain ⟨h40, hl⟩ := manyB_no h
  exact ⟨⟨rfl, rd, g, hc, by omega⟩, h40, fun x hx => Nat.le_trans (longB_no (hl x hx)).1 (by omega)⟩
end Go.Proofs.Ytfbhmamdckkimaa
