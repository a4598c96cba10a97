/- Places: arguments opened: a place, some places, some texts. -/
import Derived.Test.YtnofmnoohnmanaaPlE
namespace Go.Proofs.Ytnofmnoohnmanaa
open Go.ChangeShapes Go.WideShapes Go.RowKit
set_option linter.unusedVariables false

theorem cellsP : Try.prog.cellsOf 24 = 2 := by kernel_rfl
theorem cellsSs : Try.prog.cellsOf 22 = 1 := by kernel_rfl
theorem cellsS : Try.prog.cellsOf 9 = 1 := by kernel_rfl
section
variable {H : Type} {enc : TypeId × Value → H} {w : World} {base : Nat} {spare : Nat → Bool} {held : Bool}
theorem readP (n : Nat) (cs : List Value) (y : DataW H × List MemPlace) (h : DataW.trod enc Try.prog w base spare held n 24 cs = some y) : ∃ x : Pl, cs = plC x ∧ PlOk w w.heap.size x := by
  obtain ⟨hlen, m, hf⟩ := read_fields Try.underlying24 h
  rw [cellsP] at hlen
  match cs, hlen with
  | [c0, c1], _ =>
    obtain ⟨z0, h0⟩ := hf 0 _ rfl
    obtain ⟨z1, h1⟩ := hf 1 _ rfl
    simp [cellsS, cellsSs] at h0 h1
    obtain ⟨a0, e0, g0⟩ := read_string Try.underlying9 h0
    obtain ⟨a, len, cap, e3, h4⟩ := read_slice Try.underlying22 h1
    obtain ⟨P, rfl, k1, k2, k3, k4⟩ := open_reads Try.underlying22 1 cellsS (by omega) strC strC_len (fun s => s.size ≤ maxLen) (fun n cs y hy => read_string Try.underlying9 hy) h4
    simp at e0 e3
    exact ⟨⟨a0, a, cap, P⟩, by simp [plC, e0, e3], k1, g0, k2, k3, k4⟩
theorem openP {r : Reach} {b0 : Nat} {v : Value} {d : DataW H} {p : List MemPlace} (hok : Value.okWide Try.prog w r b0 24 v) (h : DataW.Trod enc Try.prog w base spare held 24 v d p) :
    ∃ x : Pl, v = .agg #[.string x.name, .slice x.pa x.path.length x.pc] ∧ PlOk w w.heap.size x := by
  obtain ⟨cs, rfl, _⟩ := WideShapes.okWide_struct Try.underlying24 hok
  obtain ⟨n, hn⟩ := h
  obtain ⟨x, hx, hg⟩ := readP n _ _ hn
  exact ⟨x, by congr 1; apply Array.ext'; simpa [Value.cells, plC] using hx, hg⟩
theorem openSs {r : Reach} {b0 : Nat} {v : Value} {d : DataW H} {p : List MemPlace} (hok : Value.okWide Try.prog w r b0 22 v) (h : DataW.Trod enc Try.prog w base spare held 22 v d p) :
    ∃ (A : Option Addr) (c : Nat) (L : List ByteArray), v = .slice A L.length c ∧ Rd w w.heap.size 1 strC A L ∧ (∀ s ∈ L, s.size ≤ maxLen) ∧ L.length ≤ c ∧ c ≤ maxLen := by
  obtain ⟨a, len, cap, rfl⟩ := okWide_slice Try.underlying22 hok
  obtain ⟨L, rfl, h1, h2, h3, h4⟩ := open_reads Try.underlying22 1 cellsS (by omega) strC strC_len (fun s => s.size ≤ maxLen) (fun n cs y hy => read_string Try.underlying9 hy) h
  exact ⟨a, cap, L, rfl, h1, h2, h3, h4⟩
end

/-- the two cells of a box -/
theorem bx0 {w : World} {g : Nat} {t : TypeId} {a b : Value} (h : Blk w g t #[a, b]) : w.cell? ⟨g, 0, none⟩ = some a := h.cell 0
theorem bx1 {w : World} {g : Nat} {t : TypeId} {a b : Value} (h : Blk w g t #[a, b]) : w.cell? ⟨g, 1, none⟩ = some b := h.cell 1
theorem long_bool (x : Pl) {b : Bool} (hb : longB x = b) (w : World) (hx : PlOk w w.heap.size x) :
    Calls Try.prog 11 #[.agg #[.string x.name, .slice x.pa x.path.length x.pc]] w fun r w' => r = .returned (.bool b) ∧ Below w.heap.size w w' := by
  subst hb; exact long_any x w hx
theorem rmeets_bool (x y : Pl) {b : Bool} (hb : meetB x.key y.key = b) (w : World) (hx : PlOk w w.heap.size x) (hy : PlOk w w.heap.size y) :
    Calls Try.prog 17 #[.agg #[.string x.name, .slice x.pa x.path.length x.pc], .agg #[.string y.name, .slice y.pa y.path.length y.pc]] w fun r w' => r = .returned (.bool b) ∧ Below w.heap.size w w' := by
  subst hb; exact rmeets_any x y w hx hy
end Go.Proofs.Ytnofmnoohnmanaa
