/- Race: a row of events that came in, opened; the walk of TopRaces in the frame's form. -/
import Derived.Test.YtpcjcmbhoglnfaaS
namespace Go.Proofs.Ytpcjcmbhoglnfaa
open Go.ChangeShapes Go.WideShapes Go.RowKit
set_option linter.unusedVariables false

theorem cells26 : Try.prog.cellsOf 26 = 4 := by kernel_rfl
theorem cells24 : Try.prog.cellsOf 24 = 1 := by kernel_rfl
theorem cells5 : Try.prog.cellsOf 5 = 1 := by kernel_rfl
theorem cells3q : Try.prog.cellsOf 3 = 1 := by kernel_rfl
section
variable {H : Type} {enc : TypeId × Value → H} {w : World} {base : Nat} {spare : Nat → Bool} {held : Bool}
theorem read26 (n : Nat) (cs : List Value) (y : DataW H × List MemPlace) (h : DataW.trod enc Try.prog w base spare held n 26 cs = some y) : ∃ x : Ev, cs = evC x ∧ EvOk w w.heap.size x := by
  obtain ⟨hlen, m, hf⟩ := read_fields Try.underlying26 h
  rw [cells26] at hlen
  match cs, hlen with
  | [c0, c1, c2, c3], _ =>
    obtain ⟨z0, h0⟩ := hf 0 _ rfl
    obtain ⟨z1, h1⟩ := hf 1 _ rfl
    obtain ⟨z2, h2⟩ := hf 2 _ rfl
    obtain ⟨z3, h3⟩ := hf 3 _ rfl
    simp [cells3q, cells5, cells24] at h0 h1 h2 h3
    obtain ⟨a0, e0, g0⟩ := read_int Try.underlying5 h0
    obtain ⟨a1, e1, g1⟩ := read_int Try.underlying3 h1
    obtain ⟨a2, e2, g2⟩ := read_int Try.underlying3 h2
    obtain ⟨a, len, cap, e3, h4⟩ := read_slice Try.underlying24 h3
    obtain ⟨P, rfl, k1, k2, k3, k4⟩ := open_reads Try.underlying24 1 cells3q (by omega) intC intC_len (fun x => (Lit.int .i64 x).wf = true) (fun n cs y hy => read_int Try.underlying3 hy) h4
    simp at e0 e1 e2 e3
    exact ⟨⟨a0, a1, a2, a, cap, P⟩, by simp [evC, e0, e1, e2, e3], g0, g1, g2, k1, k2, k3, k4⟩
theorem open22 {r : Reach} {b0 : Nat} {v : Value} {d : DataW H} {p : List MemPlace} (hok : Value.okWide Try.prog w r b0 22 v) (h : DataW.Trod enc Try.prog w base spare held 22 v d p) :
    ∃ (A : Option Addr) (c : Nat) (L : List Ev), v = .slice A L.length c ∧ Rd w w.heap.size 4 evC A L ∧ (∀ x ∈ L, EvOk w w.heap.size x) ∧ L.length ≤ c ∧ c ≤ maxLen := by
  obtain ⟨a, len, cap, rfl⟩ := okWide_slice Try.underlying22 hok
  obtain ⟨L, rfl, h1, h2, h3, h4⟩ := open_reads Try.underlying22 4 cells26 (by omega) evC evC_len (fun x => EvOk w w.heap.size x) read26 h
  exact ⟨a, cap, L, rfl, h1, h2, h3, h4⟩
end
theorem topRaces_walk (A : Option Addr) (c : Nat) (L : List Ev) (w : World) (rd : Rd w w.heap.size 4 evC A L) (g : ∀ x ∈ L, EvOk w w.heap.size x) (hc : L.length ≤ c) (hm : c ≤ maxLen) :
    Calls Try.prog 3 #[.slice A L.length c] w fun r w' => r = .returned (.bool true) ∧ Below w.heap.size w w' :=
  topRaces_short w A L.length c L rfl rd g hc
end Go.Proofs.Ytpcjcmbhoglnfaa
