/- Places: an argument that is some places, opened. -/
import Derived.Test.YtnofmnoohnmanaaPlO
namespace Go.Proofs.Ytnofmnoohnmanaa
open Go.ChangeShapes Go.WideShapes Go.RowKit
theorem openPs {H : Type} {enc : TypeId × Value → H} {w : World} {base : Nat} {spare : Nat → Bool} {held : Bool} {r : Reach} {b0 : Nat} {v : Value} {d : DataW H} {p : List MemPlace} (hok : Value.okWide Try.prog w r b0 30 v) (h : DataW.Trod enc Try.prog w base spare held 30 v d p) :
    ∃ (A : Option Addr) (c : Nat) (L : List Pl), v = .slice A L.length c ∧ Rd w w.heap.size 2 plC A L ∧ (∀ x ∈ L, PlOk w w.heap.size x) ∧ L.length ≤ c ∧ c ≤ maxLen := by
  obtain ⟨a, len, cap, rfl⟩ := okWide_slice Try.underlying30 hok
  obtain ⟨L, rfl, h1, h2, h3, h4⟩ := open_reads Try.underlying30 2 cellsP (by omega) plC plC_len (fun x => PlOk w w.heap.size x) readP h
  exact ⟨a, cap, L, rfl, h1, h2, h3, h4⟩
end Go.Proofs.Ytnofmnoohnmanaa
