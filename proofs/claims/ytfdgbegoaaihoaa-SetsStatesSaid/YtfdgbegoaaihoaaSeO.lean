/- Sets: arguments opened: some names, a state. -/
import Derived.Test.YtfdgbegoaaihoaaSeE
namespace Go.Proofs.Ytfdgbegoaaihoaa
open Go.ChangeShapes Go.WideShapes Go.RowKit
set_option linter.unusedVariables false

theorem cellsSs : Try.prog.cellsOf 22 = 1 := by kernel_rfl
theorem cellsS : Try.prog.cellsOf 9 = 1 := by kernel_rfl
theorem cellsB : Try.prog.cellsOf 4 = 1 := by kernel_rfl
theorem cellsSt : Try.prog.cellsOf 29 = 2 := by kernel_rfl
theorem enc_of (a : ByteArray) : enc a.data.toList = a := by cases a; simp [enc]
section
variable {H : Type} {enc0 : TypeId × Value → H} {w : World} {base : Nat} {spare : Nat → Bool} {held : Bool}
theorem readBs (n : Nat) (cs : List Value) (y : DataW H × List MemPlace) (h : DataW.trod enc0 Try.prog w base spare held n 9 cs = some y) : ∃ s : Bs, cs = sC s ∧ s.length ≤ maxLen := by
  obtain ⟨a, e, g⟩ := read_string Try.underlying9 h
  exact ⟨a.data.toList, by rw [e]; unfold sC; rw [enc_of], by rw [Array.length_toList]; exact g⟩
theorem openSs {r : Reach} {b0 : Nat} {v : Value} {d : DataW H} {p : List MemPlace} (hok : Value.okWide Try.prog w r b0 22 v) (h : DataW.Trod enc0 Try.prog w base spare held 22 v d p) :
    ∃ (x : Nm) (n : Nat), v = .slice x.pa n x.pc ∧ NmOk w x n ∧ (∀ s ∈ x.row, s.length ≤ maxLen) := by
  obtain ⟨a, len, cap, rfl⟩ := okWide_slice Try.underlying22 hok
  obtain ⟨L, hl, h1, h2, h3, h4⟩ := open_reads Try.underlying22 1 cellsSs (by omega) sC sC_len (fun s => s.length ≤ maxLen) readBs h
  exact ⟨⟨a, cap, L⟩, len, rfl, ⟨h1, by first | exact hl | exact hl.symm, by rw [hl] at *; exact h3, h4⟩, h2⟩
theorem openSt {r : Reach} {b0 : Nat} {v : Value} {d : DataW H} {p : List MemPlace} (hok : Value.okWide Try.prog w r b0 29 v) (h : DataW.Trod enc0 Try.prog w base spare held 29 v d p) :
    ∃ (ad : Bool) (x : Nm) (n : Nat), v = .agg #[.bool ad, .slice x.pa n x.pc] ∧ NmOk w x n ∧ (∀ s ∈ x.row, s.length ≤ maxLen) := by
  obtain ⟨cs, rfl, _⟩ := WideShapes.okWide_struct Try.underlying29 hok
  obtain ⟨n, hn⟩ := h
  obtain ⟨hlen, m, hf⟩ := read_fields Try.underlying29 hn
  rw [cellsSt] at hlen
  match hcs : (Value.agg cs).cells.toList, hlen with
  | [c0, c1], _ =>
    rw [hcs] at hf
    obtain ⟨z0, h0⟩ := hf 0 _ rfl
    obtain ⟨z1, h1⟩ := hf 1 _ rfl
    simp [cellsB, cellsSs] at h0 h1
    obtain ⟨ad, ha⟩ := read_bool Try.underlying4 h0
    obtain ⟨a, len, cap, e3, h4⟩ := read_slice Try.underlying22 h1
    obtain ⟨L, hl, k1, k2, k3, k4⟩ := open_reads Try.underlying22 1 cellsSs (by omega) sC sC_len (fun s => s.length ≤ maxLen) readBs h4
    simp at ha e3
    subst ha e3
    refine ⟨ad, ⟨a, cap, L⟩, len, ?_, ⟨k1, by first | exact hl | exact hl.symm, by rw [hl] at *; exact k3, k4⟩, k2⟩
    congr 1
    apply Array.ext'
    simpa [Value.cells] using hcs
end
/-- a row that isn't too long -/
theorem short_row {x : Nm} {n : Nat} {w : World} (h : NmOk w x n) (hm : manyB x.row = false) : n ≤ 60 := by
  have h1 := manyB_no hm
  rw [h.ln] at h1
  exact h1
end Go.Proofs.Ytfdgbegoaaihoaa
