/- Counts: a script of acts, read off a slice that came in. -/
import Derived.Test.YtbekljgcbbhnbaaB
import Derived.Test.YtbekljgcbbhnbaaArgs
namespace Go.Proofs.Ytbekljgcbbhnbaa
open Go.ChangeShapes Go.WideShapes Go.RowKit

/-- an act: less?, its number, its end -/
abbrev Act3 := Bool × Int × Int
def actC (x : Act3) : List Value := [.bool x.1, .int .i64 x.2.1, .int .i64 x.2.2]
def actG (x : Act3) : Prop := (Lit.int .i64 x.2.1).wf = true ∧ (Lit.int .i64 x.2.2).wf = true
theorem cells30 : Try.prog.cellsOf 30 = 3 := by kernel_rfl
theorem cells4 : Try.prog.cellsOf 4 = 1 := by kernel_rfl

section
variable {H : Type} {enc : TypeId × Value → H} {w : World} {base : Nat} {spare : Nat → Bool} {held : Bool}
theorem read30 (n : Nat) (cs : List Value) (y : DataW H × List MemPlace) (h : DataW.trod enc Try.prog w base spare held n 30 cs = some y) : ∃ x : Act3, cs = actC x ∧ actG x := by
  obtain ⟨hlen, m, hf⟩ := read_fields Try.underlying30 h
  rw [cells30] at hlen
  match cs, hlen with
  | [c0, c1, c2], _ =>
    obtain ⟨z0, h0⟩ := hf 0 _ rfl
    obtain ⟨z1, h1⟩ := hf 1 _ rfl
    obtain ⟨z2, h2⟩ := hf 2 _ rfl
    simp [cells3, cells4] at h0 h1 h2
    obtain ⟨a0, e0⟩ := read_bool Try.underlying4 h0
    obtain ⟨a1, e1, g1⟩ := read_int Try.underlying3 h1
    obtain ⟨a2, e2, g2⟩ := read_int Try.underlying3 h2
    simp at e0 e1 e2
    exact ⟨(a0, a1, a2), by simp [actC, e0, e1, e2], g1, g2⟩
theorem open22 {r : Reach} {b0 : Nat} {v : Value} {d : DataW H} {p : List MemPlace} (hok : Value.okWide Try.prog w r b0 22 v) (h : DataW.Trod enc Try.prog w base spare held 22 v d p) :
    ∃ (A : Option Addr) (c : Nat) (L : List Act3), v = .slice A L.length c ∧ Rd w w.heap.size 3 actC A L ∧ (∀ x ∈ L, actG x) ∧ L.length ≤ c ∧ c ≤ maxLen := by
  obtain ⟨a, len, cap, rfl⟩ := okWide_slice Try.underlying22 hok
  obtain ⟨L, rfl, h1, h2, h3, h4⟩ := open_reads Try.underlying22 3 cells30 (by omega) actC (fun _ => rfl) actG read30 h
  exact ⟨a, cap, L, rfl, h1, h2, h3, h4⟩
theorem open30 {r : Reach} {b0 : Nat} {v : Value} {d : DataW H} {p : List MemPlace} (hok : Value.okWide Try.prog w r b0 30 v) (h : DataW.Trod enc Try.prog w base spare held 30 v d p) :
    ∃ x : Act3, v = .agg #[.bool x.1, .int .i64 x.2.1, .int .i64 x.2.2] ∧ actG x := by
  obtain ⟨cs, rfl, _⟩ := okWide_struct Try.underlying30 hok
  obtain ⟨n, hn⟩ := h
  obtain ⟨x, hx, hg⟩ := read30 n _ _ hn
  exact ⟨x, by congr 1; apply Array.ext'; simpa [Value.cells, actC] using hx, hg⟩
end

/-- what an act does to counts -/
def act (c : Int → Int → Int) (x : Act3) : Int → Int → Int := if x.1 then lessS c x.2.1 x.2.2 else addS c x.2.1 x.2.2

theorem Rd.act {w : World} {B : Nat} {A : Option Addr} {L : List Act3} (h : Rd w B 3 actC A L) {k : Nat} (hk : k < L.length) :
    ∃ b off l i e, L[k]? = some (l, i, e) ∧ A = some ⟨b, off, none⟩ ∧ b < B ∧ w.cell? ⟨b, off + k * 3, none⟩ = some (.bool l) ∧ w.cell? ⟨b, off + k * 3 + 1, none⟩ = some (.int .i64 i) ∧ w.cell? ⟨b, off + k * 3 + 2, none⟩ = some (.int .i64 e) := by
  obtain ⟨b, off, hA, hb, hc⟩ := h.at_ hk
  have e : L[k]? = some L[k] := List.getElem?_eq_getElem hk
  obtain ⟨l, i, x, hx⟩ : ∃ l i x, L[k] = (l, i, x) := ⟨_, _, _, rfl⟩
  rw [hx] at hc e
  exact ⟨b, off, l, i, x, e, hA, hb, by simpa using hc 0 _ rfl, hc 1 _ rfl, hc 2 _ rfl⟩

theorem less_other {c : Int → Int → Int} {i x id e : Int} (h : i ≠ id ∨ x ≠ e) : lessS c i x id e = c id e := by
  unfold lessS setC
  split
  · rfl
  · exact if_neg (by rintro ⟨rfl, rfl⟩; simp at h)
theorem add_other {c : Int → Int → Int} {i x id e : Int} (h : i ≠ id ∨ x ≠ e) : addS c i x id e = c id e := by
  unfold addS setC
  split
  · exact if_neg (by rintro ⟨rfl, rfl⟩; simp at h)
  · rfl
theorem less_yes {c : Int → Int → Int} {i x : Int} (h : c i x ≠ 0) : lessR c i x = c i x - 1 ∧ lessB c i x = true ∧ lessS c i x i x = c i x - 1 := by
  simp [lessR, lessB, lessS, h, setC]
theorem less_no {c : Int → Int → Int} {i x : Int} (h : c i x = 0) : lessR c i x = 0 ∧ lessB c i x = false ∧ lessS c i x = c := by
  simp [lessR, lessB, lessS, h]
theorem add_yes {c : Int → Int → Int} {i x : Int} (h : fineB x = true) : addR c i x = c i x + 1 ∧ addS c i x i x = c i x + 1 := by
  simp [addR, addS, h, setC]
theorem add_not {c : Int → Int → Int} {i x : Int} (h : fineB x = false) : addR c i x = 0 ∧ addS c i x = c := by
  simp [addR, addS, h]
end Go.Proofs.Ytbekljgcbbhnbaa
