/- Locks: arguments opened: an act, acts, ints, bools. -/
import Derived.Test.YthbajgpoldajmaaD
import Derived.Test.YthbajgpoldajmaaArgs
namespace Go.Proofs.Ythbajgpoldajmaa
open Go.ChangeShapes Go.WideShapes Go.RowKit
set_option linter.unusedVariables false

def intC (x : Int) : List Value := [.int .i64 x]
def boolC (x : Bool) : List Value := [.bool x]
theorem cells23 : Try.prog.cellsOf 23 = 4 := by kernel_rfl
theorem cells4 : Try.prog.cellsOf 4 = 1 := by kernel_rfl
theorem cells3 : Try.prog.cellsOf 3 = 1 := by kernel_rfl

section
variable {H : Type} {enc : TypeId × Value → H} {w : World} {base : Nat} {spare : Nat → Bool} {held : Bool}
theorem read23 (n : Nat) (cs : List Value) (y : DataW H × List MemPlace) (h : DataW.trod enc Try.prog w base spare held n 23 cs = some y) : ∃ x : Acte, cs = actC x ∧ x.wf := by
  obtain ⟨hlen, m, hf⟩ := read_fields Try.underlying23 h
  rw [cells23] at hlen
  match cs, hlen with
  | [c0, c1, c2, c3], _ =>
    obtain ⟨z0, h0⟩ := hf 0 _ rfl
    obtain ⟨z1, h1⟩ := hf 1 _ rfl
    obtain ⟨z2, h2⟩ := hf 2 _ rfl
    obtain ⟨z3, h3⟩ := hf 3 _ rfl
    simp [cells3, cells4] at h0 h1 h2 h3
    obtain ⟨a0, e0, g0⟩ := read_int Try.underlying3 h0
    obtain ⟨a1, e1, g1⟩ := read_int Try.underlying3 h1
    obtain ⟨a2, e2, g2⟩ := read_int Try.underlying3 h2
    obtain ⟨a3, e3⟩ := read_bool Try.underlying4 h3
    simp at e0 e1 e2 e3
    exact ⟨⟨a0, a1, a2, a3⟩, by simp [actC, e0, e1, e2, e3], g0, g1, g2⟩
theorem open36 {r : Reach} {b0 : Nat} {v : Value} {d : DataW H} {p : List MemPlace} (hok : Value.okWide Try.prog w r b0 36 v) (h : DataW.Trod enc Try.prog w base spare held 36 v d p) :
    ∃ (A : Option Addr) (c : Nat) (L : List Acte), v = .slice A L.length c ∧ Rd w w.heap.size 4 actC A L ∧ (∀ x ∈ L, x.wf) ∧ L.length ≤ c ∧ c ≤ maxLen := by
  obtain ⟨a, len, cap, rfl⟩ := okWide_slice Try.underlying36 hok
  obtain ⟨L, rfl, h1, h2, h3, h4⟩ := open_reads Try.underlying36 4 cells23 (by omega) actC (fun _ => rfl) Acte.wf read23 h
  exact ⟨a, cap, L, rfl, h1, h2, h3, h4⟩
theorem open23 {r : Reach} {b0 : Nat} {v : Value} {d : DataW H} {p : List MemPlace} (hok : Value.okWide Try.prog w r b0 23 v) (h : DataW.Trod enc Try.prog w base spare held 23 v d p) :
    ∃ x : Acte, v = .agg #[.int .i64 x.kind, .int .i64 x.id, .int .i64 x.thread, .bool x.poison] ∧ x.wf := by
  obtain ⟨cs, rfl, _⟩ := okWide_struct Try.underlying23 hok
  obtain ⟨n, hn⟩ := h
  obtain ⟨x, hx, hg⟩ := read23 n _ _ hn
  exact ⟨x, by congr 1; apply Array.ext'; simpa [Value.cells, actC] using hx, hg⟩
theorem open47 {r : Reach} {b0 : Nat} {v : Value} {d : DataW H} {p : List MemPlace} (hok : Value.okWide Try.prog w r b0 47 v) (h : DataW.Trod enc Try.prog w base spare held 47 v d p) :
    ∃ (A : Option Addr) (c : Nat) (L : List Int), v = .slice A L.length c ∧ Rd w w.heap.size 1 intC A L ∧ (∀ x ∈ L, (Lit.int .i64 x).wf = true) ∧ L.length ≤ c ∧ c ≤ maxLen := by
  obtain ⟨a, len, cap, rfl⟩ := okWide_slice Try.underlying47 hok
  obtain ⟨L, rfl, h1, h2, h3, h4⟩ := open_reads Try.underlying47 1 cells3 (by omega) intC (fun _ => rfl) (fun x => (Lit.int .i64 x).wf = true) (fun n cs y hy => read_int Try.underlying3 hy) h
  exact ⟨a, cap, L, rfl, h1, h2, h3, h4⟩
theorem open48 {r : Reach} {b0 : Nat} {v : Value} {d : DataW H} {p : List MemPlace} (hok : Value.okWide Try.prog w r b0 48 v) (h : DataW.Trod enc Try.prog w base spare held 48 v d p) :
    ∃ (A : Option Addr) (c : Nat) (L : List Bool), v = .slice A L.length c ∧ Rd w w.heap.size 1 boolC A L ∧ L.length ≤ c ∧ c ≤ maxLen := by
  obtain ⟨a, len, cap, rfl⟩ := okWide_slice Try.underlying48 hok
  obtain ⟨L, rfl, h1, h2, h3, h4⟩ := open_reads Try.underlying48 1 cells4 (by omega) boolC (fun _ => rfl) (fun _ => True) (fun n cs y hy => by obtain ⟨a, e⟩ := read_bool Try.underlying4 hy; exact ⟨a, e, trivial⟩) h
  exact ⟨a, cap, L, rfl, h1, h3, h4⟩
end
theorem Rd.int {w : World} {B : Nat} {A : Option Addr} {L : List Int} (h : Rd w B 1 intC A L) {k : Nat} (hk : k < L.length) :
    ∃ b off x, L[k]? = some x ∧ A = some ⟨b, off, none⟩ ∧ b < B ∧ w.cell? ⟨b, off + k, none⟩ = some (.int .i64 x) := by
  obtain ⟨b, off, hA, hb, hc⟩ := h.at_ hk
  exact ⟨b, off, L[k], List.getElem?_eq_getElem hk, hA, hb, by simpa using hc 0 _ rfl⟩
theorem Rd.bool {w : World} {B : Nat} {A : Option Addr} {L : List Bool} (h : Rd w B 1 boolC A L) {k : Nat} (hk : k < L.length) :
    ∃ b off x, L[k]? = some x ∧ A = some ⟨b, off, none⟩ ∧ b < B ∧ w.cell? ⟨b, off + k, none⟩ = some (.bool x) := by
  obtain ⟨b, off, hA, hb, hc⟩ := h.at_ hk
  exact ⟨b, off, L[k], List.getElem?_eq_getElem hk, hA, hb, by simpa using hc 0 _ rfl⟩
theorem Rd.acte {w : World} {B : Nat} {A : Option Addr} {L : List Acte} (h : Rd w B 4 actC A L) {k : Nat} (hk : k < L.length) :
    ∃ b off a, L[k]? = some a ∧ A = some ⟨b, off, none⟩ ∧ b < B ∧ w.cell? ⟨b, off + k * 4, none⟩ = some (.int .i64 a.kind) ∧ w.cell? ⟨b, off + k * 4 + 1, none⟩ = some (.int .i64 a.id) ∧ w.cell? ⟨b, off + k * 4 + 2, none⟩ = some (.int .i64 a.thread) ∧ w.cell? ⟨b, off + k * 4 + 3, none⟩ = some (.bool a.poison) := by
  obtain ⟨b, off, hA, hb, hc⟩ := h.at_ hk
  exact ⟨b, off, L[k], List.getElem?_eq_getElem hk, hA, hb, by simpa using hc 0 _ rfl, hc 1 _ rfl, hc 2 _ rfl, hc 3 _ rfl⟩
end Go.Proofs.Ythbajgpoldajmaa
