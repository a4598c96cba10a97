/- Places: With as a new place, in memory of its own; arguments opened. -/
import Derived.Test.YtfbhmamdckkimaaPlC
namespace Go.Proofs.Ytfbhmamdckkimaa
open Go.ChangeShapes Go.WideShapes Go.RowKit
set_option linter.unusedVariables false
set_option linter.unusedSimpArgs false

/-- a new place is told -/
def PlNew (w : World) (nm : ByteArray) (L : List ByteArray) (r : Ending) (w' : World) : Prop :=
  ∃ y : Pl, r = .returned (.agg #[.string y.name, .slice y.pa y.path.length y.pc]) ∧ y.key = (nm, L) ∧ PlOk w' w'.heap.size y ∧
    w'.ownsRow w.heap.size 9 1 (.slice y.pa y.path.length y.pc) y.path.length (y.path.flatMap strC) ∧ Below w.heap.size w w'
theorem with_new (x : Pl) (S : List ByteArray) (A : Option Addr) (ls cs : Nat) (w : World) (hx : PlOk w w.heap.size x) (hl : x.path.length ≤ 1000000) (hls : S.length = ls) (hs : ls ≤ 1000000) (hr : Rd w w.heap.size 1 strC A S) (hS : ∀ s ∈ S, s.size ≤ maxLen) :
    Calls Try.prog 25 #[.agg #[.string x.name, .slice x.pa x.path.length x.pc], .slice A ls cs] w (PlNew w x.name (x.path ++ S)) := by
  refine (with_any x S A ls cs w hx hl hls hs hr).mono ?_
  rintro r w' ⟨v, rfl, hown, hb⟩
  obtain ⟨A2, c2, rfl, hrd, h1, h2⟩ := own_rd strC_len hown
  refine ⟨⟨x.name, A2, c2, x.path ++ S⟩, rfl, rfl, ⟨hrd, hx.wn, ?_, h1, h2⟩, hown, hb⟩
  intro s hs'
  rcases List.mem_append.1 hs' with h | h
  · exact hx.wp s h
  · exact hS s h

theorem rsame_bool (x y : Pl) {b : Bool} (hb : sameB x.key y.key = b) (w : World) (hx : PlOk w w.heap.size x) (hy : PlOk w w.heap.size y) :
    Calls Try.prog 37 #[.agg #[.string x.name, .slice x.pa x.path.length x.pc], .agg #[.string y.name, .slice y.pa y.path.length y.pc]] w fun r w' => r = .returned (.bool b) ∧ Below w.heap.size w w' := by
  subst hb; exact rsame_any x y w hx hy
theorem same_bool (x y : Pl) {b : Bool} (hb : sameB x.key y.key = b) (w : World) (hx : PlOk w w.heap.size x) (hy : PlOk w w.heap.size y) :
    Calls Try.prog 45 #[.agg #[.string x.name, .slice x.pa x.path.length x.pc], .agg #[.string y.name, .slice y.pa y.path.length y.pc]] w fun r w' => r = .returned (.bool b) ∧ Below w.heap.size w w' := by
  subst hb; exact same_any x y w hx hy

/-- a place in memory of its own -/
structure PlOwn (w : World) (B : Nat) (y : Pl) : Prop where
  own : w.ownsRow B 9 1 (.slice y.pa y.path.length y.pc) y.path.length (y.path.flatMap strC)
  wn : y.name.size ≤ maxLen
  wp : ∀ s ∈ y.path, s.size ≤ maxLen
theorem PlOwn.ok {w : World} {B : Nat} {y : Pl} (h : PlOwn w B y) : PlOk w w.heap.size y := by
  obtain ⟨A2, c2, e, hrd, h1, h2⟩ := own_rd strC_len h.own
  injection e with e1 e2 e3
  subst e1 e3
  exact ⟨hrd, h.wn, h.wp, h1, h2⟩
theorem grown_of_below {w w' : World} (h : Below w.heap.size w w') (row : Option Nat) : w.grownBy w' row := ⟨h.os, h.tape, h.output, h.size, fun k hk _ => h.block k hk⟩
theorem own_below {w w' : World} {B : Nat} {e : TypeId} {s n : Nat} {v : Value} {xs : List Value} (h : w.ownsRow B e s v n xs) (hb : Below w.heap.size w w') : w'.ownsRow B e s v n xs :=
  h.kept (row := none) (grown_of_below hb none) (by
    cases hv : v.ownBlock with
    | none => exact .inl rfl
    | some _ => exact .inr (by simp))
theorem PlOwn.below {w w' : World} {B : Nat} {y : Pl} (h : PlOwn w B y) (hb : Below w.heap.size w w') : PlOwn w' B y :=
  ⟨h.own.kept (row := none) (grown_of_below hb none) (by
    cases hv : (Value.slice y.pa y.path.length y.pc).ownBlock with
    | none => exact .inl rfl
    | some _ => exact .inr (by simp)), h.wn, h.wp⟩
theorem PlOwn.less {w : World} {B B' : Nat} {y : Pl} (h : PlOwn w B y) (hb : B' ≤ B) : PlOwn w B' y := ⟨own_mono h.own hb, h.wn, h.wp⟩
theorem own_ne {w : World} {B B' : Nat} {e e' : TypeId} {s s' n n' : Nat} {v v' : Value} {xs xs' : List Value} (h : w.ownsRow B e s v n xs) (h' : w.ownsRow B' e' s' v' n' xs') (hne : e ≠ e') : v.ownBlock = none ∨ v.ownBlock ≠ v'.ownBlock := by
  rcases h.2 with ⟨rfl, _⟩ | ⟨g, cap, cur, rfl, _, hh, _⟩
  · exact .inl rfl
  · right
    rcases h'.2 with ⟨rfl, _⟩ | ⟨g', cap', cur', rfl, _, hh', _⟩
    · simp [Value.ownBlock]
    · intro e1
      have e2 : g = g' := by simpa [Value.ownBlock] using e1
      subst e2
      rw [hh] at hh'
      injection hh' with hh'
      injection hh' with _ ht
      exact hne ht
theorem PlOwn.grown {w w' : World} {B B' n s : Nat} {y : Pl} {v : Value} {xs : List Value} {e' : TypeId} (h : PlOwn w B y) (ho : w.ownsRow B' e' s v n xs) (hne : 9 ≠ e') (hg : w.grownBy w' v.ownBlock) : PlOwn w' B y :=
  ⟨h.own.kept hg (own_ne h.own ho hne), h.wn, h.wp⟩
theorem rd_one {α : Type} {W : World} {g : Nat} {e : TypeId} {size : Nat} {cells : α → List Value} {x : α} (hlen : ∀ x, (cells x).length = size) {cs : Array Value} (h : Blk W g e cs) (hcs : cs.toList = cells x) : Rd W W.heap.size size cells (some ⟨g, 0, none⟩) [x] := by
  refine .inr ⟨g, 0, rfl, h.lt, fun i y hy j u hu => ?_⟩
  rcases i with _ | i
  · simp at hy
    subst hy
    rw [h.cell, ← Array.getElem?_toList, hcs, Nat.zero_mul, Nat.zero_add]
    exact hu
  · simp at hy

theorem rd_blk {α : Type} {W : World} {g : Nat} {e : TypeId} {size : Nat} {cells : α → List Value} (hlen : ∀ x, (cells x).length = size) {cs : Array Value} {L : List α} (h : Blk W g e cs) (hcs : cs.toList = L.flatMap cells) : Rd W W.heap.size size cells (some ⟨g, 0, none⟩) L := by
  refine .inr ⟨g, 0, rfl, h.lt, fun i y hy j u hu => ?_⟩
  rw [h.cell, ← Array.getElem?_toList, hcs, Nat.zero_add]
  exact flat_at hlen L i y hy j u hu
theorem cellsP : Try.prog.cellsOf 25 = 2 := by kernel_rfl
theorem cellsSs : Try.prog.cellsOf 23 = 1 := by kernel_rfl
theorem cellsS : Try.prog.cellsOf 9 = 1 := by kernel_rfl
section
variable {H : Type} {enc : TypeId × Value → H} {w : World} {base : Nat} {spare : Nat → Bool} {held : Bool}
theorem readP (n : Nat) (cs : List Value) (y : DataW H × List MemPlace) (h : DataW.trod enc Try.prog w base spare held n 25 cs = some y) : ∃ x : Pl, cs = plC x ∧ PlOk w w.heap.size x := by
  obtain ⟨hlen, m, hf⟩ := read_fields Try.underlying25 h
  rw [cellsP] at hlen
  match cs, hlen with
  | [c0, c1], _ =>
    obtain ⟨z0, h0⟩ := hf 0 _ rfl
    obtain ⟨z1, h1⟩ := hf 1 _ rfl
    simp [cellsS, cellsSs] at h0 h1
    obtain ⟨a0, e0, g0⟩ := read_string Try.underlying9 h0
    obtain ⟨a, len, cap, e3, h4⟩ := read_slice Try.underlying23 h1
    obtain ⟨P, rfl, k1, k2, k3, k4⟩ := open_reads Try.underlying23 1 cellsS (by omega) strC strC_len (fun s => s.size ≤ maxLen) (fun n cs y hy => read_string Try.underlying9 hy) h4
    simp at e0 e3
    exact ⟨⟨a0, a, cap, P⟩, by simp [plC, e0, e3], k1, g0, k2, k3, k4⟩
theorem openP {r : Reach} {b0 : Nat} {v : Value} {d : DataW H} {p : List MemPlace} (hok : Value.okWide Try.prog w r b0 25 v) (h : DataW.Trod enc Try.prog w base spare held 25 v d p) :
    ∃ x : Pl, v = .agg #[.string x.name, .slice x.pa x.path.length x.pc] ∧ PlOk w w.heap.size x := by
  obtain ⟨cs, rfl, _⟩ := WideShapes.okWide_struct Try.underlying25 hok
  obtain ⟨n, hn⟩ := h
  obtain ⟨x, hx, hg⟩ := readP n _ _ hn
  exact ⟨x, by congr 1; apply Array.ext'; simpa [Value.cells, plC] using hx, hg⟩
theorem openSs {r : Reach} {b0 : Nat} {v : Value} {d : DataW H} {p : List MemPlace} (hok : Value.okWide Try.prog w r b0 23 v) (h : DataW.Trod enc Try.prog w base spare held 23 v d p) :
    ∃ (A : Option Addr) (c : Nat) (L : List ByteArray), v = .slice A L.length c ∧ Rd w w.heap.size 1 strC A L ∧ (∀ s ∈ L, s.size ≤ maxLen) ∧ L.length ≤ c ∧ c ≤ maxLen := by
  obtain ⟨a, len, cap, rfl⟩ := okWide_slice Try.underlying23 hok
  obtain ⟨L, rfl, h1, h2, h3, h4⟩ := open_reads Try.underlying23 1 cellsS (by omega) strC strC_len (fun s => s.size ≤ maxLen) (fun n cs y hy => read_string Try.underlying9 hy) h
  exact ⟨a, cap, L, rfl, h1, h2, h3, h4⟩
end

/-- the two cells of a box -/
theorem bx0 {w : World} {g : Nat} {t : TypeId} {a b : Value} (h : Blk w g t #[a, b]) : w.cell? ⟨g, 0, none⟩ = some a := h.cell 0
theorem bx1 {w : World} {g : Nat} {t : TypeId} {a b : Value} (h : Blk w g t #[a, b]) : w.cell? ⟨g, 1, none⟩ = some b := h.cell 1
theorem long_bool (x : Pl) {b : Bool} (hb : longB x = b) (w : World) (hx : PlOk w w.heap.size x) :
    Calls Try.prog 11 #[.agg #[.string x.name, .slice x.pa x.path.length x.pc]] w fun r w' => r = .returned (.bool b) ∧ Below w.heap.size w w' := by
  subst hb; exact long_any x w hx
theorem rmeets_bool (x y : Pl) {b : Bool} (hb : meetB x.key y.key = b) (w : World) (hx : PlOk w w.heap.size x) (hy : PlOk w w.heap.size y) :
    Calls Try.prog 31 #[.agg #[.string x.name, .slice x.pa x.path.length x.pc], .agg #[.string y.name, .slice y.pa y.path.length y.pc]] w fun r w' => r = .returned (.bool b) ∧ Below w.heap.size w w' := by
  subst hb; exact rmeets_any x y w hx hy
theorem meets_bool (x y : Pl) {b : Bool} (hb : meetB x.key y.key = b) (w : World) (hx : PlOk w w.heap.size x) (hy : PlOk w w.heap.size y) :
    Calls Try.prog 26 #[.agg #[.string x.name, .slice x.pa x.path.length x.pc], .agg #[.string y.name, .slice y.pa y.path.length y.pc]] w fun r w' => r = .returned (.bool b) ∧ Below w.heap.size w w' := by
  subst hb; exact meets_any x y w hx hy
end Go.Proofs.Ytfbhmamdckkimaa
