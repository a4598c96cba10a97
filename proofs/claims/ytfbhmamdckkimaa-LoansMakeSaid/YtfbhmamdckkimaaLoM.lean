/- Loans: what LoansMake's walk needs beside: rows with their length named. -/
import Derived.Test.YtfbhmamdckkimaaLoS
import Derived.Test.YtfbhmamdckkimaaLoO
namespace Go.Proofs.Ytfbhmamdckkimaa
open Go.RowKit
set_option linter.unusedVariables false
set_option linter.unusedSimpArgs false

/-- a row is told, of so many loans that read so -/
def RowN (n : Nat) (Ks : List LKey) (w : World) (r : Ending) (w' : World) : Prop := ∃ (A : Option Addr) (c : Nat) (O : List Lo), r = .returned (.slice A n c) ∧ LoRow w' A n c O ∧ O.map Lo.key = Ks ∧ Below w.heap.size w w'
theorem RowIs.len {Ks : List LKey} {w w' : World} {r : Ending} {n : Nat} (hn : Ks.length = n) (h : RowIs Ks w r w') : RowN n Ks w r w' := by
  obtain ⟨A, m, c, O, rfl, hr, hk, hb⟩ := h
  obtain rfl : m = n := by rw [← hr.ln, ← hn, ← hk, List.length_map]
  exact ⟨A, c, O, rfl, hr, hk, hb⟩
def TwinN (n : Nat) (Ls : List Lo) (w : World) (r : Ending) (w' : World) : Prop := ∃ (A : Option Addr) (c : Nat), r = .returned (.slice A n c) ∧ LoRow w' A n c Ls ∧ Below w.heap.size w w'
theorem twin_row (A : Option Addr) (len c : Nat) (Ls : List Lo) (w : World) (h : LoRow w A len c Ls) :
    Calls Try.prog 14 #[.slice A len c] w (TwinN len Ls w) := by
  refine (twin_any A len c Ls w h).mono ?_
  rintro r w4 ⟨At, nt, ct, rfl, hnt, hot, h4⟩
  subst hnt
  obtain ⟨_, _, e, hrt⟩ := row_own (w := w) hot rfl (fun x hx => ((h.below h4).ok x hx)) (by rw [h.ln]; exact h.bg)
  injection e with e1 e2 e3
  subst e1 e3
  rw [h.ln] at hrt ⊢
  exact ⟨_, _, rfl, hrt, h4⟩
theorem keys_len2 {O : List Lo} {Ks : List LKey} {N : Nat} (h : O.map Lo.key = Ks) (hK : ∀ k ∈ Ks, k.1.2.length ≤ N) : ∀ x ∈ O, x.pl.path.length ≤ N := by
  intro x hx
  exact hK x.key (by rw [← h]; exact List.mem_map.2 ⟨x, hx, rfl⟩)
theorem keys_of {L : List Lo} {N : Nat} (h : ∀ x ∈ L, x.pl.path.length ≤ N) : ∀ k ∈ L.map Lo.key, k.1.2.length ≤ N := by
  intro k hk
  obtain ⟨x, hx, rfl⟩ := List.mem_map.1 hk
  exact h x hx
/-- the loan's own cells, and the world since -/
def OldL (w0 W : World) : Prop := Below w0.heap.size w0 W
def Sl (w0 : World) (g : Nat) (x : Lo) (W : World) : Prop := W.cell? ⟨g, 0, none⟩ = some (.string x.pl.name) ∧ W.cell? ⟨g, 1, none⟩ = some (.slice x.pl.pa x.pl.path.length x.pl.pc) ∧ W.cell? ⟨g, 2, none⟩ = some (.bool x.alone) ∧ W.cell? ⟨g, 3, none⟩ = some (.int .i64 x.till) ∧ OldL w0 W
theorem Sl.old {w0 W : World} {g : Nat} {x : Lo} (h : Sl w0 g x W) : Below w0.heap.size w0 W := h.2.2.2.2
theorem Sl.step {w0 W W' : World} {g : Nat} {x : Lo} (hg : g < w0.heap.size) (h : Sl w0 g x W) (hb : Below W.heap.size W W') : Sl w0 g x W' := by
  obtain ⟨h1, h2, h3, h4, h5⟩ := h
  have hs := Below.size h5
  exact ⟨cell_of_below hb (by omega) h1, cell_of_below hb (by omega) h2, cell_of_below hb (by omega) h3, cell_of_below hb (by omega) h4, Below.trans h5 (hb.mono hs)⟩
/-- a row of the document's loans that lies where nothing is spoilt -/
theorem was_row {N B1 B2 : Nat} {W W' : World} {A : Option Addr} {c n : Nat} {O : List Lo} (hs : Spoilt N W W') (h1 : N ≤ B1) (h2 : N ≤ B2) (hrow : W.ownsRow B1 37 4 (.slice A n c) n (O.flatMap loC)) (hO : O.length = n) (hn : n ≤ 1000000) (hy : ∀ y ∈ O, LoOwn W B2 y) : LoRow W' A n c O := by
  have h := hs.far _ _ _ _ _ _ h1 hrow
  obtain ⟨A', c', e, hr⟩ := row_own (w := W') h hO (fun y hy' => (hs.own h2 (hy y hy')).ok) hn
  injection e with e1 e2 e3
  subst e1 e3
  exact hr
theorem spoil_nx (A : Option Addr) (len c B : Nat) (O : List Lo) (N : Nat) (w w0 : World) (hO : O.length = len) (hl : len ≤ 1000) (hsp : SpRow w B A c len O) (hlt : LtRow N A O) (hpl : ∀ y ∈ O, y.pl.path.length ≤ 1000000) (hsp0 : Spoilt N w0 w) (B0 : Nat) (hB0 : B0 ≤ B) (hb0 : Below B0 w0 w) :
    Calls Try.prog 24 #[.slice A len c] w fun r w' => r = .returned (.tuple #[]) ∧ Below B0 w0 w' ∧ Spoilt N w0 w' := by
  refine (spoil_any A len c B O w hO hl hsp N hlt hpl).mono ?_
  rintro r w' ⟨rfl, h1, h2, h3⟩
  exact ⟨rfl, hb0.trans (h1.mono hB0), hsp0.trans h3⟩
end Go.Proofs.Ytfbhmamdckkimaa
