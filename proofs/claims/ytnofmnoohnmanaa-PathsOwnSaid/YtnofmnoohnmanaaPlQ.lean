/- Places: Copy, With, Least at one place, told by the place's parts. -/
import Derived.Test.YtnofmnoohnmanaaPlN
namespace Go.Proofs.Ytnofmnoohnmanaa
open Go.RowKit
set_option linter.unusedVariables false
set_option linter.unusedSimpArgs false

/-- a row of texts of its own -/
def TxOwn (W : World) (B : Nat) (A : Option Addr) (c n : Nat) (xs : List Value) : Prop := W.ownsRow B 9 1 (.slice A n c) n xs
theorem copy_x (nm : ByteArray) (A : Option Addr) (c lx : Nat) (P : List ByteArray) (hlx : P.length = lx) (W : World) (hx : PlOk W W.heap.size ⟨nm, A, c, P⟩) (hl : lx ≤ 1000) :
    Calls Try.prog 27 #[.agg #[.string nm, .slice A lx c]] W fun r w' => ∃ A' c', r = .returned (.agg #[.string nm, .slice A' lx c']) ∧ PlOk w' w'.heap.size ⟨nm, A', c', P⟩ ∧ Below W.heap.size W w' := by
  subst hlx
  refine (copy_any ⟨nm, A, c, P⟩ W hx (Nat.le_trans hl (by omega))).mono ?_
  rintro r w' ⟨⟨nm', A', c', P'⟩, rfl, hk, hok, _, hb⟩
  cases hk
  exact ⟨A', c', rfl, hok, hb⟩
theorem with_p (nm : ByteArray) (A : Option Addr) (c lx : Nat) (P : List ByteArray) (hlx : P.length = lx) (S : List ByteArray) (A1 : Option Addr) (ls c1 : Nat) (hls : S.length = ls) (W : World) (hx : PlOk W W.heap.size ⟨nm, A, c, P⟩) (hl : lx ≤ 1000) (hs : ls ≤ 1000) (hr : Rd W W.heap.size 1 strC A1 S) (hS : ∀ s ∈ S, s.size ≤ maxLen) :
    Calls Try.prog 26 #[.agg #[.string nm, .slice A lx c], .slice A1 ls c1] W fun r w' => ∃ A' c', r = .returned (.agg #[.string nm, .slice A' (lx + ls) c']) ∧ PlOk w' w'.heap.size ⟨nm, A', c', P ++ S⟩ ∧ TxOwn w' W.heap.size A' c' (lx + ls) ((P ++ S).flatMap strC) ∧ Below W.heap.size W w' := by
  subst hlx hls
  refine (with_new ⟨nm, A, c, P⟩ S A1 S.length c1 W hx (Nat.le_trans hl (by omega)) rfl (by omega) hr hS).mono ?_
  rintro r w' ⟨⟨nm', A', c', P'⟩, rfl, hk, hok, hown, hb⟩
  cases hk
  have e : (P.append S).length = P.length + S.length := List.length_append
  dsimp only at hown ⊢
  rw [e] at hown ⊢
  exact ⟨A', c', rfl, hok, hown, hb⟩
theorem rsame_p (nm : ByteArray) (A A' : Option Addr) (c c' lx : Nat) (P : List ByteArray) (hlx : P.length = lx) (W : World) (hx : PlOk W W.heap.size ⟨nm, A, c, P⟩) (hy : PlOk W W.heap.size ⟨nm, A', c', P⟩) :
    Calls Try.prog 13 #[.agg #[.string nm, .slice A lx c], .agg #[.string nm, .slice A' lx c']] W fun r w' => r = .returned (.bool true) ∧ Below W.heap.size W w' := by
  subst hlx
  exact rsame_bool ⟨nm, A, c, P⟩ ⟨nm, A', c', P⟩ (b := true) (by rw [sameB_iff]; rfl) W hx hy
theorem least_p (nm : ByteArray) (A : Option Addr) (c lx : Nat) (P : List ByteArray) (hlx : P.length = lx) (W : World) (hx : PlOk W W.heap.size ⟨nm, A, c, P⟩) (hl : lx ≤ 1000) :
    Calls Try.prog 24 #[.slice (some ⟨W.heap.size, 0, none⟩) 1 1] (W.alloc (.cells #[.string nm, .slice A lx c] 24)) fun r w' => ∃ (gl cl : Nat) (A' : Option Addr) (c' : Nat), r = .returned (.slice (some ⟨gl, 0, none⟩) 1 cl) ∧
      w'.ownsRow W.heap.size 24 2 (.slice (some ⟨gl, 0, none⟩) 1 cl) 1 [.string nm, .slice A' lx c'] ∧ TxOwn w' (W.heap.size + 1) A' c' lx (P.flatMap strC) ∧ Below W.heap.size W w' := by
  subst hlx
  have hb1 : Below W.heap.size W (W.alloc (.cells #[.string nm, .slice A P.length c] 24)) := (Below.refl _ _).alloc (Nat.le_refl _) _
  have hrow : PlRow (W.alloc (.cells #[.string nm, .slice A P.length c] 24)) (some ⟨W.heap.size, 0, none⟩) 1 1 [⟨nm, A, c, P⟩] :=
    ⟨rfl, rd_one plC_len (Blk.new W 24 #[.string nm, .slice A P.length c]) rfl, fun x hx' => by rw [List.mem_singleton.1 hx']; exact hx.next hb1, Nat.le_refl _, by omega⟩
  refine (least_any _ 1 1 _ _ hrow (by omega) (fun x hx' => by rw [List.mem_singleton.1 hx']; exact Nat.le_trans hl (by omega))).mono ?_
  rintro r w' ⟨v, rfl, ⟨O, hown, hok, hkey⟩, hb⟩
  have hk1 : leastP [(nm, P)] [(nm, P)] = [(nm, P)] := by
    have e1 : begB (nm, P) (nm, P) = true := begB_refl _
    have e2 : sameB (nm, P) (nm, P) = true := by rw [sameB_iff]
    simp [leastP, leastStep, begun, e1, e2]
  have hkey' : O.map Pl.key = [(nm, P)] := hkey.trans hk1
  match O, hkey', hown, hok with
  | [⟨nm', A', c', P'⟩], hkey', hown, hok =>
    simp only [List.map_cons, List.map_nil, List.cons.injEq, and_true] at hkey'
    cases hkey'
    obtain ⟨gl, cl, rfl⟩ := own_succ (k := 0) hown
    refine ⟨gl, cl, A', c', rfl, own_mono hown (by simp), ?_, hb1.trans (hb.mono hb1.size)⟩
    have := (hok _ (List.mem_singleton.2 rfl)).own
    rw [World.size_alloc] at this
    exact this
end Go.Proofs.Ytnofmnoohnmanaa
