/- Race: events, and the contracts of a trace's path and does. -/
import Derived.Test.YtpcjcmbhoglnfaaR
namespace Go.Proofs.Ytpcjcmbhoglnfaa
open Go.RowKit
set_option linter.unusedVariables false
set_option linter.unusedSimpArgs false

structure Ev where
  kind : Int
  thread : Int
  id : Int
  pa : Option Addr
  pc : Nat
  path : List Int
instance : Inhabited Ev := ⟨⟨0, 0, 0, none, 0, []⟩⟩
def evC (x : Ev) : List Value := [.int .u8 x.kind, .int .i64 x.thread, .int .i64 x.id, .slice x.pa x.path.length x.pc]
theorem evC_len (x : Ev) : (evC x).length = 4 := rfl
structure EvOk (w : World) (B : Nat) (x : Ev) : Prop where
  wk : (Lit.int .u8 x.kind).wf = true
  wt : (Lit.int .i64 x.thread).wf = true
  wi : (Lit.int .i64 x.id).wf = true
  rd : Rd w B 1 intC x.pa x.path
  wp : ∀ n ∈ x.path, (Lit.int .i64 n).wf = true
  cap : x.path.length ≤ x.pc
  big : x.pc ≤ maxLen
theorem EvOk.below {w w' : World} {B : Nat} {x : Ev} (h : EvOk w B x) (hb : Below B w w') : EvOk w' B x := ⟨h.wk, h.wt, h.wi, h.rd.below hb, h.wp, h.cap, h.big⟩
theorem EvOk.more {w : World} {B B' : Nat} {x : Ev} (h : EvOk w B x) (hb : B ≤ B') : EvOk w B' x := ⟨h.wk, h.wt, h.wi, h.rd.more hb, h.wp, h.cap, h.big⟩

/-! ### paths -/
def pathOk (p : List Int) : Bool := decide (p.length ≤ 40) && p.all (fun n => decide (-1 ≤ n))
theorem path1_any (n : Int) (w : World) : Calls Try.prog 53 #[.int .i64 n] w fun r w' => r = .returned (.bool (decide (n < -1))) ∧ w = w' := by
  go_enter Try.func53, Try.ntmps53
  go_wp2
  go_ret
  exact ⟨rfl, rfl⟩
set_option maxHeartbeats 800000 in
theorem idx_any (A : Option Addr) (len c B : Nat) (P : List Int) (w : World) (hl : P.length = len) (hN : len ≤ 1000000) (h : Rd w B 1 intC A P) :
    Calls Try.prog 54 #[.slice A len c, .func (.func 53) #[] #[]] w fun r w' => (∃ z : Int, r = .returned (.int .i64 z) ∧ (decide (0 ≤ z) = !P.all (fun n => decide (-1 ≤ n)))) ∧ w = w' := by
  have HL := Lib.hid hl
  have H := Lib.hid h
  clear hl h
  go_enter Try.func54, Try.ntmps54
  go_wp2
  go_loop [8] (fun i => ∃ k : Nat, k ≤ len ∧ i = .int .i64 k ∧ ∀ (q : Nat) (y : Int), q < k → P[q]? = some y → -1 ≤ y) (fun i => len - (intOf i).toNat)
  case atStart => exact ⟨0, by omega, rfl, fun q y hq => by omega⟩
  case round =>
    obtain ⟨k, hk, rfl, hall⟩ := hrel
    have HA := Lib.hid hall
    clear hall
    by_cases hlt : k < len
    · obtain ⟨b, off, y, hy, rfl, hb, hc⟩ := H.out.int (k := k) (by rw [HL.out]; exact hlt)
      have hki : (k : Int) < (len : Int) := by omega
      by_cases hy1 : y < -1
      · have hp1 : Calls Try.prog 53 #[.int .i64 y] w fun r w' => r = .returned (.bool true) ∧ w = w' := by
          have := path1_any y w; rwa [decide_eq_true hy1] at this
        have hno : (P.all (fun n => decide (-1 ≤ n))) = false := by
          rw [Bool.eq_false_iff]; intro ht
          have := List.all_eq_true.1 ht y (List.mem_of_getElem? hy)
          simp at this; omega
        have HN := Lib.hid hno
        have HP := Lib.hid hp1
        clear hno hy hy1 hp1
        go_wp2_with (go_at_call 53; refine HP.out.mono ?_; rintro r w' ⟨rfl, rfl⟩)
        go_ret
        exact ⟨⟨_, rfl, by rw [HN.out]; simp⟩, rfl⟩
      · have hp1 : Calls Try.prog 53 #[.int .i64 y] w fun r w' => r = .returned (.bool false) ∧ w = w' := by
          have := path1_any y w; rwa [decide_eq_false hy1] at this
        have hnx : ∀ (q : Nat) (z : Int), q < k + 1 → P[q]? = some z → -1 ≤ z := by
          intro q z hq hz
          rcases Nat.lt_or_ge q k with h1 | h1
          · exact HA.out q z h1 hz
          · obtain rfl : q = k := by omega
            rw [hy] at hz; cases hz; omega
        have HN := Lib.hid hnx
        have HP := Lib.hid hp1
        clear hnx hy hy1 hp1
        go_wp2_with (go_at_call 53; refine HP.out.mono ?_; rintro r w' ⟨rfl, rfl⟩)
        go_round
        case rel => exact ⟨k + 1, by omega, by go_num, HN.out⟩
        case measure => simp [intOf] <;> omega
    · obtain rfl : k = len := by omega
      have hyes : (P.all (fun n => decide (-1 ≤ n))) = true := by
        refine List.all_eq_true.2 fun y hy => ?_
        obtain ⟨q, hq⟩ := List.mem_iff_getElem?.1 hy
        have hql := (List.getElem?_eq_some_iff.1 hq).1
        simpa using HA.out q y (by rw [← HL.out]; exact hql) hq
      have HY := Lib.hid hyes
      clear hyes
      go_wp2
      go_ret
      exact ⟨⟨_, rfl, by rw [HY.out]; rfl⟩, rfl⟩
theorem has_any (A : Option Addr) (len c B : Nat) (P : List Int) (w : World) (hl : P.length = len) (hN : len ≤ 1000000) (h : Rd w B 1 intC A P) :
    Calls Try.prog 52 #[.slice A len c, .func (.func 53) #[] #[]] w fun r w' => r = .returned (.bool (!P.all (fun n => decide (-1 ≤ n)))) ∧ w = w' := by
  have hi := idx_any A len c B P w hl hN h
  obtain ⟨b, hb⟩ : ∃ b, b = !P.all (fun n => decide (-1 ≤ n)) := ⟨_, rfl⟩
  rw [← hb] at hi ⊢
  clear hb h hl
  go_enter Try.func52, Try.ntmps52
  go_wp2_with fail
  refine hi.mono ?_
  rintro r w' ⟨⟨z, rfl, hz⟩, rfl⟩
  have HZ := Lib.hid hz
  clear hz hi
  go_wp2
  go_ret
  exact ⟨by rw [← HZ.out]; rfl, rfl⟩
theorem path_any (A : Option Addr) (len c B : Nat) (P : List Int) (w : World) (hl : P.length = len) (hm : len ≤ maxLen) (h : Rd w B 1 intC A P) :
    Calls Try.prog 51 #[.slice A len c] w fun r w' => r = .returned (.bool (pathOk P)) ∧ w = w' := by
  unfold maxLen at hm
  by_cases h40 : len ≤ 40
  · have hp : pathOk P = !(!P.all (fun n => decide (-1 ≤ n))) := by unfold pathOk; rw [hl]; simp [h40]
    have hh := has_any A len c B P w hl (by omega) h
    obtain ⟨b, hb⟩ : ∃ b, b = !P.all (fun n => decide (-1 ≤ n)) := ⟨_, rfl⟩
    rw [← hb] at hh hp
    have h4 : (len : Int) ≤ 40 := by omega
    rw [hp]
    clear hp hb hl h h40
    cases b
    all_goals
      go_enter Try.func51, Try.ntmps51
      go_wp2_with fail
      refine hh.mono ?_
      rintro r w' ⟨rfl, rfl⟩
      go_wp2
      go_ret
      exact ⟨rfl, rfl⟩
  · have hp : pathOk P = false := by unfold pathOk; rw [hl]; simp [h40]
    have h4 : decide ((len : Int) ≤ 40) = false := by simp; omega
    rw [hp]
    clear hp hl h h40
    go_enter Try.func51, Try.ntmps51
    go_wp2
    go_ret
    exact ⟨rfl, rfl⟩

/-! ### the state of a trace: which threads have ended -/
def TS (w : World) (B gs : Nat) (E : List Bool) : Prop := B ≤ gs ∧ ∃ v, Blk w gs 71 #[v] ∧ w.ownsRow B 4 1 v E.length (E.map Value.bool)
theorem TS.lt {w : World} {B gs : Nat} {E : List Bool} (h : TS w B gs E) : gs < w.heap.size := by obtain ⟨_, v, hb, _⟩ := h; exact hb.lt
theorem TS.below {w w' : World} {B gs : Nat} {E : List Bool} (h : TS w B gs E) (hb : Below w.heap.size w w') : TS w' B gs E := by
  obtain ⟨hB, v, hbk, hown⟩ := h
  refine ⟨hB, v, hbk.below hb hbk.lt, hown.kept (row := none) ⟨hb.os, hb.tape, hb.output, hb.size, fun i hi _ => hb.block i hi⟩ ?_⟩
  cases e : v.ownBlock with
  | none => exact .inl rfl
  | some g => exact .inr (by simp)
theorem TS.set {w : World} {B gs : Nat} {E E' : List Bool} {v v' : Value} (hB : B ≤ gs) (hb : Blk w gs 71 #[v]) (hown : w.ownsRow B 4 1 v' E'.length (E'.map Value.bool)) : TS (w.setCell ⟨gs, 0, none⟩ v') B gs E' := by
  refine ⟨hB, v', by simpa using hb.set_ 0 v', hown.kept (grownBy_setCell' _ _ _) (.inr ?_)⟩
  exact own_blk_ne hown hb (by decide)
def doesF (E : List Bool) (x : Ev) : Bool × List Bool :=
  if x.thread < 0 ∨ (E.length : Int) ≤ x.thread ∨ E.getD x.thread.toNat false = true then (false, E)
  else if x.kind = 1 ∨ x.kind = 2 ∨ x.kind = 4 then (decide (0 ≤ x.id) && pathOk x.path, E)
  else if x.kind = 3 ∨ x.kind = 5 ∨ x.kind = 6 then (decide (0 ≤ x.id) && decide (x.path.length = 0), E)
  else if x.kind = 7 then (if x.id = E.length ∧ x.id < 65536 ∧ x.path.length = 0 then (true, E ++ [false]) else (false, E))
  else if x.kind = 8 then (decide (0 ≤ x.id ∧ x.id < E.length) && E.getD x.id.toNat false && decide (x.path.length = 0), E)
  else if x.kind = 9 then (decide (x.id = 0) && decide (x.path.length = 0), E.set x.thread.toNat (decide (x.id = 0) && decide (x.path.length = 0)))
  else (false, E)
end Go.Proofs.Ytpcjcmbhoglnfaa
