/- Race: contracts of Long and awake. -/
import Derived.Test.YtpcjcmbhoglnfaaS
namespace Go.Proofs.Ytpcjcmbhoglnfaa
open Go.RowKit
set_option linter.unusedVariables false
set_option linter.unusedSimpArgs false

def shortB (L : List Ev) : Bool := decide (L.length ≤ 120) && L.all (fun x => decide (x.path.length ≤ 100))
theorem shortB_of {L : List Ev} {n : Nat} (hl : L.length = n) (hn : n ≤ 120) (h : ∀ (q : Nat) (x : Ev), q < n → L[q]? = some x → x.path.length ≤ 100) : shortB L = true := by
  unfold shortB
  rw [Bool.and_eq_true]
  refine ⟨decide_eq_true (by omega), List.all_eq_true.2 fun x hx => decide_eq_true ?_⟩
  obtain ⟨q, hq⟩ := List.getElem?_of_mem hx
  exact h q x (by rw [← hl]; exact (List.getElem?_eq_some_iff.1 hq).1) hq
theorem shortB_row {w : World} {A : Option Addr} {ln c : Nat} {L : List Ev} (hlen : L.length = ln) (rd : Rd w w.heap.size 4 evC A L) (ok : ∀ x ∈ L, EvOk w w.heap.size x) (hc : ln ≤ c) (h : shortB L = true) : EvRow w A ln c L := by
  unfold shortB at h
  rw [Bool.and_eq_true] at h
  have h1 := of_decide_eq_true h.1
  exact ⟨hlen, by omega, rd, ok, fun x hx => by have := of_decide_eq_true (List.all_eq_true.1 h.2 x hx); omega, hc⟩
set_option maxRecDepth 100000 in
set_option maxHeartbeats 3200000 in
theorem long_any (A : Option Addr) (len c : Nat) (L : List Ev) (w : World) (hlen : L.length = len) (rd : Rd w w.heap.size 4 evC A L) (b : Bool) (hb : shortB L = b) :
    Calls Try.prog 18 #[.slice A len c] w fun r w' => r = .returned (.bool (!b)) ∧ w = w' := by
  have HRD := Lib.hid rd
  have HL := Lib.hid hlen
  have HB := Lib.hid hb
  clear rd hlen hb
  go_enter Try.func18, Try.ntmps18
  by_cases h80 : 120 < len
  · have d80 : (120 : Int) < (len : Int) := by omega
    have e : b = false := by rw [← HB.out]; unfold shortB; rw [decide_eq_false (by rw [HL.out]; omega)]; rfl
    subst e
    go_wp2
    go_ret
    exact ⟨rfl, rfl⟩
  have d80 : ¬ (120 : Int) < (len : Int) := by omega
  go_wp2
  go_loop [3] (fun i => ∃ k : Nat, k ≤ len ∧ i = .int .i64 k ∧ ∀ (q : Nat) (x : Ev), q < k → L[q]? = some x → x.path.length ≤ 100) (fun i => len - (intOf i).toNat)
  case atStart => exact ⟨0, by omega, rfl, fun q x hq => by omega⟩
  case round =>
    obtain ⟨k, hk, rfl, hall⟩ := hrel
    have HA := Lib.hid hall
    clear hall
    by_cases hlt : k < len
    · have hxk := at_evAt (L := L) (i := k) (by rw [HL.out]; exact hlt)
      obtain ⟨b', off, rfl, hb, x0, x1, x2, x3⟩ := HRD.out.ev hxk
      obtain ⟨x, hx⟩ : ∃ x, x = evAt L k := ⟨_, rfl⟩
      rw [← hx] at x3 hxk
      obtain ⟨lx, hlx⟩ : ∃ q, x.path.length = q := ⟨_, rfl⟩
      rw [hlx] at x3
      have e1 : (k : Int) < (len : Int) := by omega
      have e2 : (0 : Int) ≤ (k : Int) := by omega
      clear x0 x1 x2 hx
      by_cases h50 : 100 < lx
      · have d50 : (100 : Int) < (lx : Int) := by omega
        have e : b = false := by
          rw [← HB.out, Bool.eq_false_iff]
          intro h
          unfold shortB at h
          rw [Bool.and_eq_true] at h
          have := of_decide_eq_true (List.all_eq_true.1 h.2 x (List.mem_of_getElem? hxk))
          omega
        subst e
        clear hxk hlx
        go_wp2
        go_ret
        exact ⟨rfl, rfl⟩
      · have d50 : ¬ (100 : Int) < (lx : Int) := by omega
        have hnx : ∀ (q : Nat) (z : Ev), q < k + 1 → L[q]? = some z → z.path.length ≤ 100 := by
          intro q z hq hz
          rcases Nat.lt_or_ge q k with h1 | h1
          · exact HA.out q z h1 hz
          · obtain rfl : q = k := by omega
            rw [hxk] at hz; cases hz; omega
        have HN := Lib.hid hnx
        clear hnx hxk hlx
        go_wp2
        go_round
        case rel => exact ⟨k + 1, by omega, by go_num, HN.out⟩
        case measure => simp [intOf] <;> omega
    · obtain rfl : k = len := by omega
      have e : b = true := by rw [← HB.out]; exact shortB_of HL.out (by omega) HA.out
      subst e
      go_wp2
      go_ret
      exact ⟨rfl, rfl⟩

def litA : List Ev := [⟨2, 0, 5, none, 0, []⟩, ⟨7, 0, 1, none, 0, []⟩, ⟨2, 1, 5, none, 0, []⟩, ⟨9, 1, 0, none, 0, []⟩, ⟨8, 0, 1, none, 0, []⟩, ⟨2, 0, 5, none, 0, []⟩]
def litB : List Ev := [⟨7, 0, 1, none, 0, []⟩, ⟨2, 1, 5, none, 0, []⟩, ⟨1, 0, 5, none, 0, []⟩]
def litC : List Ev := [⟨7, 0, 1, none, 0, []⟩, ⟨2, 0, 5, none, 0, []⟩, ⟨6, 0, 9, none, 0, []⟩, ⟨5, 1, 9, none, 0, []⟩, ⟨1, 1, 5, none, 0, []⟩]
def litD : List Ev := [⟨7, 0, 1, none, 0, []⟩, ⟨5, 1, 9, none, 0, []⟩, ⟨2, 0, 5, none, 0, []⟩, ⟨6, 0, 9, none, 0, []⟩, ⟨1, 1, 5, none, 0, []⟩]

set_option maxRecDepth 100000 in
set_option maxHeartbeats 6400000 in
theorem awake_any (w : World) : Calls Try.prog 19 #[] w fun r w' => r = .returned (.bool true) ∧ Below w.heap.size w w' := by
  have hlitA : ∀ w : World, Calls Try.prog 12 #[.slice (some ⟨w.heap.size, 0, none⟩) 6 6] (w.alloc (.cells #[.int .u8 2, .int .i64 0, .int .i64 5, .slice none 0 0, .int .u8 7, .int .i64 0, .int .i64 1, .slice none 0 0, .int .u8 2, .int .i64 1, .int .i64 5, .slice none 0 0, .int .u8 9, .int .i64 1, .int .i64 0, .slice none 0 0, .int .u8 8, .int .i64 0, .int .i64 1, .slice none 0 0, .int .u8 2, .int .i64 0, .int .i64 5, .slice none 0 0] 26)) fun r w' => r = .returned (.tuple #[.int .i64 0, .int .i64 0, .bool false, .int .i64 0]) ∧ Below w.heap.size w w' := by
    intro w
    have h := EvRow.lit w 6 litA #[.int .u8 2, .int .i64 0, .int .i64 5, .slice none 0 0, .int .u8 7, .int .i64 0, .int .i64 1, .slice none 0 0, .int .u8 2, .int .i64 1, .int .i64 5, .slice none 0 0, .int .u8 9, .int .i64 1, .int .i64 0, .slice none 0 0, .int .u8 8, .int .i64 0, .int .i64 1, .slice none 0 0, .int .u8 2, .int .i64 0, .int .i64 5, .slice none 0 0] rfl rfl (by omega) (by decide +kernel)
    have h2 := first_any _ 6 6 _ h
    rw [show firstAt litA = 0 by decide +kernel, show firstWith litA = 0 by decide +kernel, show firstIs litA = false by decide +kernel, show errL litA = 0 by decide +kernel] at h2
    refine h2.mono ?_
    rintro r w' ⟨rfl, hb⟩
    exact ⟨rfl, ((Below.refl _ w).alloc (Nat.le_refl _) _).trans (hb.mono (by simp))⟩
  have hlitB : ∀ w : World, Calls Try.prog 12 #[.slice (some ⟨w.heap.size, 0, none⟩) 3 3] (w.alloc (.cells #[.int .u8 7, .int .i64 0, .int .i64 1, .slice none 0 0, .int .u8 2, .int .i64 1, .int .i64 5, .slice none 0 0, .int .u8 1, .int .i64 0, .int .i64 5, .slice none 0 0] 26)) fun r w' => r = .returned (.tuple #[.int .i64 2, .int .i64 1, .bool true, .int .i64 0]) ∧ Below w.heap.size w w' := by
    intro w
    have h := EvRow.lit w 3 litB #[.int .u8 7, .int .i64 0, .int .i64 1, .slice none 0 0, .int .u8 2, .int .i64 1, .int .i64 5, .slice none 0 0, .int .u8 1, .int .i64 0, .int .i64 5, .slice none 0 0] rfl rfl (by omega) (by decide +kernel)
    have h2 := first_any _ 3 3 _ h
    rw [show firstAt litB = 2 by decide +kernel, show firstWith litB = 1 by decide +kernel, show firstIs litB = true by decide +kernel, show errL litB = 0 by decide +kernel] at h2
    refine h2.mono ?_
    rintro r w' ⟨rfl, hb⟩
    exact ⟨rfl, ((Below.refl _ w).alloc (Nat.le_refl _) _).trans (hb.mono (by simp))⟩
  have hlitC : ∀ w : World, Calls Try.prog 12 #[.slice (some ⟨w.heap.size, 0, none⟩) 5 5] (w.alloc (.cells #[.int .u8 7, .int .i64 0, .int .i64 1, .slice none 0 0, .int .u8 2, .int .i64 0, .int .i64 5, .slice none 0 0, .int .u8 6, .int .i64 0, .int .i64 9, .slice none 0 0, .int .u8 5, .int .i64 1, .int .i64 9, .slice none 0 0, .int .u8 1, .int .i64 1, .int .i64 5, .slice none 0 0] 26)) fun r w' => r = .returned (.tuple #[.int .i64 0, .int .i64 0, .bool false, .int .i64 0]) ∧ Below w.heap.size w w' := by
    intro w
    have h := EvRow.lit w 5 litC #[.int .u8 7, .int .i64 0, .int .i64 1, .slice none 0 0, .int .u8 2, .int .i64 0, .int .i64 5, .slice none 0 0, .int .u8 6, .int .i64 0, .int .i64 9, .slice none 0 0, .int .u8 5, .int .i64 1, .int .i64 9, .slice none 0 0, .int .u8 1, .int .i64 1, .int .i64 5, .slice none 0 0] rfl rfl (by omega) (by decide +kernel)
    have h2 := first_any _ 5 5 _ h
    rw [show firstAt litC = 0 by decide +kernel, show firstWith litC = 0 by decide +kernel, show firstIs litC = false by decide +kernel, show errL litC = 0 by decide +kernel] at h2
    refine h2.mono ?_
    rintro r w' ⟨rfl, hb⟩
    exact ⟨rfl, ((Below.refl _ w).alloc (Nat.le_refl _) _).trans (hb.mono (by simp))⟩
  have hlitD : ∀ w : World, Calls Try.prog 12 #[.slice (some ⟨w.heap.size, 0, none⟩) 5 5] (w.alloc (.cells #[.int .u8 7, .int .i64 0, .int .i64 1, .slice none 0 0, .int .u8 5, .int .i64 1, .int .i64 9, .slice none 0 0, .int .u8 2, .int .i64 0, .int .i64 5, .slice none 0 0, .int .u8 6, .int .i64 0, .int .i64 9, .slice none 0 0, .int .u8 1, .int .i64 1, .int .i64 5, .slice none 0 0] 26)) fun r w' => r = .returned (.tuple #[.int .i64 4, .int .i64 2, .bool true, .int .i64 0]) ∧ Below w.heap.size w w' := by
    intro w
    have h := EvRow.lit w 5 litD #[.int .u8 7, .int .i64 0, .int .i64 1, .slice none 0 0, .int .u8 5, .int .i64 1, .int .i64 9, .slice none 0 0, .int .u8 2, .int .i64 0, .int .i64 5, .slice none 0 0, .int .u8 6, .int .i64 0, .int .i64 9, .slice none 0 0, .int .u8 1, .int .i64 1, .int .i64 5, .slice none 0 0] rfl rfl (by omega) (by decide +kernel)
    have h2 := first_any _ 5 5 _ h
    rw [show firstAt litD = 4 by decide +kernel, show firstWith litD = 2 by decide +kernel, show firstIs litD = true by decide +kernel, show errL litD = 0 by decide +kernel] at h2
    refine h2.mono ?_
    rintro r w' ⟨rfl, hb⟩
    exact ⟨rfl, ((Below.refl _ w).alloc (Nat.le_refl _) _).trans (hb.mono (by simp))⟩
  go_enter Try.func19, Try.ntmps19
  go_wp2_with fail
  refine (hlitA _).mono ?_
  rintro r w1 ⟨rfl, hb1⟩
  have HB1 := Lib.hid hb1
  clear hb1
  go_wp2_with fail
  refine (hlitB _).mono ?_
  rintro r w2 ⟨rfl, hb2⟩
  have HB2 := Lib.hid (HB1.out.trans (hb2.mono HB1.out.size))
  clear hb2 HB1
  go_wp2_with fail
  refine (hlitC _).mono ?_
  rintro r w3 ⟨rfl, hb3⟩
  have HB3 := Lib.hid (HB2.out.trans (hb3.mono HB2.out.size))
  clear hb3 HB2
  go_wp2_with fail
  refine (hlitD _).mono ?_
  rintro r w4 ⟨rfl, hb4⟩
  have HB4 := Lib.hid (HB3.out.trans (hb4.mono HB3.out.size))
  clear hb4 HB3 hlitA hlitB hlitC hlitD
  go_wp2
  go_ret
  exact ⟨rfl, HB4.out⟩
end Go.Proofs.Ytpcjcmbhoglnfaa
