/- Race: the contract of same, where the rows are equal. -/
import Derived.Test.YtpcjcmbhoglnfaaBp
namespace Go.Proofs.Ytpcjcmbhoglnfaa
open Go.RowKit
set_option linter.unusedVariables false
set_option linter.unusedSimpArgs false

theorem Rd.pr {w : World} {B : Nat} {A : Option Addr} {L : List PR} (h : Rd w B 2 pairC A L) {k : Nat} {x : PR} (hk : L[k]? = some x) :
    ∃ b off, A = some ⟨b, off, none⟩ ∧ b < B ∧ w.cell? ⟨b, off + k * 2, none⟩ = some (.int .i64 x.1) ∧ w.cell? ⟨b, off + k * 2 + 1, none⟩ = some (.int .i64 x.2) := by
  obtain ⟨hl, e⟩ := List.getElem?_eq_some_iff.1 hk
  obtain ⟨b, off, hA, hb, hc⟩ := h.at_ hl
  rw [e] at hc
  exact ⟨b, off, hA, hb, by simpa using hc 0 _ rfl, hc 1 _ rfl⟩
theorem same_drew (w W : World) (h : ∃ m, W = w.drewN m) {n : Nat} : ∃ m, W.drewN n = w.drewN m := by
  obtain ⟨m, rfl⟩ := h
  exact ⟨m + n, by simp [World.drewN, Nat.add_assoc]⟩
set_option maxRecDepth 100000 in
set_option maxHeartbeats 3200000 in
theorem same_yes (A1 A2 : Option Addr) (n c1 c2 : Nat) (R : List PR) (w : World) (hn : R.length = n) (hN : n ≤ 1000000) (r1 : Rd w w.heap.size 2 pairC A1 R) (r2 : Rd w w.heap.size 2 pairC A2 R) :
    Calls Try.prog 23 #[.slice A1 n c1, .slice A2 n c2] w fun r w' => r = .returned (.bool true) ∧ ∃ m, w' = w.drewN m := by
  have H1 := Lib.hid r1
  have H2 := Lib.hid r2
  have HN := Lib.hid hn
  clear r1 r2 hn
  go_enter Try.func23, Try.ntmps23
  go_wp2
  go_loopw [5] (fun i wr => ∃ k : Nat, k ≤ n ∧ i = .int .i64 k ∧ ∃ m, wr = w.drewN m) (fun i _ => n - (intOf i).toNat)
  case atStart => exact ⟨0, by omega, rfl, 0, rfl⟩
  case round =>
    obtain ⟨k, hk, rfl, m, hwr⟩ := hrel
    have HW := Lib.hid hwr
    have hr1 := H1.out.drewN m
    have hr2 := H2.out.drewN m
    rw [← hwr] at hr1 hr2
    clear hwr
    by_cases hlt : k < n
    · obtain ⟨p, hp⟩ : ∃ p, R[k]? = some p := ⟨_, List.getElem?_eq_getElem (by rw [HN.out]; exact hlt)⟩
      obtain ⟨b, off, rfl, _, x0, x1⟩ := hr1.pr hp
      obtain ⟨b', off', rfl, _, y0, y1⟩ := hr2.pr hp
      obtain ⟨u, v⟩ := p
      have e1 : (k : Int) < (n : Int) := by omega
      have e2 : (0 : Int) ≤ (k : Int) := by omega
      have hps := fun w => pair_same u v w
      clear hp hr1 hr2
      go_wp2
      go_quiet (fail)
      go_wp2
      go_roundw
      case rel => exact ⟨k + 1, by omega, by go_num, same_drew _ _ ⟨m, HW.out⟩⟩
      case measure => simp [intOf] <;> omega
    · obtain rfl : k = n := by omega
      go_wp2
      go_ret
      exact ⟨rfl, m, HW.out⟩
end Go.Proofs.Ytpcjcmbhoglnfaa
