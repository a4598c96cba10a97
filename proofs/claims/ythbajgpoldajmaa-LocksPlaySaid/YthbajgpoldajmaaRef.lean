/- Locks: the document's own locks, a list of mutexes: contracts of find, Holder, Poisoned, Lock. -/
import Derived.Test.YthbajgpoldajmaaE
import Derived.Test.YthbajgpoldajmaaApp
namespace Go.Proofs.Ythbajgpoldajmaa
open Go.ChangeShapes Go.WideShapes Go.RowKit
set_option linter.unusedVariables false

/-- a mutex of the document: its number, its holder, whether it is poisoned -/
abbrev Mu := Int × Int × Bool
def muC (x : Mu) : List Value := [.int .i64 x.1, .int .i64 x.2.1, .bool x.2.2]
theorem muC_len (x : Mu) : (muC x).length = 3 := rfl
def RL (w : World) (B gr : Nat) (M : List Mu) : Prop := B ≤ gr ∧ ∃ v, Blk w gr 41 #[v] ∧ w.ownsRow B 57 3 v M.length (M.flatMap muC)
theorem Rd.mu {w : World} {B : Nat} {A : Option Addr} {M : List Mu} (h : Rd w B 3 muC A M) {k : Nat} {x : Mu} (hk : M[k]? = some x) :
    ∃ b off, A = some ⟨b, off, none⟩ ∧ b < B ∧ w.cell? ⟨b, off + k * 3, none⟩ = some (.int .i64 x.1) ∧ w.cell? ⟨b, off + k * 3 + 1, none⟩ = some (.int .i64 x.2.1) ∧ w.cell? ⟨b, off + k * 3 + 2, none⟩ = some (.bool x.2.2) := by
  obtain ⟨hl, e⟩ := List.getElem?_eq_some_iff.1 hk
  obtain ⟨b, off, hA, hb, hc⟩ := h.at_ hl
  rw [e] at hc
  exact ⟨b, off, hA, hb, by simpa using hc 0 _ rfl, hc 1 _ rfl, hc 2 _ rfl⟩

/-- z: where the first one of number i stands; -1: nowhere -/
def FindAt (M : List Mu) (i z : Int) : Prop := (z = -1 ∧ ∀ y ∈ M, y.1 ≠ i) ∨ ∃ (k : Nat) (x : Mu), z = k ∧ M[k]? = some x ∧ x.1 = i ∧ ∀ (j : Nat) (y : Mu), j < k → M[j]? = some y → y.1 ≠ i
theorem FindAt.ex (M : List Mu) (i : Int) : ∃ z, FindAt M i z := by
  induction M with
  | nil => exact ⟨-1, .inl ⟨rfl, by simp⟩⟩
  | cons a M ih =>
    by_cases h : a.1 = i
    · exact ⟨0, .inr ⟨0, a, rfl, rfl, h, fun j y hj => by omega⟩⟩
    · obtain ⟨z, ⟨rfl, hz⟩ | ⟨k, x, rfl, hk, hx, hj⟩⟩ := ih
      · refine ⟨-1, .inl ⟨rfl, fun y hy => ?_⟩⟩
        rcases List.mem_cons.1 hy with rfl | hy
        · exact h
        · exact hz y hy
      · refine ⟨((k + 1 : Nat) : Int), .inr ⟨k + 1, x, rfl, by simpa using hk, hx, fun j y hj' hy => ?_⟩⟩
        cases j with
        | zero => simp at hy; subst hy; exact h
        | succ j => exact hj j y (by omega) (by simpa using hy)

set_option maxHeartbeats 1600000 in
theorem refFind_any (B gr : Nat) (M : List Mu) (i z : Int) (w : World) (h : RL w B gr M) (hL : M.length ≤ 1000000) (hz : FindAt M i z) :
    Calls Try.prog 29 #[.pointer (some ⟨gr, 0, none⟩), .int .i64 i] w fun r w' => r = .returned (.int .i64 z) ∧ w = w' := by
  obtain ⟨_, v, hb, hown⟩ := h
  obtain ⟨A, c, rfl, hrd, hlc, _⟩ := own_rd (cells := muC) muC_len hown
  have h0 := hb.cell 0
  simp at h0
  obtain ⟨n, hn⟩ : ∃ n, n = M.length := ⟨_, rfl⟩
  rw [← hn] at h0 hL hlc
  have HN := Lib.hid hn
  have HZ := Lib.hid hz
  clear hn hown hz hb
  go_enter Try.func29, Try.ntmps29
  go_wp2
  go_loop [5] (fun j => ∃ k : Nat, k ≤ n ∧ j = .int .i64 k ∧ ∀ (q : Nat) (y : Mu), q < k → M[q]? = some y → y.1 ≠ i) (fun j => n - (intOf j).toNat)
  case atStart => exact ⟨0, by omega, rfl, fun q y hq => by omega⟩
  case round =>
    obtain ⟨k, hk, rfl, hall⟩ := hrel
    have HALL := Lib.hid hall
    clear hall
    by_cases hlt : k < n
    · obtain ⟨⟨a, ho, po⟩, hx⟩ : ∃ x, M[k]? = some x := ⟨_, List.getElem?_eq_getElem (by rw [← HN.out]; exact hlt)⟩
      obtain ⟨b, off, rfl, hbb, hc0, _⟩ := hrd.mu hx
      simp only at hc0
      have hki : (k : Int) < (n : Int) := by omega
      by_cases hai : a = i
      · subst hai
        have e : z = k := by
          rcases HZ.out with ⟨_, hz⟩ | ⟨k', x, rfl, hk', hx', hj⟩
          · exact absurd rfl (hz _ (List.mem_of_getElem? hx))
          · rcases Nat.lt_trichotomy k k' with h1 | h1 | h1
            · exact absurd rfl (hj k _ h1 hx)
            · rw [h1]
            · exact absurd hx' (HALL.out k' x h1 hk')
        have HE := Lib.hid e
        clear e hx
        go_wp2
        go_ret
        exact ⟨by rw [HE.out]; rfl, rfl⟩
      · have bi : (a == i) = false := by simpa using hai
        have hnext : ∀ (q : Nat) (y : Mu), q < k + 1 → M[q]? = some y → y.1 ≠ i := by
          intro q y hq hy
          rcases Nat.lt_or_ge q k with h1 | h1
          · exact HALL.out q y h1 hy
          · obtain rfl : q = k := by omega
            rw [hx] at hy; cases hy; exact hai
        have HNX := Lib.hid hnext
        clear hnext hx hai
        go_wp2
        go_round
        case rel => exact ⟨k + 1, by omega, by go_num, HNX.out⟩
        case measure => simp [intOf] <;> omega
    · obtain rfl : k = n := by omega
      have e : z = -1 := by
        rcases HZ.out with ⟨h, _⟩ | ⟨k', x, rfl, hk', hx', _⟩
        · exact h
        · exact absurd hx' (HALL.out k' x (by rw [HN.out]; exact (List.getElem?_eq_some_iff.1 hk').1) hk')
      have HE := Lib.hid e
      clear e
      go_wp2
      go_ret
      exact ⟨by rw [HE.out]; rfl, rfl⟩
end Go.Proofs.Ythbajgpoldajmaa
