/- Locks: contracts of the document's Holder, Poisoned. -/
import Derived.Test.YthbajgpoldajmaaRefL
namespace Go.Proofs.Ythbajgpoldajmaa
open Go.ChangeShapes Go.WideShapes Go.RowKit
set_option linter.unusedVariables false

theorem RL.cell0 {w : World} {B gr : Nat} {M : List Mu} (h : RL w B gr M) : ∃ A c, w.cell? ⟨gr, 0, none⟩ = some (.slice A M.length c) ∧ Rd w w.heap.size 3 muC A M := by
  obtain ⟨_, v, hb, hown⟩ := h
  obtain ⟨A, c, rfl, hrd, _⟩ := own_rd (cells := muC) muC_len hown
  have h0 := hb.cell 0
  simp at h0
  exact ⟨A, c, h0, hrd⟩

set_option maxHeartbeats 1600000 in
theorem refHolder_any {B gr : Nat} {M : List Mu} {i : Int} {w : World} (v : Int) (h : RL w B gr M) (hu : Uniq M) (hL : M.length ≤ 1000000) (hv : (findV (lookM M) i).1 = v) :
    Calls Try.prog 17 #[.pointer (some ⟨gr, 0, none⟩), .int .i64 i] w fun r w' => r = .returned (.int .i64 v) ∧ w = w' := by
  obtain ⟨z, hz⟩ := FindAt.ex M i
  have hf := refFind_any B gr M i z w h hL hz
  obtain ⟨A, c, h0, hrd⟩ := h.cell0
  rcases hz with ⟨rfl, hn⟩ | ⟨k, x, rfl, hk, hx, _⟩
  · have : v = -1 := by rw [← hv]; unfold findV; rw [look_none hn]; rfl
    subst this
    clear hv hn h hu hL h0 hrd
    go_enter Try.func17, Try.ntmps17
    go_wp2_with fail
    refine hf.mono ?_
    rintro r w' ⟨rfl, rfl⟩
    go_wp2
    go_ret
    exact ⟨rfl, rfl⟩
  · have e : v = x.2.1 := by rw [← hv]; unfold findV; rw [look_at hu hk hx]; rfl
    obtain ⟨b, off, rfl, hb, c0, c1, c2⟩ := hrd.mu hk
    have hkl : k < M.length := (List.getElem?_eq_some_iff.1 hk).1
    obtain ⟨n, hn⟩ : ∃ n, n = M.length := ⟨_, rfl⟩
    rw [← hn] at h0 hkl hL
    have hki : (k : Int) < (n : Int) := by omega
    rw [← e] at c1
    clear hv h hu hrd hk hx e hn hkl
    go_enter Try.func17, Try.ntmps17
    go_wp2_with fail
    refine hf.mono ?_
    rintro r w' ⟨rfl, rfl⟩
    go_wp2
    go_ret
    exact ⟨rfl, rfl⟩
set_option maxHeartbeats 1600000 in
theorem refPoisoned_any {B gr : Nat} {M : List Mu} {i : Int} {w : World} (v : Bool) (h : RL w B gr M) (hu : Uniq M) (hL : M.length ≤ 1000000) (hv : (findV (lookM M) i).2 = v) :
    Calls Try.prog 18 #[.pointer (some ⟨gr, 0, none⟩), .int .i64 i] w fun r w' => r = .returned (.bool v) ∧ w = w' := by
  obtain ⟨z, hz⟩ := FindAt.ex M i
  have hf := refFind_any B gr M i z w h hL hz
  obtain ⟨A, c, h0, hrd⟩ := h.cell0
  rcases hz with ⟨rfl, hn⟩ | ⟨k, x, rfl, hk, hx, _⟩
  · have : v = false := by rw [← hv]; unfold findV; rw [look_none hn]; rfl
    subst this
    clear hv hn h hu hL h0 hrd
    go_enter Try.func18, Try.ntmps18
    go_wp2_with fail
    refine hf.mono ?_
    rintro r w' ⟨rfl, rfl⟩
    go_wp2
    go_ret
    exact ⟨rfl, rfl⟩
  · have e : v = x.2.2 := by rw [← hv]; unfold findV; rw [look_at hu hk hx]; rfl
    obtain ⟨b, off, rfl, hb, c0, c1, c2⟩ := hrd.mu hk
    have hkl : k < M.length := (List.getElem?_eq_some_iff.1 hk).1
    obtain ⟨n, hn⟩ : ∃ n, n = M.length := ⟨_, rfl⟩
    rw [← hn] at h0 hkl hL
    have hki : (k : Int) < (n : Int) := by omega
    rw [← e] at c2
    clear hv h hu hrd hk hx e hn hkl
    go_enter Try.func18, Try.ntmps18
    go_wp2_with fail
    refine hf.mono ?_
    rintro r w' ⟨rfl, rfl⟩
    go_wp2
    go_ret
    exact ⟨rfl, rfl⟩
end Go.Proofs.Ythbajgpoldajmaa
