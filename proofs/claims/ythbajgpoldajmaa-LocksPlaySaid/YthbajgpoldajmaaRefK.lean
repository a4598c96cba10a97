/- Locks: the contract of the document's Lock. -/
import Derived.Test.YthbajgpoldajmaaRefM
namespace Go.Proofs.Ythbajgpoldajmaa
open Go.ChangeShapes Go.WideShapes Go.RowKit
set_option linter.unusedVariables false

/-- what a store into a mutex's field leaves -/
theorem RL.store {w : World} {B gr g c : Nat} {M M' : List Mu} {n : Nat} (hB : B ≤ gr) (hb : Blk w gr 41 #[.slice (some ⟨g, 0, none⟩) n c]) (hn : M.length = n) (hown : w.ownsRow B 57 3 (.slice (some ⟨g, 0, none⟩) n c) n (M.flatMap muC)) (j : Nat) (u : Value)
    (hM : (M.flatMap muC).set j u = M'.flatMap muC) (hl : M'.length = n) : RL (w.setCell ⟨g, j, none⟩ u) B gr M' ∧ Below B w (w.setCell ⟨g, j, none⟩ u) := by
  have hne := own_blk_ne hown hb (by decide)
  have hst := (hown.stored j u).1
  rw [hM] at hst
  refine ⟨⟨hB, _, hb.far (p := ⟨g, j, none⟩) (fun e => hne (by rw [e]; rfl)) u, ?_⟩, (Below.refl B w).setCell (p := ⟨g, j, none⟩) (hown.lt g rfl).1 u⟩
  rw [hl]; exact hst

set_option maxHeartbeats 1600000 in
theorem refLock_any {B gr : Nat} {M : List Mu} {i t : Int} {w : World} (b : Bool) (h : RL w B gr M) (hu : Uniq M) (hL : M.length ≤ 100000) (hbd : -1 ≤ (findV (lookM M) i).1) (hbv : lockB (lookM M) i t = b) :
    Calls Try.prog 26 #[.pointer (some ⟨gr, 0, none⟩), .int .i64 i, .int .i64 t] w fun r w' => r = .returned (.bool b) ∧ ∃ M', RL w' B gr M' ∧ Uniq M' ∧ M'.length ≤ M.length ∧ lookM M' = lockS (lookM M) i t ∧ Below B w w' := by
  obtain ⟨z, hz⟩ := FindAt.ex M i
  have hf := refFind_any B gr M i z w h (by omega) hz
  have stay : b = false → ∃ M', RL w B gr M' ∧ Uniq M' ∧ M'.length ≤ M.length ∧ lookM M' = lockS (lookM M) i t ∧ Below B w w := fun e => ⟨M, h, hu, Nat.le_refl _, by rw [lock_no (hbv.trans e)], Below.refl _ _⟩
  rcases hz with ⟨rfl, hn⟩ | ⟨k, x, rfl, hk, hx, _⟩
  · obtain rfl : b = false := by rw [← hbv]; unfold lockB; rw [look_none hn]; rfl
    have ST := Lib.hid (stay rfl)
    clear stay hbv hbd hn h hu
    go_enter Try.func26, Try.ntmps26
    go_wp2_with fail
    refine hf.mono ?_
    rintro r w' ⟨rfl, rfl⟩
    go_wp2
    go_ret
    exact ⟨rfl, ST.out⟩
  · have hlk := look_at hu hk hx
    have hfv : findV (lookM M) i = x.2 := by unfold findV; rw [hlk]; rfl
    rw [hfv] at hbd
    obtain ⟨xi, ho, po⟩ := x
    simp only at hx hbd hfv
    subst hx
    have hbv' : b = (decide (ho < 0) && decide (0 ≤ t)) := by rw [← hbv]; unfold lockB; rw [hlk, hfv]; rfl
    obtain ⟨hBg, v, hb, hown⟩ := h
    have hkl : k < M.length := (List.getElem?_eq_some_iff.1 hk).1
    obtain ⟨n, hn⟩ : ∃ n, n = M.length := ⟨_, rfl⟩
    obtain ⟨q, hq⟩ : ∃ q, M.length = q + 1 := ⟨M.length - 1, by omega⟩
    obtain ⟨g, c, hv⟩ := own_succ (by rw [← hq]; exact hown)
    rw [← hq] at hv
    subst hv
    obtain ⟨A, c', hv2, hrd, _⟩ := own_rd (cells := muC) muC_len hown
    rw [Value.slice.injEq] at hv2
    rw [← hv2.1] at hrd
    obtain ⟨b1, off, hAA, hb1, c0, c1, c2⟩ := hrd.mu hk
    rw [Option.some.injEq, Addr.mk.injEq] at hAA
    obtain ⟨rfl, rfl, _⟩ := hAA
    rw [Nat.zero_add] at c0 c1 c2
    simp only at c0 c1 c2
    have h0 := hb.cell 0
    have e0 : (#[Value.slice (some ⟨g, 0, none⟩) M.length c] : Array Value)[0]? = some (.slice (some ⟨g, 0, none⟩) M.length c) := rfl
    rw [e0] at h0
    have hfr := hown.frozenAt (k * 3 + 1)
    rw [← hn] at h0 hown hb
    have hst := RL.store hBg hb hn.symm hown (k * 3 + 1) (.int .i64 t) (flat_set1 t hk) (by rw [List.length_set]; exact hn.symm)
    have hls := look_set hu hk (t, po)
    have hus := uniq_set hu hk (t, po)
    have hki : (k : Int) < (n : Int) := by omega
    have hn9 : n ≤ 100000 := by omega
    have ST := Lib.hid stay
    have HS := Lib.hid hst
    have HLS := Lib.hid hls
    have HUS := Lib.hid hus
    have HFV := Lib.hid hfv
    have HBV := Lib.hid hbv
    have HN := Lib.hid hn
    clear stay hbv hfv hls hus hst hn hown hb hrd hlk hk hu hkl hq hv2 hb1 e0 hL hn9
    by_cases h1 : ho = -1
    · subst h1
      by_cases ht : t < 0
      · obtain rfl : b = false := by rw [hbv']; simp; omega
        have d1 : decide (t < 0) = true := by simpa using ht
        clear hbv' ht hbd
        go_enter Try.func26, Try.ntmps26
        go_wp2_with fail
        refine hf.mono ?_
        rintro r w' ⟨rfl, rfl⟩
        go_wp2
        go_ret
        exact ⟨rfl, by first | exact ST.out rfl | exact ST.out trivial | simpa using ST.out⟩
      · obtain rfl : b = true := by rw [hbv']; simp; omega
        have d1 : decide (t < 0) = false := by simpa using ht
        clear hbv' ht hbd
        go_enter Try.func26, Try.ntmps26
        go_wp2_with fail
        refine hf.mono ?_
        rintro r w' ⟨rfl, rfl⟩
        go_wp2
        go_ret
        refine ⟨rfl, _, HS.out.1, HUS.out, by rw [List.length_set]; exact Nat.le_refl _, ?_, HS.out.2⟩
        rw [HLS.out]
        unfold lockS
        rw [HBV.out, HFV.out]; rfl
    · obtain rfl : b = false := by rw [hbv']; simp; omega
      have d1 : (ho != -1) = true := by simpa using h1
      clear hbv' hbd h1
      go_enter Try.func26, Try.ntmps26
      go_wp2_with fail
      refine hf.mono ?_
      rintro r w' ⟨rfl, rfl⟩
      go_wp2
      go_ret
      exact ⟨rfl, by first | exact ST.out rfl | exact ST.out trivial | simpa using ST.out⟩
end Go.Proofs.Ythbajgpoldajmaa
