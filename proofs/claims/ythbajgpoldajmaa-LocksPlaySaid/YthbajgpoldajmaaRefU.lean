/- Locks: the contract of the document's Unlock. -/
import Derived.Test.YthbajgpoldajmaaRefK
namespace Go.Proofs.Ythbajgpoldajmaa
open Go.ChangeShapes Go.WideShapes Go.RowKit
set_option linter.unusedVariables false

set_option maxHeartbeats 1600000 in
theorem refUnlock_any {B gr : Nat} {M : List Mu} {i t : Int} {p : Bool} {w : World} (b : Bool) (h : RL w B gr M) (hu : Uniq M) (hL : M.length ≤ 100000) (hbd : -1 ≤ (findV (lookM M) i).1) (hbv : unlockB (lookM M) i t = b) :
    Calls Try.prog 27 #[.pointer (some ⟨gr, 0, none⟩), .int .i64 i, .int .i64 t, .bool p] w fun r w' => r = .returned (.int .i64 (if b then 0 else 5)) ∧ ∃ M', RL w' B gr M' ∧ Uniq M' ∧ M'.length ≤ M.length ∧ lookM M' = unlockS (lookM M) i t p ∧ Below B w w' := by
  obtain ⟨z, hz⟩ := FindAt.ex M i
  have hf := refFind_any B gr M i z w h (by omega) hz
  have stay : b = false → ∃ M', RL w B gr M' ∧ Uniq M' ∧ M'.length ≤ M.length ∧ lookM M' = unlockS (lookM M) i t p ∧ Below B w w := fun e => ⟨M, h, hu, Nat.le_refl _, by rw [unlock_no (hbv.trans e)], Below.refl _ _⟩
  rcases hz with ⟨rfl, hn⟩ | ⟨k, x, rfl, hk, hx, _⟩
  · obtain rfl : b = false := by rw [← hbv]; unfold unlockB; rw [look_none hn]; rfl
    have ST := Lib.hid (stay rfl)
    clear stay hbv hbd hn h hu
    go_enter Try.func27, Try.ntmps27
    go_wp2_with fail
    refine hf.mono ?_
    rintro r w' ⟨rfl, rfl⟩
    go_wp2
    go_ret
    exact ⟨rfl, ST.out⟩
  · have hlk := look_at hu hk hx
    have hfv : findV (lookM M) i = x.2 := by unfold findV; rw [hlk]; rfl
    rw [hfv] at hbd
    obtain ⟨xi, ho, po⟩ := x
    simp only at hx hbd hfv
    obtain rfl : xi = i := hx
    have hbv' : b = (decide (0 ≤ t) && decide (ho = t)) := by rw [← hbv]; unfold unlockB; rw [hlk, hfv]; rfl
    obtain ⟨hBg, v, hb, hown⟩ := h
    have hkl : k < M.length := (List.getElem?_eq_some_iff.1 hk).1
    obtain ⟨n, hn⟩ : ∃ n, n = M.length := ⟨_, rfl⟩
    obtain ⟨q, hq⟩ : ∃ q, M.length = q + 1 := ⟨M.length - 1, by omega⟩
    obtain ⟨g, c, hv⟩ := own_succ (by rw [← hq]; exact hown)
    rw [← hq] at hv
    subst hv
    obtain ⟨A, c', hv2, hrd, _⟩ := own_rd (cells := muC) muC_len hown
    rw [Value.slice.injEq] at hv2
    rw [← hv2.1] at hrd
    obtain ⟨b1, off, hAA, hb1, c0, c1, c2⟩ := hrd.mu hk
    rw [Option.some.injEq, Addr.mk.injEq] at hAA
    obtain ⟨rfl, rfl, _⟩ := hAA
    rw [Nat.zero_add] at c0 c1 c2
    simp only at c0 c1 c2
    have h0 := hb.cell 0
    have e0 : (#[Value.slice (some ⟨g, 0, none⟩) M.length c] : Array Value)[0]? = some (.slice (some ⟨g, 0, none⟩) M.length c) := rfl
    rw [e0] at h0
    have hfr := hown.frozenAt (k * 3 + 1)
    rw [← hn] at h0 hown hb
    have hM1 : (M.flatMap muC).set (k * 3 + 1) (.int .i64 (-1)) = (M.set k (xi, -1, po)).flatMap muC := flat_set1 (-1) hk
    obtain ⟨M1, hM1e⟩ : ∃ M1, M1 = M.set k (xi, -1, po) := ⟨_, rfl⟩
    rw [← hM1e] at hM1
    have hk1 : M1[k]? = some (xi, -1, po) := by rw [hM1e]; exact List.getElem?_set_self hkl
    have hl1 : M1.length = n := by rw [hM1e, List.length_set]; exact hn.symm
    have hne := own_blk_ne hown hb (by decide)
    have own1 := (hown.stored (k * 3 + 1) (.int .i64 (-1))).1
    rw [hM1] at own1
    have hbk1 : Blk (w.setCell ⟨g, k * 3 + 1, none⟩ (.int .i64 (-1))) gr 41 #[.slice (some ⟨g, 0, none⟩) n c] := hb.far (p := ⟨g, k * 3 + 1, none⟩) (fun e => hne (by rw [e]; rfl)) _
    have hst := RL.store hBg hbk1 hl1 own1 (k * 3 + 2) (.bool (po || p)) (flat_set2 (po || p) hk1) (by rw [List.length_set]; exact hl1)
    have hB1 : Below B w (w.setCell ⟨g, k * 3 + 1, none⟩ (.int .i64 (-1))) := (Below.refl B w).setCell (p := ⟨g, k * 3 + 1, none⟩) (hown.lt g rfl).1 _
    have f0 := hbk1.cell 0
    rw [show ∀ v : Value, (#[v] : Array Value)[0]? = some v from fun _ => rfl] at f0
    have f2 : (w.setCell ⟨g, k * 3 + 1, none⟩ (.int .i64 (-1))).cell? ⟨g, k * 3 + 2, none⟩ = some (.bool po) := by
      have h1 := own1.cellAt (k * 3 + 2) (by omega)
      rw [h1]
      exact flat_at muC_len M1 k _ hk1 2 _ rfl
    have fz2 := own1.frozenAt (k * 3 + 2)
    have hu1 : Uniq M1 := by rw [hM1e]; exact uniq_set hu hk (-1, po)
    have hls : lookM (M1.set k (xi, -1, po || p)) = setS (lookM M) xi (some (-1, po || p)) := by
      have a1 := look_set hu1 hk1 (-1, po || p)
      have a2 := look_set hu hk (-1, po)
      rw [← hM1e] at a2
      rw [a1, a2]
      funext j; unfold setS; split <;> rfl
    have hus : Uniq (M1.set k (xi, -1, po || p)) := uniq_set hu1 hk1 (-1, po || p)
    have HL1 := Lib.hid hl1
    have HB1 := Lib.hid hB1
    have hki : (k : Int) < (n : Int) := by omega
    have hn9 : n ≤ 100000 := by omega
    have ST := Lib.hid stay
    have HS := Lib.hid hst
    have HLS := Lib.hid hls
    have HUS := Lib.hid hus
    have HFV := Lib.hid hfv
    have HBV := Lib.hid hbv
    have HN := Lib.hid hn
    clear stay hbv hfv hls hus hst hn hown hb hrd hlk hk hu hkl hq hv2 hb1 e0 hL hn9 hM1 hM1e hk1 hl1 hne own1 hbk1 hu1 hB1
    by_cases h1 : ho = -1
    · subst h1
      obtain rfl : b = false := by rw [hbv']; simp; omega
      clear hbv' hbd f0 f2 fz2
      go_enter Try.func27, Try.ntmps27
      go_wp2_with fail
      refine hf.mono ?_
      rintro r w' ⟨rfl, rfl⟩
      go_wp2
      go_ret
      exact ⟨rfl, by first | exact ST.out rfl | exact ST.out trivial | simpa using ST.out⟩
    · have d1 : (ho == -1) = false := by simpa using h1
      by_cases h2 : ho = t
      · subst h2
        obtain rfl : b = true := by rw [hbv']; simp; omega
        clear hbv' hbd h1
        cases po
        all_goals
          go_enter Try.func27, Try.ntmps27
          go_wp2_with fail
          refine hf.mono ?_
          rintro r w' ⟨rfl, rfl⟩
          go_wp2
          go_region
          go_wp2
          go_ret
          refine ⟨rfl, _, HS.out.1, HUS.out, by rw [List.length_set, HL1.out, HN.out]; exact Nat.le_refl _, ?_, (HB1.out.trans HS.out.2).drew⟩
          rw [HLS.out]
          unfold unlockS
          rw [HBV.out, HFV.out]; rfl
      · obtain rfl : b = false := by rw [hbv']; simp [h2]
        have d2 : (ho != t) = true := by simpa using h2
        clear hbv' hbd h1 h2 f0 f2 fz2
        go_enter Try.func27, Try.ntmps27
        go_wp2_with fail
        refine hf.mono ?_
        rintro r w' ⟨rfl, rfl⟩
        go_wp2
        go_ret
        exact ⟨rfl, by first | exact ST.out rfl | exact ST.out trivial | simpa using ST.out⟩
end Go.Proofs.Ythbajgpoldajmaa
