/- Locks: the contract of the document's Drop. -/
import Derived.Test.YthbajgpoldajmaaRefU
namespace Go.Proofs.Ythbajgpoldajmaa
open Go.ChangeShapes Go.WideShapes Go.RowKit
set_option linter.unusedVariables false

theorem muC_one (x : Mu) : ∀ u ∈ muC x, u.oneCell' = true := by intro u hu; simp [muC] at hu; rcases hu with rfl | rfl | rfl <;> rfl

set_option maxHeartbeats 3200000 in
theorem refDrop_any {B gr : Nat} {M : List Mu} {i : Int} {w : World} (v0 : Int) (h : RL w B gr M) (hu : Uniq M) (hL : M.length ≤ 100000) (hbd : -1 ≤ (findV (lookM M) i).1) (hbv : dropR (lookM M) i = v0) :
    Calls Try.prog 28 #[.pointer (some ⟨gr, 0, none⟩), .int .i64 i] w fun r w' => r = .returned (.int .i64 v0) ∧ ∃ M', RL w' B gr M' ∧ Uniq M' ∧ M'.length ≤ M.length ∧ lookM M' = dropS (lookM M) i ∧ Below B w w' := by
  obtain ⟨z, hz⟩ := FindAt.ex M i
  have hf := refFind_any B gr M i z w h (by omega) hz
  rcases hz with ⟨rfl, hn⟩ | ⟨k, x, rfl, hk, hx, _⟩
  · have hln := look_none hn
    have hfv : findV (lookM M) i = (-1, false) := by unfold findV; rw [hln]; rfl
    obtain rfl : v0 = 0 := by rw [← hbv]; unfold dropR; rw [hfv]; rfl
    have e : lookM M = dropS (lookM M) i := by
      unfold dropS
      rw [hfv, if_neg (by decide)]
      funext j
      by_cases hj : j = i
      · subst hj; rw [setS_same, hln]
      · rw [setS_other _ _ hj]
    have HE := Lib.hid e
    have HH := Lib.hid h
    have HU := Lib.hid hu
    clear e h hu hbv hbd hn hln hfv
    go_enter Try.func28, Try.ntmps28
    go_wp2_with fail
    refine hf.mono ?_
    rintro r w' ⟨rfl, rfl⟩
    go_wp2
    go_ret
    exact ⟨rfl, M, HH.out, HU.out, Nat.le_refl _, HE.out, Below.refl _ _⟩
  · have hlk := look_at hu hk hx
    have hfv : findV (lookM M) i = x.2 := by unfold findV; rw [hlk]; rfl
    rw [hfv] at hbd
    obtain ⟨xi, ho, po⟩ := x
    simp only at hx hbd hfv
    obtain rfl : xi = i := hx
    have hv0 : v0 = if 0 ≤ ho then 4 else 0 := by rw [← hbv]; unfold dropR; rw [hfv]
    have hds : dropS (lookM M) xi = if 0 ≤ ho then lookM M else setS (lookM M) xi none := by unfold dropS; rw [hfv]
    have HH := Lib.hid h
    obtain ⟨hBg, v, hb, hown⟩ := h
    have hkl : k < M.length := (List.getElem?_eq_some_iff.1 hk).1
    obtain ⟨n, hn⟩ : ∃ n, n = M.length := ⟨_, rfl⟩
    obtain ⟨q, hq⟩ : ∃ q, M.length = q + 1 := ⟨M.length - 1, by omega⟩
    obtain ⟨g, c, hv⟩ := own_succ (by rw [← hq]; exact hown)
    rw [← hq] at hv
    subst hv
    obtain ⟨A, c', hv2, hrd, hlc, hcm⟩ := own_rd (cells := muC) muC_len hown
    rw [Value.slice.injEq] at hv2
    obtain ⟨rfl, _, rfl⟩ := hv2
    obtain ⟨b1, off, hAA, hb1, c0, c1, c2⟩ := hrd.mu hk
    rw [Option.some.injEq, Addr.mk.injEq] at hAA
    obtain ⟨rfl, rfl, _⟩ := hAA
    rw [Nat.zero_add] at c0 c1 c2
    simp only at c0 c1 c2
    have h0 := hb.cell 0
    rw [show ∀ v : Value, (#[v] : Array Value)[0]? = some v from fun _ => rfl] at h0
    rw [← hn] at h0 hown hb hlc
    have hki : (k : Int) < (n : Int) := by omega
    by_cases h4 : 0 ≤ ho
    · rw [if_pos h4] at hv0 hds
      subst hv0
      have d1 : (ho != -1) = true := by simp; omega
      have HD := Lib.hid hds
      have HU := Lib.hid hu
      clear hds hu hbv hbd h4 hfv hlk hk hq hn hkl
      go_enter Try.func28, Try.ntmps28
      go_wp2_with fail
      refine hf.mono ?_
      rintro r w' ⟨rfl, rfl⟩
      go_wp2
      go_ret
      exact ⟨rfl, M, HH.out, HU.out, Nat.le_refl _, HD.out.symm, Below.refl _ _⟩
    · rw [if_neg h4] at hv0 hds
      subst hv0
      obtain rfl : ho = -1 := by omega
      obtain ⟨i0, hi0, hz0, hz1, hz2⟩ := info_parts info57
      have hfin : Uniq (M.take k ++ M.drop (k + 1)) ∧ lookM (M.take k ++ M.drop (k + 1)) = dropS (lookM M) xi := ⟨uniq_erase hu k, by rw [hds]; exact look_erase hu hk⟩
      have HFIN := Lib.hid hfin
      have r1 := hrd.take k
      have r2 : ∀ A, (c = k + 1 ∨ A = some ⟨g, 0 + (k + 1) * 3, none⟩) → Rd w w.heap.size 3 muC A (M.drop (k + 1)) := by
        rintro A (e | rfl)
        · exact .inl (List.drop_eq_nil_of_le (by omega))
        · exact hrd.from_ (k + 1)
      have hl1 : (M.take k).length = k := by rw [List.length_take]; omega
      have hl2 : (M.drop (k + 1)).length = n - (k + 1) := by rw [List.length_drop, hn]
      have hkn : k + 1 ≤ n := by omega
      have hn9 : n ≤ 100000 := by omega
      have hBw : B ≤ w.heap.size := by have := hb.lt; omega
      have HL1 := Lib.hid hl1
      have HL2 := Lib.hid hl2
      have HR1 := Lib.hid r1
      have HR2 := Lib.hid r2
      have HB := Lib.hid hb
      clear hfin hds hbv hbd h4 hfv hlk hk hq hn hkl hu hown hrd hl1 hl2 r1 r2 hb hL
      by_cases hck : c = k + 1
      · subst hck
        obtain rfl : n = k + 1 := by omega
        have HRA := Lib.hid (fun A => HR2.out A (.inl rfl))
        clear HR2
        go_enter Try.func28, Try.ntmps28
        go_wp2_with fail
        refine hf.mono ?_
        rintro r w' ⟨rfl, rfl⟩
        go_wp2_with (first
          | (at_builtin; refine wpList_append_rd _ rfl (.tmp 21) (.tmp 27) 39 rfl B 57 i0 (.agg #[.int .i64 0, .int .i64 0, .bool false]) 3 24 Try.underlying39 hi0 hz0 hz1 hz2 rfl (by decide) (.slice none 0 0) 0 [] rfl (World.ownsRow_nil _ _ _ _) w.heap.size _ k _ muC muC_len muC_one (M.take k) HL1.out rfl HR1.out (by unfold maxLen; omega) (by omega) hBw ?_; intro v1 w1 hown1 hg1 hx1; have hbl1 := (Below.refl w.heap.size w).grown hg1 (Nat.le_refl _) (by simp [Value.ownBlock]); have hbk1 := HB.out.grown hg1 (by simp [Value.ownBlock]); have q0 := hbk1.cell 0; rw [show ∀ v : Value, (#[v] : Array Value)[0]? = some v from fun _ => rfl] at q0)
          | (at_builtin; refine wpList_append_rd _ rfl (.tmp 29) (.tmp 36) 39 rfl B 57 i0 (.agg #[.int .i64 0, .int .i64 0, .bool false]) 3 24 Try.underlying39 hi0 hz0 hz1 hz2 rfl (by decide) v1 (0 + k) _ rfl hown1 w.heap.size _ 0 _ muC muC_len muC_one (M.drop (k + 1)) (by simpa using HL2.out) rfl ((HRA.out _).below hbl1) (by unfold maxLen; omega) (by omega) (by have := hbl1.size; omega) ?_; intro v2 w2 hown2 hg2 hx2; have hne1 := own_blk_ne hown1 hbk1 (by decide); have hbk2 := hbk1.grown hg2 (fun e => hne1 e.symm); have q3 := hbk2.cell 0; rw [show ∀ v : Value, (#[v] : Array Value)[0]? = some v from fun _ => rfl] at q3; have q4 := hbk2.frozen 0; have hbl2 : Below B w w2 := (hbl1.mono hBw).grown hg2 (by have := hbl1.size; omega) (fun k e => (hown1.lt k e).1); obtain ⟨A2, c2', rfl⟩ := own_slice hown2))
        go_wp2
        all_goals
          go_ret
          have hown3 : w2.ownsRow B 57 3 (.slice A2 k c2') (M.take k ++ M.drop (k + 1)).length ((M.take k ++ M.drop (k + 1)).flatMap muC) := by
            rw [List.length_append, HL1.out, HL2.out, List.flatMap_append]
            simpa using hown2
          exact ⟨rfl, _, RL.set hBg hbk2 hown3, HFIN.out.1, by simp only [List.length_append, List.length_take, List.length_drop]; omega, HFIN.out.2, hbl2.setCell (p := ⟨gr, 0, none⟩) hBg _⟩
      · have hck2 : ¬ (c = k + 1) := hck
        have HRA := Lib.hid (HR2.out (some ⟨g, (k + 1) * 3, none⟩) (.inr (by rw [Nat.zero_add])))
        clear HR2
        go_enter Try.func28, Try.ntmps28
        go_wp2_with fail
        refine hf.mono ?_
        rintro r w' ⟨rfl, rfl⟩
        go_wp2_with (first
          | (at_builtin; refine wpList_append_rd _ rfl (.tmp 21) (.tmp 27) 39 rfl B 57 i0 (.agg #[.int .i64 0, .int .i64 0, .bool false]) 3 24 Try.underlying39 hi0 hz0 hz1 hz2 rfl (by decide) (.slice none 0 0) 0 [] rfl (World.ownsRow_nil _ _ _ _) w.heap.size _ k _ muC muC_len muC_one (M.take k) HL1.out rfl HR1.out (by unfold maxLen; omega) (by omega) hBw ?_; intro v1 w1 hown1 hg1 hx1; have hbl1 := (Below.refl w.heap.size w).grown hg1 (Nat.le_refl _) (by simp [Value.ownBlock]); have hbk1 := HB.out.grown hg1 (by simp [Value.ownBlock]); have q0 := hbk1.cell 0; rw [show ∀ v : Value, (#[v] : Array Value)[0]? = some v from fun _ => rfl] at q0)
          | (at_builtin; refine wpList_append_rd _ rfl (.tmp 29) (.tmp 36) 39 rfl B 57 i0 (.agg #[.int .i64 0, .int .i64 0, .bool false]) 3 24 Try.underlying39 hi0 hz0 hz1 hz2 rfl (by decide) v1 (0 + k) _ rfl hown1 w.heap.size _ (n - (k + 1)) _ muC muC_len muC_one (M.drop (k + 1)) HL2.out rfl (HRA.out.below hbl1) (by unfold maxLen; omega) (by omega) (by have := hbl1.size; omega) ?_; intro v2 w2 hown2 hg2 hx2; have hne1 := own_blk_ne hown1 hbk1 (by decide); have hbk2 := hbk1.grown hg2 (fun e => hne1 e.symm); have q3 := hbk2.cell 0; rw [show ∀ v : Value, (#[v] : Array Value)[0]? = some v from fun _ => rfl] at q3; have q4 := hbk2.frozen 0; have hbl2 : Below B w w2 := (hbl1.mono hBw).grown hg2 (by have := hbl1.size; omega) (fun k e => (hown1.lt k e).1); obtain ⟨A2, c2', rfl⟩ := own_slice hown2))
        go_wp2
        all_goals
          go_ret
          have hown3 : w2.ownsRow B 57 3 (.slice A2 (k + (n - (k + 1))) c2') (M.take k ++ M.drop (k + 1)).length ((M.take k ++ M.drop (k + 1)).flatMap muC) := by
            rw [List.length_append, HL1.out, HL2.out, List.flatMap_append]
            simpa using hown2
          exact ⟨rfl, _, RL.set hBg hbk2 hown3, HFIN.out.1, by simp only [List.length_append, List.length_take, List.length_drop]; omega, HFIN.out.2, hbl2.setCell (p := ⟨gr, 0, none⟩) hBg _⟩
end Go.Proofs.Ythbajgpoldajmaa
