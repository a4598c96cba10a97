/- Counts: the contract of the document's own Less: the first owner that fits is struck. -/
import Derived.Test.YtbekljgcbbhnbaaRef
namespace Go.Proofs.Ytbekljgcbbhnbaa
open Go.ChangeShapes Go.WideShapes Go.RowKit
set_option linter.unusedVariables false

theorem many_cut (L : List One) (i e : Int) (k : Nat) (h : L[k]? = some (i, e)) (a b : Int) :
    many (L.take k ++ L.drop (k + 1)) a b = many L a b - if a = i ∧ b = e then 1 else 0 := by
  have hk : k < L.length := (List.getElem?_eq_some_iff.1 h).1
  have hL : L = L.take k ++ (i, e) :: L.drop (k + 1) := by
    have := List.take_append_drop k L
    rw [List.drop_eq_getElem_cons hk] at this
    have he : L[k] = (i, e) := (List.getElem?_eq_some_iff.1 h).2
    rw [he] at this
    exact this.symm
  conv => rhs; rw [hL]
  unfold many
  simp only [List.countP_append, List.countP_cons]
  by_cases hc : a = i ∧ b = e
  · obtain ⟨rfl, rfl⟩ := hc
    simp; omega
  · rw [if_neg hc]
    have : (i == a && e == b) = false := by
      simp
      intro h1 h2
      exact hc ⟨h1.symm, h2.symm⟩
    simp [this]
theorem many_pos (L : List One) (i e : Int) (k : Nat) (h : L[k]? = some (i, e)) : 0 < many L i e := by
  unfold many
  have : 0 < L.countP (fun x => x.1 == i && x.2 == e) := List.countP_pos_iff.2 ⟨(i, e), List.mem_of_getElem? h, by simp⟩
  omega
theorem many_none (L : List One) (i e : Int) (h : ∀ (j : Nat) (x : One), L[j]? = some x → x ≠ (i, e)) : many L i e = 0 := by
  unfold many
  have : L.countP (fun x => x.1 == i && x.2 == e) = 0 := by
    rw [List.countP_eq_zero]
    intro x hx hp
    obtain ⟨j, hj⟩ := List.mem_iff_getElem?.1 hx
    refine h j x hj ?_
    simp at hp
    exact Prod.ext hp.1 hp.2
  omega

theorem one1 (x : One) : ∀ u ∈ oneC x, u.oneCell' = true := by
  intro u hu
  simp [oneC] at hu
  rcases hu with rfl | rfl <;> rfl

/-- what the document's Less leaves -/
def LessPost (B gr : Nat) (L : List One) (i e : Int) (w : World) (r : Ending) (w' : World) : Prop :=
  (many L i e = 0 ∧ r = .returned (.tuple #[.int .i64 0, .bool false]) ∧ w = w') ∨
  (0 < many L i e ∧ r = .returned (.tuple #[.int .i64 (many L i e - 1), .bool true]) ∧ Below B w w' ∧ ∃ L', RIs w' B gr L' ∧ L'.length ≤ L.length ∧ ∀ a b, many L' a b = many L a b - if a = i ∧ b = e then 1 else 0)

set_option maxRecDepth 100000 in
set_option maxHeartbeats 800000 in
theorem refLess_any (B gr : Nat) (L : List One) (i e : Int) (w : World) (h : RIs w B gr L) (hL : L.length < 1000) :
    Calls Try.prog 10 #[.pointer (some ⟨gr, 0, none⟩), .int .i64 i, .int .i64 e] w (LessPost B gr L i e w) := by
  obtain ⟨hBg, v, hb, hown⟩ := h
  obtain ⟨A, c, rfl, hrd, hlc, hcm⟩ := own_rd (cells := oneC) (fun _ => rfl) hown
  have h0 := hb.cell 0
  simp at h0
  obtain ⟨n, hn⟩ : ∃ n, n = L.length := ⟨_, rfl⟩
  rw [← hn] at h0 hL hlc hown hb
  have HN := Lib.hid hn
  clear hn
  unfold maxLen at hcm
  have HOWN := Lib.hid hown
  clear hown
  obtain ⟨i0, hi0, hz0, hz1, hz2⟩ := info_parts info46
  go_enter Try.func10, Try.ntmps10
  go_wp2
  go_loop [8] (fun j => ∃ k : Nat, k ≤ n ∧ j = .int .i64 k ∧ ∀ t x, t < k → L[t]? = some x → x ≠ (i, e)) (fun j => n - (intOf j).toNat)
  case atStart => exact ⟨0, by omega, rfl, by omega⟩
  case round =>
    obtain ⟨k, hk, rfl, hnot⟩ := hrel
    have HNOT := Lib.hid hnot
    clear hnot
    by_cases hlt : k < n
    · obtain ⟨b, off, a, x, hx, rfl, hbb, hc0, hc1⟩ := hrd.one (by rw [← HN.out]; exact hlt)
      have HRD := Lib.hid hrd
      clear hrd
      by_cases hit : a = i ∧ x = e
      · obtain ⟨rfl, rfl⟩ := hit
        have hne : ∀ w1 : World, w.grownBy w1 none → w1.cell? ⟨gr, 0, none⟩ = some (.slice (some ⟨b, off, none⟩) n c) := fun w1 hg => hg.cell h0 (by simp)
        have HNE := Lib.hid hne
        clear hne
        by_cases hcap : c = k + 1
        · obtain rfl : n = k + 1 := by omega
          subst hcap
          go_wp2_with (first
            | (at_builtin; refine wpList_append_rd _ rfl (.tmp 30) (.tmp 36) 26 rfl B 46 i0 (.agg #[.int .i64 0, .int .i64 0]) 2 16 Try.underlying26 hi0 hz0 hz1 hz2 rfl (by decide) (.slice none 0 0) 0 [] rfl (World.ownsRow_nil _ _ _ _) w.heap.size _ k _ oneC (fun _ => rfl) one1 (L.take k) (by rw [List.length_take, ← HN.out]; omega) rfl (HRD.out.take k) (by unfold maxLen; omega) (by omega) (by have := hb.lt; omega) ?_; intro v1 w1 hown1 hg1 hat1; have hcc := HNE.out w1 hg1; have hg1' := hg1)
            | (at_builtin; refine wpList_append_rd _ rfl (.tmp 38) (.tmp 45) 26 rfl B 46 i0 (.agg #[.int .i64 0, .int .i64 0]) 2 16 Try.underlying26 hi0 hz0 hz1 hz2 rfl (by decide) v1 (0 + k) ([] ++ (L.take k).flatMap oneC) rfl hown1 w.heap.size _ _ _ oneC (fun _ => rfl) one1 [] (by simp) rfl (.inl rfl) (by unfold maxLen; omega) (by omega) (by have := hb.lt; have := hg1.size; omega) ?_; intro v2 w2 hown2 hg2 hat2; obtain ⟨A3, c3, rfl⟩ := own_slice hown2; have hb1 := hb.grown hg1 (by simp [Value.ownBlock]); have hb2 := hb1.grown hg2 (fun h => own_blk_ne hown1 hb1 (by decide) h.symm); have hcc2 := hb2.cell 0; have hff2 := hb2.frozen 0; simp only [List.getElem?_toArray, List.getElem?_cons_zero] at hcc2))
          have hR : RIs (w2.setCell ⟨gr, 0, none⟩ (.slice A3 (k) c3)) B gr (L.take k ++ L.drop (k + 1)) := by
            refine RIs.set (w := w2) hBg hb2 ?_ rfl
            have e1 : (L.take k ++ L.drop (k + 1)).length = k := by rw [List.length_append, List.length_take, List.length_drop, ← HN.out]; omega
            rw [e1]
            have e2 : L.drop (k + 1) = [] := List.drop_eq_nil_of_le (by rw [← HN.out]; exact Nat.le_refl _)
            rw [e2]; simpa using hown2
          have hBB : Below B w (w2.setCell ⟨gr, 0, none⟩ (.slice A3 (k) c3)) := by
            have b1 : Below B w w1 := (Below.refl _ _).grown hg1 (by have := hb.lt; omega) (by simp [Value.ownBlock])
            have b2 : Below B w w2 := b1.grown hg2 (by have := hb.lt; have := hg1.size; omega) (fun k e => (hown1.lt k e).1)
            exact b2.setCell (p := ⟨gr, 0, none⟩) hBg _
          have hof := refOf_any B gr _ a x _ hR (by rw [List.length_append, List.length_take, List.length_drop, ← HN.out]; omega)
          rw [many_cut L a x k hx, if_pos ⟨rfl, rfl⟩] at hof
          have HR := Lib.hid hR
          have HBB := Lib.hid hBB
          have HOF := Lib.hid hof
          clear hR hBB hof hown1 hown2 hg1 hg2 hg1' hcc
          go_wp2_with fail
          refine HOF.out.mono ?_
          rintro r w' ⟨rfl, rfl⟩
          go_wp2
          go_ret2
          refine .inr ⟨many_pos L a x k hx, rfl, HBB.out, _, HR.out, ?_, many_cut L a x k hx⟩
          rw [List.length_append, List.length_take, List.length_drop, ← HN.out]; omega
        · have hcut := fun w1 hg => ((HRD.out.grown (w' := w1) (row := none) hg (Nat.le_refl _) (by simp)).from_ (k + 1))
          have HCUT := Lib.hid hcut
          clear hcut
          go_wp2_with (first
            | (at_builtin; refine wpList_append_rd _ rfl (.tmp 30) (.tmp 36) 26 rfl B 46 i0 (.agg #[.int .i64 0, .int .i64 0]) 2 16 Try.underlying26 hi0 hz0 hz1 hz2 rfl (by decide) (.slice none 0 0) 0 [] rfl (World.ownsRow_nil _ _ _ _) w.heap.size _ k _ oneC (fun _ => rfl) one1 (L.take k) (by rw [List.length_take, ← HN.out]; omega) rfl (HRD.out.take k) (by unfold maxLen; omega) (by omega) (by have := hb.lt; omega) ?_; intro v1 w1 hown1 hg1 hat1; have hcc := HNE.out w1 hg1; have hg1' := hg1)
            | (at_builtin; refine wpList_append_rd _ rfl (.tmp 38) (.tmp 45) 26 rfl B 46 i0 (.agg #[.int .i64 0, .int .i64 0]) 2 16 Try.underlying26 hi0 hz0 hz1 hz2 rfl (by decide) v1 (0 + k) ([] ++ (L.take k).flatMap oneC) rfl hown1 w.heap.size _ _ _ oneC (fun _ => rfl) one1 (L.drop (k + 1)) (by rw [List.length_drop, ← HN.out]) rfl (HCUT.out w1 hg1) (by unfold maxLen; omega) (by omega) (by have := hb.lt; have := hg1.size; omega) ?_; intro v2 w2 hown2 hg2 hat2; obtain ⟨A3, c3, rfl⟩ := own_slice hown2; have hb1 := hb.grown hg1 (by simp [Value.ownBlock]); have hb2 := hb1.grown hg2 (fun h => own_blk_ne hown1 hb1 (by decide) h.symm); have hcc2 := hb2.cell 0; have hff2 := hb2.frozen 0; simp only [List.getElem?_toArray, List.getElem?_cons_zero] at hcc2))
          have hR : RIs (w2.setCell ⟨gr, 0, none⟩ (.slice A3 (k + (n - (k + 1))) c3)) B gr (L.take k ++ L.drop (k + 1)) := by
            refine RIs.set (w := w2) hBg hb2 ?_ rfl
            have e1 : (L.take k ++ L.drop (k + 1)).length = k + (n - (k + 1)) := by rw [List.length_append, List.length_take, List.length_drop, ← HN.out]; omega
            rw [e1]
            rw [List.flatMap_append]; simpa using hown2
          have hBB : Below B w (w2.setCell ⟨gr, 0, none⟩ (.slice A3 (k + (n - (k + 1))) c3)) := by
            have b1 : Below B w w1 := (Below.refl _ _).grown hg1 (by have := hb.lt; omega) (by simp [Value.ownBlock])
            have b2 : Below B w w2 := b1.grown hg2 (by have := hb.lt; have := hg1.size; omega) (fun k e => (hown1.lt k e).1)
            exact b2.setCell (p := ⟨gr, 0, none⟩) hBg _
          have hof := refOf_any B gr _ a x _ hR (by rw [List.length_append, List.length_take, List.length_drop, ← HN.out]; omega)
          rw [many_cut L a x k hx, if_pos ⟨rfl, rfl⟩] at hof
          have HR := Lib.hid hR
          have HBB := Lib.hid hBB
          have HOF := Lib.hid hof
          clear hR hBB hof hown1 hown2 hg1 hg2 hg1' hcc
          go_wp2_with fail
          refine HOF.out.mono ?_
          rintro r w' ⟨rfl, rfl⟩
          go_wp2
          go_ret2
          refine .inr ⟨many_pos L a x k hx, rfl, HBB.out, _, HR.out, ?_, many_cut L a x k hx⟩
          rw [List.length_append, List.length_take, List.length_drop, ← HN.out]; omega
      · have hany : ∀ t y, t < k + 1 → L[t]? = some y → y ≠ (i, e) := by
          intro t y ht hy
          by_cases htk : t < k
          · exact HNOT.out t y htk hy
          · obtain rfl : t = k := by omega
            rw [hx] at hy
            cases hy
            intro h; cases h; exact hit ⟨rfl, rfl⟩
        have HANY := Lib.hid hany
        clear hany hit
        by_cases ha : a = i
        · have hxe : ¬ x = e := fun h => HANY.out k _ (by omega) hx (by rw [ha, h])
          have HA := Lib.hid ha
          subst ha
          go_wp2
          go_round
          case rel => exact ⟨k + 1, by omega, by go_num, HANY.out⟩
          case measure => simp [intOf] <;> omega
        · go_wp2
          go_round
          case rel => exact ⟨k + 1, by omega, by go_num, HANY.out⟩
          case measure => simp [intOf] <;> omega
    · obtain rfl : k = n := by omega
      go_wp2
      go_ret2
      exact .inl ⟨many_none _ _ _ fun j y hy => HNOT.out j y (by rw [HN.out]; exact (List.getElem?_eq_some_iff.1 hy).1) hy, rfl, rfl⟩
end Go.Proofs.Ytbekljgcbbhnbaa
