/- Locks: the contract of one: an act on both. -/
import Derived.Test.YthbajgpoldajmaaP
namespace Go.Proofs.Ythbajgpoldajmaa
open Go.ChangeShapes Go.WideShapes Go.RowKit
set_option linter.unusedVariables false
set_option linter.unusedSimpArgs false

theorem Both.fin {w1 w2 : World} {gc gm gr B N : Nat} {S S' : LS} {M M' : List Mu} (hL : LIs w1 gc gm N S') (hB : Below B w1 w2) (hR : RL w2 B gr M') (hU : Uniq M') (he : lookM M' = S') (hn : M'.length ≤ N) (c1 : gc < B) (c2 : gm < B) : Both w2 gc gm gr B N S' M' :=
  ⟨hL.low hB c1 c2, hR, hU, he, hn, c1, c2⟩

set_option maxRecDepth 100000 in
set_option maxHeartbeats 6400000 in
theorem one_any {gc gm gr B N : Nat} {S : LS} {M : List Mu} {k i t : Int} {p : Bool} {w : World} (D : Nat) (h : Both w gc gm gr B N S M) (hN : N ≤ 90000) (ha : Acte.wf ⟨k, i, t, p⟩) (hD : D ≤ w.heap.size) (hDm : D ≤ gm) (hDB : D ≤ B) :
    Calls Try.prog 16 #[.pointer (some ⟨gc, 0, none⟩), .pointer (some ⟨gr, 0, none⟩), .agg #[.int .i64 k, .int .i64 i, .int .i64 t, .bool p]] w fun r w' => r = .returned (.bool true) ∧ (∃ M', Both w' gc gm gr B (N + 1) (doS S ⟨k, i, t, p⟩) M') ∧ Below D w w' := by
  obtain ⟨_, hi, ht⟩ := ha
  simp only at hi ht
  obtain ⟨hl, hr, hu, rfl, hn, hc1, hc2⟩ := h
  have hbox := Blk.new w 23 #[.int .i64 k, .int .i64 i, .int .i64 t, .bool p]
  have hL := hl.alloc (.cells #[.int .i64 k, .int .i64 i, .int .i64 t, .bool p] 23)
  have hR := hr.alloc (.cells #[.int .i64 k, .int .i64 i, .int .i64 t, .bool p] 23)
  have hb0 := ((Below.refl D w).alloc hD (.cells #[.int .i64 k, .int .i64 i, .int .i64 t, .bool p] 23))
  have hgm := hl.lt.2
  have hbd := hl.bd i
  have hgne : some w.heap.size ≠ some gm := by simp; omega
  have HBX := Lib.hid hbox
  have HB0 := Lib.hid hb0
  have HR := Lib.hid hR
  have HBD := Lib.hid hbd
  have HC := Lib.hid (And.intro hc1 hc2)
  have HD := Lib.hid (And.intro hDm hDB)
  have HG := Lib.hid hgne
  have HU := Lib.hid hu
  have HN := Lib.hid (show M.length ≤ 100000 by omega)
  have HNN := Lib.hid hn
  have HD9 := Lib.hid hD
  clear hD hbox hb0 hR hbd hc1 hc2 hDm hDB hgne hu hn hN hgm hl hr
  by_cases k0 : k = 0
  · subst k0
    have HS := Lib.hid (show doS (lookM M) ⟨0, i, t, p⟩ = makeS (lookM M) i from rfl)
    have hm := make_any (makeS (lookM M) i) hL hi rfl
    clear hL
    go_enter Try.func16, Try.ntmps16
    go_wp2_with fail
    refine hm.mono ?_
    rintro r w1 ⟨rfl, hL1, hg1⟩
    have hR1 := HR.out.grown hg1 HC.out.2
    have hb1 := HBX.out.grown hg1 HG.out
    have x0 := hb1.cell 0
    have x1 := hb1.cell 1
    have x2 := hb1.cell 2
    have x3 := hb1.cell 3
    rw [show ∀ a b c d : Value, (#[a, b, c, d] : Array Value)[0]? = some a from fun _ _ _ _ => rfl] at x0
    rw [show ∀ a b c d : Value, (#[a, b, c, d] : Array Value)[1]? = some b from fun _ _ _ _ => rfl] at x1
    rw [show ∀ a b c d : Value, (#[a, b, c, d] : Array Value)[2]? = some c from fun _ _ _ _ => rfl] at x2
    rw [show ∀ a b c d : Value, (#[a, b, c, d] : Array Value)[3]? = some d from fun _ _ _ _ => rfl] at x3
    have HR1 := Lib.hid hR1
    have HB1 := Lib.hid (HB0.out.grown hg1 (Nat.le_trans HD9.out HB0.out.size) (fun q e => by cases e; exact HD.out.1))
    have HL1 := Lib.hid hL1
    clear hR1 hb1 hL1 hg1 hm
    go_wp2_with fail
    refine (refMake_any HR1.out HU.out HN.out).mono ?_
    rintro r w2 ⟨rfl, M', hR2, hU2, hn2, he2, hB2⟩
    have HR2 := Lib.hid hR2
    have HU2 := Lib.hid hU2
    have HE2 := Lib.hid he2
    have HN2 := Lib.hid hn2
    have HB2 := Lib.hid hB2
    clear hR2 hU2 he2 hn2 hB2 x0 x1 x2 x3
    go_wp2
    go_ret
    exact ⟨rfl, ⟨M', Both.fin (S := lookM M) (M := M) (by rw [HS.out]; exact HL1.out) HB2.out HR2.out HU2.out (HE2.out.trans HS.out.symm) (by have := HN2.out; have := HNN.out; omega) HC.out.1 HC.out.2⟩, HB1.out.trans (HB2.out.mono HD.out.2)⟩
  by_cases k1 : k = 1
  · subst k1
    have HS := Lib.hid (show doS (lookM M) ⟨1, i, t, p⟩ = lockS (lookM M) i t from by simp [doS])
    obtain ⟨b, hb⟩ : ∃ b, lockB (lookM M) i t = b := ⟨_, rfl⟩
    have hm := lock_any (lockS (lookM M) i t) b hL hi ht hb rfl
    have HBV := Lib.hid hb
    clear hL hb
    cases b
    all_goals
      go_enter Try.func16, Try.ntmps16
      go_wp2_with fail
      refine hm.mono ?_
      rintro r w1 ⟨rfl, hL1, hg1⟩
      have hR1 := HR.out.grown hg1 HC.out.2
      have hb1 := HBX.out.grown hg1 HG.out
      have x0 := hb1.cell 0
      have x1 := hb1.cell 1
      have x2 := hb1.cell 2
      have x3 := hb1.cell 3
      rw [show ∀ a b c d : Value, (#[a, b, c, d] : Array Value)[0]? = some a from fun _ _ _ _ => rfl] at x0
      rw [show ∀ a b c d : Value, (#[a, b, c, d] : Array Value)[1]? = some b from fun _ _ _ _ => rfl] at x1
      rw [show ∀ a b c d : Value, (#[a, b, c, d] : Array Value)[2]? = some c from fun _ _ _ _ => rfl] at x2
      rw [show ∀ a b c d : Value, (#[a, b, c, d] : Array Value)[3]? = some d from fun _ _ _ _ => rfl] at x3
      have HR1 := Lib.hid hR1
      have HB1 := Lib.hid (HB0.out.grown hg1 (Nat.le_trans HD9.out HB0.out.size) (fun q e => by cases e; exact HD.out.1))
      have HL1 := Lib.hid hL1
      clear hR1 hb1 hL1 hg1 hm
      go_wp2_with fail
      refine (refLock_any _ HR1.out HU.out HN.out HBD.out.1 HBV.out).mono ?_
      rintro r w2 ⟨rfl, M', hR2, hU2, hn2, he2, hB2⟩
      have HR2 := Lib.hid hR2
      have HU2 := Lib.hid hU2
      have HE2 := Lib.hid he2
      have HN2 := Lib.hid hn2
      have HB2 := Lib.hid hB2
      clear hR2 hU2 he2 hn2 hB2 x0 x1 x2 x3
      go_wp2
      go_ret
      exact ⟨rfl, ⟨M', Both.fin (S := lookM M) (M := M) (by rw [HS.out]; exact HL1.out) HB2.out HR2.out HU2.out (HE2.out.trans HS.out.symm) (by have := HN2.out; have := HNN.out; omega) HC.out.1 HC.out.2⟩, HB1.out.trans (HB2.out.mono HD.out.2)⟩
  by_cases k2 : k = 2
  · subst k2
    have HS := Lib.hid (show doS (lookM M) ⟨2, i, t, p⟩ = lockS (lookM M) i t from by simp [doS])
    obtain ⟨b, hb⟩ : ∃ b, lockB (lookM M) i t = b := ⟨_, rfl⟩
    have hm := lock_any (lockS (lookM M) i t) b hL hi ht hb rfl
    have HBV := Lib.hid hb
    clear hL hb
    cases b
    all_goals
      go_enter Try.func16, Try.ntmps16
      go_wp2_with fail
      refine hm.mono ?_
      rintro r w1 ⟨rfl, hL1, hg1⟩
      have hR1 := HR.out.grown hg1 HC.out.2
      have hb1 := HBX.out.grown hg1 HG.out
      have x0 := hb1.cell 0
      have x1 := hb1.cell 1
      have x2 := hb1.cell 2
      have x3 := hb1.cell 3
      rw [show ∀ a b c d : Value, (#[a, b, c, d] : Array Value)[0]? = some a from fun _ _ _ _ => rfl] at x0
      rw [show ∀ a b c d : Value, (#[a, b, c, d] : Array Value)[1]? = some b from fun _ _ _ _ => rfl] at x1
      rw [show ∀ a b c d : Value, (#[a, b, c, d] : Array Value)[2]? = some c from fun _ _ _ _ => rfl] at x2
      rw [show ∀ a b c d : Value, (#[a, b, c, d] : Array Value)[3]? = some d from fun _ _ _ _ => rfl] at x3
      have HR1 := Lib.hid hR1
      have HB1 := Lib.hid (HB0.out.grown hg1 (Nat.le_trans HD9.out HB0.out.size) (fun q e => by cases e; exact HD.out.1))
      have HL1 := Lib.hid hL1
      clear hR1 hb1 hL1 hg1 hm
      go_wp2_with fail
      refine (refLock_any _ HR1.out HU.out HN.out HBD.out.1 HBV.out).mono ?_
      rintro r w2 ⟨rfl, M', hR2, hU2, hn2, he2, hB2⟩
      have HR2 := Lib.hid hR2
      have HU2 := Lib.hid hU2
      have HE2 := Lib.hid he2
      have HN2 := Lib.hid hn2
      have HB2 := Lib.hid hB2
      clear hR2 hU2 he2 hn2 hB2 x0 x1 x2 x3
      go_wp2
      go_ret
      exact ⟨rfl, ⟨M', Both.fin (S := lookM M) (M := M) (by rw [HS.out]; exact HL1.out) HB2.out HR2.out HU2.out (HE2.out.trans HS.out.symm) (by have := HN2.out; have := HNN.out; omega) HC.out.1 HC.out.2⟩, HB1.out.trans (HB2.out.mono HD.out.2)⟩
  by_cases k3 : k = 3
  · subst k3
    have HS := Lib.hid (show doS (lookM M) ⟨3, i, t, p⟩ = unlockS (lookM M) i t p from by simp [doS])
    obtain ⟨b, hb⟩ : ∃ b, unlockB (lookM M) i t = b := ⟨_, rfl⟩
    have hr : unlockR (lookM M) i t = if b then 0 else 5 := by rw [← hb]; rfl
    have hm := unlock_any (po := p) (unlockS (lookM M) i t p) _ hL hi hr rfl
    have HBV := Lib.hid hb
    clear hL hb hr
    cases b
    all_goals
      simp only [if_true, if_false, Bool.false_eq_true] at hm
      go_enter Try.func16, Try.ntmps16
      go_wp2_with fail
      refine hm.mono ?_
      rintro r w1 ⟨rfl, hL1, hg1⟩
      have hR1 := HR.out.grown hg1 HC.out.2
      have hb1 := HBX.out.grown hg1 HG.out
      have x0 := hb1.cell 0
      have x1 := hb1.cell 1
      have x2 := hb1.cell 2
      have x3 := hb1.cell 3
      rw [show ∀ a b c d : Value, (#[a, b, c, d] : Array Value)[0]? = some a from fun _ _ _ _ => rfl] at x0
      rw [show ∀ a b c d : Value, (#[a, b, c, d] : Array Value)[1]? = some b from fun _ _ _ _ => rfl] at x1
      rw [show ∀ a b c d : Value, (#[a, b, c, d] : Array Value)[2]? = some c from fun _ _ _ _ => rfl] at x2
      rw [show ∀ a b c d : Value, (#[a, b, c, d] : Array Value)[3]? = some d from fun _ _ _ _ => rfl] at x3
      have HR1 := Lib.hid hR1
      have HB1 := Lib.hid (HB0.out.grown hg1 (Nat.le_trans HD9.out HB0.out.size) (fun q e => by cases e; exact HD.out.1))
      have HL1 := Lib.hid hL1
      clear hR1 hb1 hL1 hg1 hm
      go_wp2_with fail
      refine (refUnlock_any (p := p) _ HR1.out HU.out HN.out HBD.out.1 HBV.out).mono ?_
      rintro r w2 ⟨rfl, M', hR2, hU2, hn2, he2, hB2⟩
      have HR2 := Lib.hid hR2
      have HU2 := Lib.hid hU2
      have HE2 := Lib.hid he2
      have HN2 := Lib.hid hn2
      have HB2 := Lib.hid hB2
      clear hR2 hU2 he2 hn2 hB2 x0 x1 x2 x3
      go_wp2
      go_ret
      exact ⟨rfl, ⟨M', Both.fin (S := lookM M) (M := M) (by rw [HS.out]; exact HL1.out) HB2.out HR2.out HU2.out (HE2.out.trans HS.out.symm) (by have := HN2.out; have := HNN.out; omega) HC.out.1 HC.out.2⟩, HB1.out.trans (HB2.out.mono HD.out.2)⟩
  by_cases k4 : k = 4
  · subst k4
    have HS := Lib.hid (show doS (lookM M) ⟨4, i, t, p⟩ = unlockS (lookM M) i t p from by simp [doS])
    obtain ⟨b, hb⟩ : ∃ b, unlockB (lookM M) i t = b := ⟨_, rfl⟩
    have hr : unlockR (lookM M) i t = if b then 0 else 5 := by rw [← hb]; rfl
    have hm := unlock_any (po := p) (unlockS (lookM M) i t p) _ hL hi hr rfl
    have HBV := Lib.hid hb
    clear hL hb hr
    cases b
    all_goals
      simp only [if_true, if_false, Bool.false_eq_true] at hm
      go_enter Try.func16, Try.ntmps16
      go_wp2_with fail
      refine hm.mono ?_
      rintro r w1 ⟨rfl, hL1, hg1⟩
      have hR1 := HR.out.grown hg1 HC.out.2
      have hb1 := HBX.out.grown hg1 HG.out
      have x0 := hb1.cell 0
      have x1 := hb1.cell 1
      have x2 := hb1.cell 2
      have x3 := hb1.cell 3
      rw [show ∀ a b c d : Value, (#[a, b, c, d] : Array Value)[0]? = some a from fun _ _ _ _ => rfl] at x0
      rw [show ∀ a b c d : Value, (#[a, b, c, d] : Array Value)[1]? = some b from fun _ _ _ _ => rfl] at x1
      rw [show ∀ a b c d : Value, (#[a, b, c, d] : Array Value)[2]? = some c from fun _ _ _ _ => rfl] at x2
      rw [show ∀ a b c d : Value, (#[a, b, c, d] : Array Value)[3]? = some d from fun _ _ _ _ => rfl] at x3
      have HR1 := Lib.hid hR1
      have HB1 := Lib.hid (HB0.out.grown hg1 (Nat.le_trans HD9.out HB0.out.size) (fun q e => by cases e; exact HD.out.1))
      have HL1 := Lib.hid hL1
      clear hR1 hb1 hL1 hg1 hm
      go_wp2_with fail
      refine (refUnlock_any (p := p) _ HR1.out HU.out HN.out HBD.out.1 HBV.out).mono ?_
      rintro r w2 ⟨rfl, M', hR2, hU2, hn2, he2, hB2⟩
      have HR2 := Lib.hid hR2
      have HU2 := Lib.hid hU2
      have HE2 := Lib.hid he2
      have HN2 := Lib.hid hn2
      have HB2 := Lib.hid hB2
      clear hR2 hU2 he2 hn2 hB2 x0 x1 x2 x3
      go_wp2
      go_ret
      exact ⟨rfl, ⟨M', Both.fin (S := lookM M) (M := M) (by rw [HS.out]; exact HL1.out) HB2.out HR2.out HU2.out (HE2.out.trans HS.out.symm) (by have := HN2.out; have := HNN.out; omega) HC.out.1 HC.out.2⟩, HB1.out.trans (HB2.out.mono HD.out.2)⟩
  by_cases k5 : k = 5
  · subst k5
    have HS := Lib.hid (show doS (lookM M) ⟨5, i, t, p⟩ = dropS (lookM M) i from by simp [doS])
    obtain ⟨b, hb⟩ : ∃ b : Bool, dropR (lookM M) i = if b then 4 else 0 := by
      by_cases h0 : 0 ≤ (findV (lookM M) i).1
      · exact ⟨true, by unfold dropR; simp [h0]⟩
      · exact ⟨false, by unfold dropR; simp [h0]⟩
    have hm := drop_any (dropS (lookM M) i) _ hL hi hb rfl
    have HBV := Lib.hid hb
    clear hL hb
    cases b
    all_goals
      simp only [if_true, if_false, Bool.false_eq_true] at hm
      go_enter Try.func16, Try.ntmps16
      go_wp2_with fail
      refine hm.mono ?_
      rintro r w1 ⟨rfl, hL1, hg1⟩
      have hR1 := HR.out.grown hg1 HC.out.2
      have hb1 := HBX.out.grown hg1 HG.out
      have x0 := hb1.cell 0
      have x1 := hb1.cell 1
      have x2 := hb1.cell 2
      have x3 := hb1.cell 3
      rw [show ∀ a b c d : Value, (#[a, b, c, d] : Array Value)[0]? = some a from fun _ _ _ _ => rfl] at x0
      rw [show ∀ a b c d : Value, (#[a, b, c, d] : Array Value)[1]? = some b from fun _ _ _ _ => rfl] at x1
      rw [show ∀ a b c d : Value, (#[a, b, c, d] : Array Value)[2]? = some c from fun _ _ _ _ => rfl] at x2
      rw [show ∀ a b c d : Value, (#[a, b, c, d] : Array Value)[3]? = some d from fun _ _ _ _ => rfl] at x3
      have HR1 := Lib.hid hR1
      have HB1 := Lib.hid (HB0.out.grown hg1 (Nat.le_trans HD9.out HB0.out.size) (fun q e => by cases e; exact HD.out.1))
      have HL1 := Lib.hid hL1
      clear hR1 hb1 hL1 hg1 hm
      go_wp2_with fail
      refine (refDrop_any _ HR1.out HU.out HN.out HBD.out.1 HBV.out).mono ?_
      rintro r w2 ⟨rfl, M', hR2, hU2, hn2, he2, hB2⟩
      have HR2 := Lib.hid hR2
      have HU2 := Lib.hid hU2
      have HE2 := Lib.hid he2
      have HN2 := Lib.hid hn2
      have HB2 := Lib.hid hB2
      clear hR2 hU2 he2 hn2 hB2 x0 x1 x2 x3
      go_wp2
      go_ret
      exact ⟨rfl, ⟨M', Both.fin (S := lookM M) (M := M) (by rw [HS.out]; exact HL1.out) HB2.out HR2.out HU2.out (HE2.out.trans HS.out.symm) (by have := HN2.out; have := HNN.out; omega) HC.out.1 HC.out.2⟩, HB1.out.trans (HB2.out.mono HD.out.2)⟩
  have HS := Lib.hid (show doS (lookM M) ⟨k, i, t, p⟩ = lookM M by simp [doS, k0, k1, k2, k3, k4, k5])
  have b0 : (k == 0) = false := by simpa using k0
  have b1 : (k == 1) = false := by simpa using k1
  have b2 : (k == 2) = false := by simpa using k2
  have b3 : (k == 3) = false := by simpa using k3
  have b4 : (k == 4) = false := by simpa using k4
  have b5 : (k == 5) = false := by simpa using k5
  have HL := Lib.hid hL
  clear hL hi ht k0 k1 k2 k3 k4 k5
  go_enter Try.func16, Try.ntmps16
  go_wp2
  go_ret
  exact ⟨rfl, ⟨M, Both.fin (S := lookM M) (M := M) (by rw [HS.out]; exact HL.out.mono (by omega)) (Below.refl _ _) HR.out HU.out HS.out.symm (by have := HNN.out; omega) HC.out.1 HC.out.2⟩, HB0.out⟩
end Go.Proofs.Ythbajgpoldajmaa
