/- Sets: contracts of the document's Union, Pick, Same, Within; of Many, rise. -/
import Derived.Test.YtfdgbegoaaihoaaSeD
import Derived.Deep.DeepCutAuto
namespace Go.Proofs.Ytfdgbegoaaihoaa
open Go.RowKit
set_option linter.unusedVariables false
set_option linter.unusedSimpArgs false

set_option maxHeartbeats 1600000 in
theorem runion_any (x y : Nm) (n m : Nat) (w : World) (hx : NmOk w x n) (hy : NmOk w y m) (hn : n ≤ 200000) (hm : m ≤ 200000) :
    Calls Try.prog 13 #[.slice x.pa n x.pc, .slice y.pa m y.pc] w (NmMade w (unionS x.row y.row)) := by
  obtain ⟨i0, hi0, hz0, hz1, hz2⟩ := info_parts infoS
  have HX := Lib.hid hx.rd
  have HLx := Lib.hid hx.ln
  have HY := Lib.hid hy.rd
  have HLy := Lib.hid hy.ln
  clear hx hy
  go_enter Try.func13, Try.ntmps13
  go_upto_region 3 with (at_builtin; refine wpList_append_rd _ rfl _ _ 22 rfl w.heap.size 9 i0 (.string ByteArray.empty) 1 16 Try.underlying22 hi0 hz0 hz1 hz2 rfl (by decide) _ 0 [] rfl (World.ownsRow_nil _ _ _ _) _ _ n x.pc sC sC_len sC_one x.row HLx.out rfl HX.out (by unfold maxLen; omega) (by omega) (Nat.le_refl _) ?_; intro v2 w2 hown2 hg2 _)
  have hb2 : Below w.heap.size w w2 := (Below.refl _ _).grown hg2 (Nat.le_refl _) (fun q hq => by cases hq)
  have HB2 := Lib.hid hb2
  have HO2 := Lib.hid hown2
  have HY2 := Lib.hid (HY.out.below hb2)
  have hs2 := hb2.size
  clear hown2 hg2 hb2
  go_wp2_with (at_builtin; refine wpList_append_rd _ rfl _ _ 22 rfl w.heap.size 9 i0 (.string ByteArray.empty) 1 16 Try.underlying22 hi0 hz0 hz1 hz2 rfl (by decide) _ (0 + n) _ rfl HO2.out _ _ m y.pc sC sC_len sC_one y.row HLy.out rfl HY2.out (by unfold maxLen; omega) (by omega) hs2 ?_; intro v3 w3 hown3 hg3 _)
  have hfin : w3.ownsRow w.heap.size 9 1 v3 (n + m) ((x.row ++ y.row).flatMap sC) := by
    rw [List.flatMap_append]; simpa using hown3
  obtain ⟨z, rfl, hz, ho⟩ := NmOwn.of hfin
  have HB3 := Lib.hid (HB2.out.grown hg3 hs2 (fun q hq => (HO2.out.lt q hq).1))
  have HC := Lib.hid (rof_any z (n + m) w3 ho.ok (by omega))
  rw [hz] at HC
  have hs3 := HB3.out.size
  clear hown3 hg3 hfin ho hz
  go_wp2_with fail
  refine HC.out.mono ?_
  rintro r w4 ⟨u, nu, rfl, hu, ho, hb4⟩
  have HF := Lib.hid (show NmMade w (unionS x.row y.row) (.returned (.slice u.pa nu u.pc)) w4 from ⟨u, nu, rfl, hu, ho.less hs3, HB3.out.trans (hb4.mono hs3)⟩)
  clear hu ho hb4
  go_wp2
  go_ret
  exact HF.out

def pickR (a b : List Bs) (is : Bool) (k : Nat) : List Bs := (a.take k).filter fun x => hasS b x == is
set_option maxHeartbeats 3200000 in
theorem rpick_any (x y : Nm) (n m : Nat) (is : Bool) (w : World) (hx : NmOk w x n) (hy : NmOk w y m) (hn : n ≤ 400000) (hm : m ≤ 400000) :
    Calls Try.prog 15 #[.slice x.pa n x.pc, .slice y.pa m y.pc, .bool is] w (NmMade w (pickS x.row y.row is)) := by
  obtain ⟨i0, hi0, hz0, hz1, hz2⟩ := info_parts infoS
  obtain ⟨A, c, L⟩ := x
  obtain ⟨A', c', M⟩ := y
  have H := Lib.hid (show Rd w w.heap.size 1 sC A L from hx.rd)
  have HL := Lib.hid (show L.length = n from hx.ln)
  have HY := Lib.hid hy
  clear hx hy
  dsimp only
  go_enter Try.func15, Try.ntmps15
  go_wp2
  go_loopw [7, 8] (fun o i wr => ∃ (k : Nat) (A0 : Option Addr) (c0 : Nat), k ≤ n ∧ i = .int .i64 k ∧ o = .slice A0 (pickTo L M is k).length c0 ∧ wr.ownsRow w.heap.size 9 1 (.slice A0 (pickTo L M is k).length c0) (pickTo L M is k).length ((pickTo L M is k).flatMap sC) ∧ Below w.heap.size w wr) (fun _ i _ => n - (intOf i).toNat)
  case atStart => exact ⟨0, none, 0, by omega, rfl, rfl, World.ownsRow_nil _ _ _ _, Below.refl _ _⟩
  case round =>
    obtain ⟨k, A0, c0, hk, rfl, hoe, hown, hbl⟩ := hrel
    subst hoe
    have hpl := pickTo_len L M is k
    have HO := Lib.hid hown
    have HB := Lib.hid hbl
    have hsw := hbl.size
    obtain ⟨q, hq⟩ : ∃ q, (pickTo L M is k).length = q := ⟨_, rfl⟩
    have HQ := Lib.hid hq
    rw [hq] at hpl HO ⊢
    clear hown hbl hq
    by_cases hlt : k < n
    · obtain ⟨b, off, s, hs, hA, hb, hc⟩ := (H.out.below HB.out).str (k := k) (by rw [HL.out]; exact hlt)
      have hki : (k : Int) < (n : Int) := by omega
      have HSK := Lib.hid hs
      obtain ⟨hb1, hhb⟩ : ∃ b1, hasS M s = b1 := ⟨_, rfl⟩
      have HHB := Lib.hid hhb
      have HC := Lib.hid (rhas_bool ⟨A', c', M⟩ m s hhb wr (HY.out.next HB.out) (by omega))
      subst hA
      clear hs hhb
      by_cases hbe : hb1 = is
      · have e : (hb1 == is) = true := by rw [hbe]; simp
        have HP := Lib.hid (pickTo_yes HSK.out (HHB.out.trans hbe))
        have HL3 := Lib.hid (show (pickTo L M is (k + 1)).length = q + 1 by rw [HP.out, List.length_append, HQ.out]; rfl)
        clear hbe
        go_wp2_with fail
        refine HC.out.mono ?_
        rintro r w1 ⟨rfl, hwe⟩
        subst hwe
        go_wp2_with (at_builtin; refine wpList_append_rd _ rfl _ _ 22 rfl w.heap.size 9 i0 (.string ByteArray.empty) 1 16 Try.underlying22 hi0 hz0 hz1 hz2 rfl (by decide) _ q _ rfl (own_below HO.out ((Below.refl _ _).alloc (Nat.le_refl _) _)) _ _ 1 1 sC sC_len sC_one [s] rfl rfl (rd_one (cells := sC) (x := s) sC_len (Blk.new _ 9 _) rfl) (by unfold maxLen; omega) (by omega) (by simp; omega) ?_; intro v2 w3 hown2 hg2 _)
        have HB3 := Lib.hid ((HB.out.alloc HB.out.size (.cells #[.string (enc s)] 9)).grown hg2 (by simp; omega) (fun g hg => (HO.out.lt g hg).1))
        have HO3 := Lib.hid (show w3.ownsRow w.heap.size 9 1 v2 (q + 1) ((pickTo L M is (k + 1)).flatMap sC) by rw [HP.out, List.flatMap_append]; simpa using hown2)
        obtain ⟨A3, c3, rfl⟩ := own_slice HO3.out
        clear hown2 hg2
        go_wp2
        go_roundw
        case rel => exact ⟨k + 1, A3, c3, by omega, by go_num, by rw [HL3.out], by rw [HL3.out]; exact HO3.out, HB3.out⟩
        case measure => simp [intOf] <;> omega
      · have e : (hb1 == is) = false := by rw [beq_eq_false_iff_ne]; exact hbe
        have HP := Lib.hid (pickTo_no (is := is) HSK.out (HHB.out.trans (by cases hb1 <;> cases is <;> simp at hbe ⊢)))
        clear hbe
        go_wp2_with fail
        refine HC.out.mono ?_
        rintro r w1 ⟨rfl, hwe⟩
        subst hwe
        go_wp2
        go_roundw
        case rel => exact ⟨k + 1, A0, c0, by omega, by go_num, by rw [HP.out, HQ.out], by rw [HP.out, HQ.out]; exact HO.out, HB.out⟩
        case measure => simp [intOf] <;> omega
    · obtain rfl : k = n := by omega
      have hrow : setS (pickTo L M is k) = pickS L M is := by
        unfold pickTo
        rw [List.take_of_length_le (by rw [HL.out]; exact Nat.le_refl _)]
        exact refS_pick L M is
      have hok : NmOk wr ⟨A0, c0, pickTo L M is k⟩ q := NmOwn.ok (B := w.heap.size) ⟨HO.out, HQ.out⟩
      have hc0 := rof_any ⟨A0, c0, pickTo L M is k⟩ q wr hok (by omega)
      dsimp only at hc0
      rw [hrow] at hc0
      have HC := Lib.hid hc0
      clear hrow hok hc0
      go_wp2_with fail
      refine HC.out.mono ?_
      rintro r w4 ⟨u, nu, rfl, hu, ho, hb4⟩
      have HF := Lib.hid (show NmMade w (pickS L M is) (.returned (.slice u.pa nu u.pc)) w4 from ⟨u, nu, rfl, hu, ho.less hsw, HB.out.trans (hb4.mono hsw)⟩)
      clear hu ho hb4
      go_wp2
      go_ret
      exact HF.out

theorem rwithin_bool (x y : Nm) (n m : Nat) {b : Bool} (hb : withinS x.row y.row = b) (w : World) (hx : NmOk w x n) (hy : NmOk w y m) (hn : n ≤ 400000) (hm : m ≤ 400000) :
    Calls Try.prog 20 #[.slice x.pa n x.pc, .slice y.pa m y.pc] w fun r w' => r = .returned (.bool b) ∧ Below w.heap.size w w' := by
  have HE := Lib.hid (rpick_any x y n m false w hx hy hn hm)
  have HBB := Lib.hid hb
  clear hx hy hb
  go_enter Try.func20, Try.ntmps20
  go_wp2_with fail
  refine HE.out.mono ?_
  rintro r w1 ⟨u, nu, rfl, hu, ho, hb1⟩
  have HB1 := Lib.hid hb1
  have he : ((nu : Int) == 0) = b := by
    rw [← HBB.out, ← ho.ln, hu]
    unfold withinS
    rw [Bool.eq_iff_iff, beq_iff_eq, decide_eq_true_iff]
    omega
  clear hu ho hb1
  go_wp2
  go_ret
  exact ⟨rfl, HB1.out⟩

set_option maxHeartbeats 800000 in
theorem rsame_any (A A' : Option Addr) (len len' c c' B B' : Nat) (L M : List Bs) (w : World) (hl : L.length = len) (hl' : M.length = len') (hm : len ≤ maxLen) (h : Rd w B 1 sC A L) (h' : Rd w B' 1 sC A' M) :
    Calls Try.prog 11 #[.slice A len c, .slice A' len' c'] w fun r w' => r = .returned (.bool (decide (L = M))) ∧ ∃ n, w' = w.drewN n := by
  unfold maxLen at hm
  by_cases hne : len = len'
  · subst hne
    have HL := Lib.hid hl
    have HM := Lib.hid hl'
    have H := Lib.hid h
    have H' := Lib.hid h'
    clear hl hl' h h'
    go_enter Try.func11, Try.ntmps11
    go_wp2
    go_loopw [5] (fun i wr => ∃ k : Nat, k ≤ len ∧ i = .int .i64 k ∧ L.take k = M.take k ∧ ∃ n, wr = w.drewN n) (fun i _ => len - (intOf i).toNat)
    case atStart => exact ⟨0, by omega, rfl, rfl, 0, rfl⟩
    case round =>
      obtain ⟨k, hk, rfl, hall, n, rfl⟩ := hrel
      have HA := Lib.hid hall
      clear hall
      by_cases hlt : k < len
      · obtain ⟨b, off, x, hx, rfl, hb, hc⟩ := H.out.str (k := k) (by rw [HL.out]; exact hlt)
        obtain ⟨b', off', y, hy, rfl, hb', hc'⟩ := H'.out.str (k := k) (by rw [HM.out]; exact hlt)
        have hki : (k : Int) < (len : Int) := by omega
        have hk0 : (0 : Int) ≤ (k : Int) := by omega
        by_cases hxy : x = y
        · have e : ((enc x).toList == (enc y).toList) = true := by rw [enc_eq, decide_eq_true hxy]
          have hnx : L.take (k + 1) = M.take (k + 1) := by rw [List.take_add_one, List.take_add_one, HA.out, hx, hy, hxy]
          have HN := Lib.hid hnx
          clear hnx hx hy hxy
          go_wp2
          go_quiet (fail)
          go_wp2
          go_roundw
          case rel => exact ⟨k + 1, by omega, by go_num, HN.out, _, rfl⟩
          case measure => simp [intOf] <;> omega
        · have e : ((enc x).toList == (enc y).toList) = false := by rw [enc_eq, decide_eq_false hxy]
          have hno : decide (L = M) = false := by
            rw [decide_eq_false_iff_not]; rintro rfl
            rw [hx] at hy; cases hy; exact hxy rfl
          have HN := Lib.hid hno
          clear hno hx hy hxy
          go_wp2
          go_quiet (fail)
          go_wp2
          go_ret
          exact ⟨by rw [HN.out]; rfl, _, World.drewN_drewN _ _ _⟩
      · obtain rfl : k = len := by omega
        have hyes : decide (L = M) = true := by
          rw [decide_eq_true_iff]
          have := HA.out
          rwa [List.take_of_length_le (by rw [HL.out]; exact Nat.le_refl _), List.take_of_length_le (by rw [HM.out]; exact Nat.le_refl _)] at this
        have HY := Lib.hid hyes
        clear hyes
        go_wp2
        go_ret
        exact ⟨by rw [HY.out]; rfl, _, rfl⟩
  · have hno : decide (L = M) = false := by
      rw [decide_eq_false_iff_not]; rintro rfl; omega
    rw [hno]
    have d : ((len : Int) != (len' : Int)) = true := by rw [bne_iff_ne]; omega
    clear hno h h' hl hl'
    go_enter Try.func11, Try.ntmps11
    go_wp2
    go_ret
    exact ⟨rfl, 0, rfl⟩
/-- rows that are the same -/
theorem rsame_yes (x y : Nm) (n m : Nat) (w : World) (hx : NmOk w x n) (hy : NmOk w y m) (he : x.row = y.row) :
    Calls Try.prog 11 #[.slice x.pa n x.pc, .slice y.pa m y.pc] w fun r w' => r = .returned (.bool true) ∧ Below w.heap.size w w' := by
  refine (rsame_any x.pa y.pa n m x.pc y.pc _ _ x.row y.row w hx.ln hy.ln (Nat.le_trans hx.cap hx.big) hx.rd hy.rd).mono ?_
  rintro r w' ⟨rfl, q, rfl⟩
  exact ⟨by rw [decide_eq_true he], bel_drewN (Below.refl _ _) q⟩

def manyB (L : List Bs) : Bool := decide (60 < L.length) || L.any fun s => decide (1000 < s.length)
theorem manyB_no {L : List Bs} (h : manyB L = false) : L.length ≤ 60 := by
  unfold manyB at h
  simp at h
  omega
set_option maxHeartbeats 800000 in
theorem many_any (x : Nm) (n : Nat) (w : World) (hx : NmOk w x n) (hsz : ∀ s ∈ x.row, s.length ≤ maxLen) (mb : Bool) (hmb : manyB x.row = mb) :
    Calls Try.prog 10 #[.slice x.pa n x.pc] w fun r w' => r = .returned (.bool mb) ∧ w' = w := by
  obtain ⟨A, c, L⟩ := x
  have hm' : n ≤ 9223372036854775807 := by have := hx.cap; have := hx.big; unfold maxLen at this; dsimp only at *; omega
  have hln : L.length = n := hx.ln
  have hmb' : manyB L = mb := hmb
  dsimp only at hsz ⊢
  by_cases h40 : 60 < n
  · have hmt : mb = true := by rw [← hmb']; unfold manyB; rw [hln, decide_eq_true h40]; rfl
    have d : (60 : Int) < (n : Int) := by omega
    subst hmt
    clear hln hx hmb hmb' h40 hsz
    go_enter Try.func10, Try.ntmps10
    go_wp2
    go_ret
    exact ⟨rfl, rfl⟩
  · have d : ¬ (60 : Int) < (n : Int) := by omega
    have H := Lib.hid (show Rd w w.heap.size 1 sC A L from hx.rd)
    have HL := Lib.hid hln
    have HS := Lib.hid hsz
    have HM := Lib.hid (show L.any (fun s => decide (1000 < s.length)) = mb by rw [← hmb']; unfold manyB; rw [hln, decide_eq_false h40]; rfl)
    clear hln hx hmb hmb' h40 hsz
    go_enter Try.func10, Try.ntmps10
    go_wp2
    go_loopw [3] (fun i wr => ∃ k : Nat, k ≤ n ∧ i = .int .i64 k ∧ (∀ (q : Nat) (y : Bs), q < k → L[q]? = some y → ¬ 1000 < y.length) ∧ wr = w) (fun i _ => n - (intOf i).toNat)
    case atStart => exact ⟨0, by omega, rfl, fun q y hq => by omega, rfl⟩
    case round =>
      obtain ⟨k, hk, rfl, hall, hwe⟩ := hrel
      have hwe' := hwe.symm
      subst hwe'
      clear hwe
      have HA := Lib.hid hall
      clear hall
      by_cases hlt : k < n
      · obtain ⟨b1, off, t, ht, hA, hb1, hc⟩ := H.out.str (k := k) (by rw [HL.out]; exact hlt)
        subst hA
        have hki : (k : Int) < (n : Int) := by omega
        have hmem := List.mem_of_getElem? ht
        have htm := HS.out t hmem
        unfold maxLen at htm
        obtain ⟨z, hz⟩ : ∃ z, (enc t).size = z := ⟨_, rfl⟩
        have hz' : t.length = z := hz
        by_cases hts : 1000 < z
        · have hbt : mb = true := by rw [← HM.out, List.any_eq_true]; exact ⟨t, hmem, by rw [hz']; exact decide_eq_true hts⟩
          have d2 : (1000 : Int) < (z : Int) := by omega
          have hzm : z ≤ 9223372036854775807 := by omega
          subst hbt
          clear ht hmem htm hz'
          go_wp2
          go_ret
          exact ⟨rfl, rfl⟩
        · have d2 : ¬ (1000 : Int) < (z : Int) := by omega
          have HN := Lib.hid (show ∀ (q : Nat) (y : Bs), q < k + 1 → L[q]? = some y → ¬ 1000 < y.length by
            intro q y hq hy
            rcases Nat.lt_or_ge q k with h1 | h1
            · exact HA.out q y h1 hy
            · obtain rfl : q = k := by omega
              rw [ht] at hy; cases hy; rw [hz']; exact hts)
          clear ht hmem htm hz'
          go_wp2
          go_roundw
          case rel => exact ⟨k + 1, by omega, by go_num, HN.out, trivial⟩
          case measure => simp [intOf] <;> omega
      · obtain rfl : k = n := by omega
        have hbf : mb = false := by
          rw [← HM.out, List.any_eq_false]
          intro s hs
          obtain ⟨q, hq⟩ := List.mem_iff_getElem?.1 hs
          have := HA.out q s (by rw [← HL.out]; exact (List.getElem?_eq_some_iff.1 hq).1) hq
          simpa using this
        subst hbf
        go_wp2
        go_ret
        exact ⟨rfl, rfl⟩

/-! ### rise -/
set_option maxHeartbeats 800000 in
theorem rise_yes (x : Nm) (n : Nat) (w : World) (hx : NmOk w x n) (hr : Rise x.row) :
    Calls Try.prog 27 #[.slice x.pa n x.pc] w fun r w' => r = .returned (.bool true) ∧ Below w.heap.size w w' := by
  obtain ⟨A, c, L⟩ := x
  have hm' : n ≤ 9223372036854775807 := by have := hx.cap; have := hx.big; unfold maxLen at this; dsimp only at *; omega
  have HL := Lib.hid (show L.length = n from hx.ln)
  have H := Lib.hid (show Rd w w.heap.size 1 sC A L from hx.rd)
  have HR := Lib.hid (show Rise L from hr)
  clear hx hr
  dsimp only
  go_enter Try.func27, Try.ntmps27
  go_wp2
  go_loopw [3] (fun i wr => ∃ k : Nat, (k + 1 ≤ n ∨ k = 0) ∧ i = .int .i64 (k + 1 : Nat) ∧ ∃ q, wr = w.drewN q) (fun i _ => n - (intOf i).toNat)
  case atStart => exact ⟨0, .inr rfl, rfl, 0, rfl⟩
  case round =>
    obtain ⟨k, hk, rfl, q, rfl⟩ := hrel
    by_cases hlt : k + 1 < n
    · obtain ⟨b, off, s, hs, hA, hb, hc⟩ := H.out.str (k := k) (by rw [HL.out]; omega)
      obtain ⟨b', off', t, ht, hA', hb', hc'⟩ := H.out.str (k := k + 1) (by rw [HL.out]; exact hlt)
      subst hA
      cases hA'
      have hki : ((k + 1 : Nat) : Int) < (n : Int) := by omega
      have hst : s < t := by
        obtain ⟨l1, e1⟩ := List.getElem?_eq_some_iff.1 hs
        obtain ⟨l2, e2⟩ := List.getElem?_eq_some_iff.1 ht
        have := List.pairwise_iff_getElem.1 HR.out k (k + 1) l1 l2 (by omega)
        rwa [e1, e2] at this
      have e : Op.bytesLess (enc s).toList (enc t).toList = true := by rw [enc_lt, decide_eq_true hst]
      have hw1 : wrap64 ((k + 1 : Nat) - 1 : Int) = k := by unfold wrap64; omega
      have hk0 : (0 : Int) ≤ ((k + 1 : Nat) : Int) := by omega
      have hk1 : (0 : Int) ≤ (k : Int) := by omega
      have hk2 : (k : Int) < (n : Int) := by omega
      clear hs ht hst
      go_wp2
      go_quiet (fail)
      go_wp2
      go_roundw
      case rel => exact ⟨k + 1, .inl (by omega), by go_num, _, rfl⟩
      case measure => simp [intOf] <;> omega
    · have hki : ¬ ((k + 1 : Nat) : Int) < (n : Int) := by omega
      go_wp2
      go_ret
      exact ⟨rfl, bel_drewN (Below.refl _ _) q⟩

end Go.Proofs.Ytfdgbegoaaihoaa
