/- Sets: contracts of Common, Minus, Within; of the document's Has, Of, Union, Pick, Same, Within; of Many. -/
import Derived.Test.YtfdgbegoaaihoaaSeC
namespace Go.Proofs.Ytfdgbegoaaihoaa
open Go.RowKit
set_option linter.unusedVariables false
set_option linter.unusedSimpArgs false

theorem common_any (x y : Nm) (n m : Nat) (w : World) (hx : NmOk w x n) (hy : NmOk w y m) (hn : n ≤ 400000) (hm : m ≤ 400000) :
    Calls Try.prog 14 #[.slice x.pa n x.pc, .slice y.pa m y.pc] w (NmMade w (pickS x.row y.row true)) := by
  have HE := Lib.hid (picked_any x y n m true w hx hy hn hm)
  clear hx hy
  go_enter Try.func14, Try.ntmps14
  go_wp2_with fail
  refine HE.out.mono ?_
  rintro r w1 ⟨u, nu, rfl, hu, ho, hb1⟩
  have HF := Lib.hid (show NmMade w (pickS x.row y.row true) (.returned (.slice u.pa nu u.pc)) w1 from ⟨u, nu, rfl, hu, ho, hb1⟩)
  clear hu ho hb1
  go_wp2
  go_ret
  exact HF.out

theorem minus_any (x y : Nm) (n m : Nat) (w : World) (hx : NmOk w x n) (hy : NmOk w y m) (hn : n ≤ 400000) (hm : m ≤ 400000) :
    Calls Try.prog 16 #[.slice x.pa n x.pc, .slice y.pa m y.pc] w (NmMade w (pickS x.row y.row false)) := by
  have HE := Lib.hid (picked_any x y n m false w hx hy hn hm)
  clear hx hy
  go_enter Try.func16, Try.ntmps16
  go_wp2_with fail
  refine HE.out.mono ?_
  rintro r w1 ⟨u, nu, rfl, hu, ho, hb1⟩
  have HF := Lib.hid (show NmMade w (pickS x.row y.row false) (.returned (.slice u.pa nu u.pc)) w1 from ⟨u, nu, rfl, hu, ho, hb1⟩)
  clear hu ho hb1
  go_wp2
  go_ret
  exact HF.out

theorem within_bool (x y : Nm) (n m : Nat) {b : Bool} (hb : withinS x.row y.row = b) (w : World) (hx : NmOk w x n) (hy : NmOk w y m) (hn : n ≤ 400000) (hm : m ≤ 400000) :
    Calls Try.prog 26 #[.slice x.pa n x.pc, .slice y.pa m y.pc] w fun r w' => r = .returned (.bool b) ∧ Below w.heap.size w w' := by
  have HE := Lib.hid (minus_any x y n m w hx hy hn hm)
  have HBB := Lib.hid hb
  clear hx hy hb
  go_enter Try.func26, Try.ntmps26
  go_wp2_with fail
  refine HE.out.mono ?_
  rintro r w1 ⟨u, nu, rfl, hu, ho, hb1⟩
  have HB1 := Lib.hid hb1
  have he : ((nu : Int) == 0) = b := by
    rw [← HBB.out, ← ho.ln, hu]
    unfold withinS
    rw [Bool.eq_iff_iff, beq_iff_eq, decide_eq_true_iff]
    omega
  clear hu ho hb1
  go_wp2
  go_ret
  exact ⟨rfl, HB1.out⟩

/-! ### the document's -/
set_option maxHeartbeats 800000 in
theorem rhas_bool (x : Nm) (n : Nat) (s : Bs) {b : Bool} (hb : hasS x.row s = b) (w : World) (hx : NmOk w x n) (hm : n ≤ 1000000) :
    Calls Try.prog 24 #[.slice x.pa n x.pc, .string (enc s)] w fun r w' => r = .returned (.bool b) ∧ w' = w := by
  obtain ⟨A, c, L⟩ := x
  have H := Lib.hid (show Rd w w.heap.size 1 sC A L from hx.rd)
  have HL := Lib.hid (show L.length = n from hx.ln)
  have HBB := Lib.hid (show hasS L s = b from hb)
  clear hx hb
  dsimp only
  go_enter Try.func24, Try.ntmps24
  go_wp2
  go_loopw [5] (fun i wr => ∃ k : Nat, k ≤ n ∧ i = .int .i64 k ∧ (∀ (q : Nat) (y : Bs), q < k → L[q]? = some y → y ≠ s) ∧ wr = w) (fun i _ => n - (intOf i).toNat)
  case atStart => exact ⟨0, by omega, rfl, fun q y hq => by omega, rfl⟩
  case round =>
    obtain ⟨k, hk, rfl, hall, hwe⟩ := hrel
    have hwe' := hwe.symm
    subst hwe'
    clear hwe
    have HA := Lib.hid hall
    clear hall
    by_cases hlt : k < n
    · obtain ⟨b1, off, t, ht, hA, hb1, hc⟩ := H.out.str (k := k) (by rw [HL.out]; exact hlt)
      subst hA
      have hki : (k : Int) < (n : Int) := by omega
      by_cases hts : t = s
      · have e : ((enc t).toList == (enc s).toList) = true := by rw [enc_eq, decide_eq_true hts]
        have hbt : b = true := by rw [← HBB.out, hasS_iff, ← hts]; exact List.mem_of_getElem? ht
        subst hbt
        clear ht hts
        go_wp2
        go_ret
        exact ⟨rfl, rfl⟩
      · have e : ((enc t).toList == (enc s).toList) = false := by rw [enc_eq, decide_eq_false hts]
        have HN := Lib.hid (show ∀ (q : Nat) (y : Bs), q < k + 1 → L[q]? = some y → y ≠ s by
          intro q y hq hy
          rcases Nat.lt_or_ge q k with h1 | h1
          · exact HA.out q y h1 hy
          · obtain rfl : q = k := by omega
            rw [ht] at hy; cases hy; exact hts)
        clear ht hts
        go_wp2
        go_roundw
        case rel => exact ⟨k + 1, by omega, by go_num, HN.out, trivial⟩
        case measure => simp [intOf] <;> omega
    · obtain rfl : k = n := by omega
      have hbf : b = false := by
        rw [← HBB.out, ← Bool.not_eq_true, hasS_iff]
        intro hm'
        obtain ⟨q, hq⟩ := List.mem_iff_getElem?.1 hm'
        exact HA.out q s (by rw [← HL.out]; exact (List.getElem?_eq_some_iff.1 hq).1) hq rfl
      subst hbf
      go_wp2
      go_ret
      exact ⟨rfl, rfl⟩

/-- a name put at its place, step by step -/
def putF (O : List Bs) (x : Bs) (k : Nat) : Bool × List Bs := (O.take k).foldl (fun a y => if !a.1 && decide (x < y) then (true, a.2 ++ [x] ++ [y]) else (a.1, a.2 ++ [y])) (false, [])
theorem putF_zero (O : List Bs) (x : Bs) : putF O x 0 = (false, []) := by simp [putF]
theorem putF_succ {O : List Bs} {k : Nat} {y : Bs} (x : Bs) (h : O[k]? = some y) : putF O x (k + 1) = if !(putF O x k).1 && decide (x < y) then (true, (putF O x k).2 ++ [x] ++ [y]) else ((putF O x k).1, (putF O x k).2 ++ [y]) := by
  unfold putF
  rw [List.take_add_one, h, List.foldl_append]; rfl
theorem fold_true (x : Bs) : ∀ (O l : List Bs), O.foldl (fun a y => if !a.1 && decide (x < y) then (true, a.2 ++ [x] ++ [y]) else (a.1, a.2 ++ [y])) (true, l) = (true, l ++ O)
  | [], l => by simp
  | y :: O, l => by
    rw [List.foldl_cons]
    simp only [Bool.not_true, Bool.false_and, Bool.false_eq_true, if_false]
    rw [fold_true x O]
    simp
theorem fold_put (x : Bs) : ∀ (O l : List Bs), (if (O.foldl (fun a y => if !a.1 && decide (x < y) then (true, a.2 ++ [x] ++ [y]) else (a.1, a.2 ++ [y])) (false, l)).1 then (O.foldl (fun a y => if !a.1 && decide (x < y) then (true, a.2 ++ [x] ++ [y]) else (a.1, a.2 ++ [y])) (false, l)).2 else (O.foldl (fun a y => if !a.1 && decide (x < y) then (true, a.2 ++ [x] ++ [y]) else (a.1, a.2 ++ [y])) (false, l)).2 ++ [x]) = l ++ putS O x
  | [], l => by simp [putS]
  | y :: O, l => by
    rw [List.foldl_cons]
    by_cases h : x < y
    · simp only [h, Bool.not_false, Bool.true_and, decide_true, if_true]
      rw [fold_true x O]
      simp [putS, h]
    · simp only [h, Bool.not_false, Bool.true_and, decide_false, Bool.false_eq_true, if_false]
      rw [fold_put x O (l ++ [y])]
      simp [putS, h]
theorem putF_all {O : List Bs} {k : Nat} (x : Bs) (hk : O.length ≤ k) : (if (putF O x k).1 then (putF O x k).2 else (putF O x k).2 ++ [x]) = putS O x := by
  unfold putF
  rw [List.take_of_length_le hk]
  have := fold_put x O []
  simpa using this
theorem putF_len (O : List Bs) (x : Bs) : ∀ k, (putF O x k).2.length ≤ k + 1 ∧ ((putF O x k).1 = false → (putF O x k).2.length ≤ k)
  | 0 => by rw [putF_zero]; simp
  | k + 1 => by
    obtain ⟨h1, h2⟩ := putF_len O x k
    cases hy : O[k]? with
    | none =>
      have e : putF O x (k + 1) = putF O x k := by
        unfold putF; rw [List.take_add_one, hy]; simp
      rw [e]
      exact ⟨by omega, fun h => by have := h2 h; omega⟩
    | some y =>
      rw [putF_succ x hy]
      cases hb : (putF O x k).1
      · have := h2 hb
        by_cases hlt : x < y
        · simp [hlt]; omega
        · simp [hlt]; omega
      · simp; omega
theorem refS_len (L : List Bs) (k : Nat) : (refS (L.take k)).length ≤ k := by
  rw [refS_eq]
  exact Nat.le_trans (setS_len _) (by simp; omega)


set_option maxHeartbeats 6400000 in
theorem rof_any (x : Nm) (n : Nat) (w : World) (hx : NmOk w x n) (hm : n ≤ 400000) :
    Calls Try.prog 19 #[.slice x.pa n x.pc] w (NmMade w (setS x.row)) := by
  obtain ⟨i0, hi0, hz0, hz1, hz2⟩ := info_parts infoS
  obtain ⟨A, c, L⟩ := x
  have H := Lib.hid (show Rd w w.heap.size 1 sC A L from hx.rd)
  have HL := Lib.hid (show L.length = n from hx.ln)
  clear hx
  dsimp only
  go_enter Try.func19, Try.ntmps19
  go_wp2
  go_loopw [3, 4] (fun o i wr => ∃ (k : Nat) (A0 : Option Addr) (c0 : Nat), k ≤ n ∧ i = .int .i64 k ∧ o = .slice A0 (refS (L.take k)).length c0 ∧ wr.ownsRow w.heap.size 9 1 (.slice A0 (refS (L.take k)).length c0) (refS (L.take k)).length ((refS (L.take k)).flatMap sC) ∧ Below w.heap.size w wr) (fun _ i _ => n - (intOf i).toNat)
  case atStart => exact ⟨0, none, 0, by omega, rfl, rfl, World.ownsRow_nil _ _ _ _, Below.refl _ _⟩
  case round =>
    obtain ⟨W, hW⟩ : ∃ W, W = wr := ⟨_, rfl⟩
    subst hW
    obtain ⟨k, A0, c0, hk, rfl, hoe, hown, hbl⟩ := hrel
    subst hoe
    have hrl := refS_len L k
    have HSS := Lib.hid (fun (x : Bs) (h : L[k]? = some x) => refS_succ (L := L) (n := k) (x := x) h)
    obtain ⟨O, hO⟩ : ∃ O, refS (L.take k) = O := ⟨_, rfl⟩
    have HOe := Lib.hid hO
    rw [hO] at hown hrl HSS ⊢
    obtain ⟨l, hl⟩ : ∃ l, O.length = l := ⟨_, rfl⟩
    have HOl := Lib.hid hl
    rw [hl] at hown hrl ⊢
    have HO := Lib.hid hown
    have HB := Lib.hid hbl
    have hsw := hbl.size
    clear hO hl hown hbl
    by_cases hlt : k < n
    · obtain ⟨b, off, s, hs, hA, hb, hc⟩ := (H.out.below HB.out).str (k := k) (by rw [HL.out]; exact hlt)
      have hki : (k : Int) < (n : Int) := by omega
      have HSK := Lib.hid (HSS.out s hs)
      obtain ⟨hb1, hhb⟩ : ∃ b1, hasS O s = b1 := ⟨_, rfl⟩
      have HHB := Lib.hid hhb
      have hro : NmOk W ⟨A0, c0, O⟩ l := NmOwn.ok (B := w.heap.size) ⟨HO.out, HOl.out⟩
      have HRO := Lib.hid hro
      have HC := Lib.hid (rhas_bool ⟨A0, c0, O⟩ l s hhb W hro (by omega))
      subst hA
      clear hs hhb hro
      cases hb1
      · have HSK2 := Lib.hid (show refS (L.take (k + 1)) = putS O s by rw [HSK.out]; unfold refStep; rw [HHB.out]; rfl)
        have HFA := Lib.hid (putF_all (O := O) (k := l) s (by rw [HOl.out]; exact Nat.le_refl _))
        go_wp2_with fail
        refine HC.out.mono ?_
        rintro r w1 ⟨rfl, hwe⟩
        subst hwe
        go_wp2
        go_loopw [5, 6, 7] (fun nx dn kk wq => ∃ (j : Nat) (A1 : Option Addr) (c1 : Nat), j ≤ l ∧ kk = .int .i64 j ∧ dn = .bool (putF O s j).1 ∧ nx = .slice A1 (putF O s j).2.length c1 ∧ wq.ownsRow w1.heap.size 9 1 (.slice A1 (putF O s j).2.length c1) (putF O s j).2.length ((putF O s j).2.flatMap sC) ∧ Below w1.heap.size w1 wq) (fun _ _ kk _ => l - (intOf kk).toNat)
        case atStart => exact ⟨0, none, 0, by omega, rfl, by rw [putF_zero], by rw [putF_zero]; rfl, by rw [putF_zero]; exact World.ownsRow_nil _ _ _ _, Below.refl _ _⟩
        case round =>
          obtain ⟨Q, hQ⟩ : ∃ Q, Q = wr := ⟨_, rfl⟩
          subst hQ
          obtain ⟨j, A1, c1, hj, rfl, hde, hne, hown1, hbl1⟩ := hrel
          subst hde hne
          have hpl := putF_len O s j
          have HPS := Lib.hid (fun (y : Bs) (h : O[j]? = some y) => putF_succ (k := j) s h)
          obtain ⟨⟨dn, N⟩, hPe⟩ : ∃ p, putF O s j = p := ⟨_, rfl⟩
          have HPe := Lib.hid hPe
          rw [hPe] at hown1 hpl HPS ⊢
          dsimp only at hown1 hpl HPS ⊢
          obtain ⟨q, hq⟩ : ∃ q, N.length = q := ⟨_, rfl⟩
          have HQ := Lib.hid hq
          rw [hq] at hown1 hpl ⊢
          obtain ⟨hpl1, hpl2⟩ := hpl
          have HO1 := Lib.hid hown1
          have HB1 := Lib.hid hbl1
          have hs1 := hbl1.size
          clear hPe hown1 hbl1 hq
          have e0 := cell_of_below HB1.out (Nat.lt_of_lt_of_le hb hsw) hc
          by_cases hlt2 : j < l
          · obtain ⟨b2, off2, t, ht, hA2, hb2, hc2⟩ := (HRO.out.rd.below HB1.out).str (k := j) (by rw [show (⟨A0, c0, O⟩ : Nm).row.length = l from HOl.out]; exact hlt2)
            dsimp only at ht hA2
            have hjl : (j : Int) < (l : Int) := by omega
            have hk0 : (0 : Int) ≤ (k : Int) := by omega
            have hj0 : (0 : Int) ≤ (j : Int) := by omega
            have HPN := Lib.hid (HPS.out t ht)
            subst hA2
            clear ht
            cases dn
            · by_cases hst : s < t
              · have g0 : Op.bytesLess (enc s).toList (enc t).toList = true := by rw [enc_lt, decide_eq_true hst]
                have HPF := Lib.hid (show putF O s (j + 1) = (true, N ++ [s] ++ [t]) by rw [HPN.out]; simp [hst])
                clear hst
                have hpl3 := hpl2 rfl
                have e0q := cell_regrown e0
                have hcq := cell_regrown hc2
                go_wp2_with fail
                refine wp_region_quiet_below (by kernel_rfl) (by kernel_rfl) ?_
                repeat (first | go_big_quiet_step (fail) | quiet_step (fail))
                refine wpQuiet_nil ?_
                intro W2 hW2e
                obtain ⟨⟨dq, osq⟩, hW2⟩ := hW2e
                have hbq : Below Q.heap.size Q W2 := by rw [hW2]; exact below_regrown Q dq osq
                have HB2 := Lib.hid (HB1.out.trans (hbq.mono hs1))
                have HO2 := Lib.hid (own_below HO1.out hbq)
                have e2 := cell_of_below HB2.out (Nat.lt_of_lt_of_le hb hsw) hc
                have d2 := cell_of_below hbq (Nat.lt_of_lt_of_le hb2 hs1) hc2
                have hs2 := HB2.out.size
                clear hW2 e0q hcq e0 hc2 hbq
                go_wp2_with (at_builtin; first | (refine wpList_append_rd _ rfl _ _ 22 rfl w1.heap.size 9 i0 (.string ByteArray.empty) 1 16 Try.underlying22 hi0 hz0 hz1 hz2 rfl (by decide) _ q _ rfl (own_below HO2.out ((Below.refl _ _).alloc (Nat.le_refl _) _)) _ _ 1 1 sC sC_len sC_one [s] rfl rfl (rd_one (cells := sC) (x := s) sC_len (Blk.new _ 9 _) rfl) (by unfold maxLen; omega) (by omega) (by simp; omega) ?_; intro v3 W3 hown3 hg3 _; have hb3 := ((HB2.out.alloc hs2 (.cells #[.string (enc s)] 9)).grown hg3 (by simp; omega) (fun g hg => (HO2.out.lt g hg).1)); have hs3 := hb3.size; have d3 := cell_of_below (((Below.refl (w1.heap.size) W2).alloc hs2 (.cells #[.string (enc s)] 9)).grown hg3 (by simp; omega) (fun g hg => (HO2.out.lt g hg).1)) hb2 d2) | (refine wpList_append_rd _ rfl _ _ 22 rfl w1.heap.size 9 i0 (.string ByteArray.empty) 1 16 Try.underlying22 hi0 hz0 hz1 hz2 rfl (by decide) _ (q + 1) _ rfl (own_below hown3 ((Below.refl _ _).alloc (Nat.le_refl _) _)) _ _ 1 1 sC sC_len sC_one [t] rfl rfl (rd_one (cells := sC) (x := t) sC_len (Blk.new _ 9 _) rfl) (by unfold maxLen; omega) (by omega) (by simp; omega) ?_; intro v4 W4 hown4 hg4 _))
                have HB4 := Lib.hid ((hb3.alloc hs3 (.cells #[.string (enc t)] 9)).grown hg4 (by simp; omega) (fun g hg => (hown3.lt g hg).1))
                have HL4 := Lib.hid (show (N ++ [s] ++ [t]).length = q + 1 + 1 by rw [List.length_append, List.length_append, HQ.out]; rfl)
                have HO4 := Lib.hid (show W4.ownsRow w1.heap.size 9 1 v4 (q + 1 + 1) ((N ++ [s] ++ [t]).flatMap sC) by rw [List.flatMap_append, List.flatMap_append]; simpa using hown4)
                obtain ⟨A4, c4, rfl⟩ := own_slice HO4.out
                clear hown3 hg3 hown4 hg4 hb3 d3 d2 e2
                try clear hs3
                go_wp2
                go_roundw
                case rel => exact ⟨j + 1, A4, c4, by omega, by go_num, by rw [HPF.out], by rw [HPF.out, HL4.out], by rw [HPF.out, HL4.out]; exact HO4.out, HB4.out⟩
                case measure => simp [intOf] <;> omega
              · have g0 : Op.bytesLess (enc s).toList (enc t).toList = false := by rw [enc_lt, decide_eq_false hst]
                have HPF := Lib.hid (show putF O s (j + 1) = (false, N ++ [t]) by rw [HPN.out]; simp [hst])
                clear hst
                have hpl3 := hpl2 rfl
                have e0q := cell_regrown e0
                have hcq := cell_regrown hc2
                go_wp2_with fail
                refine wp_region_quiet_below (by kernel_rfl) (by kernel_rfl) ?_
                repeat (first | go_big_quiet_step (fail) | quiet_step (fail))
                refine wpQuiet_nil ?_
                intro W2 hW2e
                obtain ⟨⟨dq, osq⟩, hW2⟩ := hW2e
                have hbq : Below Q.heap.size Q W2 := by rw [hW2]; exact below_regrown Q dq osq
                have HB2 := Lib.hid (HB1.out.trans (hbq.mono hs1))
                have HO2 := Lib.hid (own_below HO1.out hbq)
                have e2 := cell_of_below HB2.out (Nat.lt_of_lt_of_le hb hsw) hc
                have d2 := cell_of_below hbq (Nat.lt_of_lt_of_le hb2 hs1) hc2
                have hs2 := HB2.out.size
                clear hW2 e0q hcq e0 hc2 hbq
                go_wp2_with (at_builtin; refine wpList_append_rd _ rfl _ _ 22 rfl w1.heap.size 9 i0 (.string ByteArray.empty) 1 16 Try.underlying22 hi0 hz0 hz1 hz2 rfl (by decide) _ q _ rfl (own_below HO2.out ((Below.refl _ _).alloc (Nat.le_refl _) _)) _ _ 1 1 sC sC_len sC_one [t] rfl rfl (rd_one (cells := sC) (x := t) sC_len (Blk.new _ 9 _) rfl) (by unfold maxLen; omega) (by omega) (by simp; omega) ?_; intro v4 W4 hown4 hg4 _)
                have HB4 := Lib.hid ((HB2.out.alloc hs2 (.cells #[.string (enc t)] 9)).grown hg4 (by simp; omega) (fun g hg => (HO2.out.lt g hg).1))
                have HL4 := Lib.hid (show (N ++ [t]).length = q + 1 by rw [List.length_append, HQ.out]; rfl)
                have HO4 := Lib.hid (show W4.ownsRow w1.heap.size 9 1 v4 (q + 1) ((N ++ [t]).flatMap sC) by rw [List.flatMap_append]; simpa using hown4)
                obtain ⟨A4, c4, rfl⟩ := own_slice HO4.out
                clear hown4 hg4 d2 e2
                go_wp2
                go_roundw
                case rel => exact ⟨j + 1, A4, c4, by omega, by go_num, by rw [HPF.out], by rw [HPF.out, HL4.out], by rw [HPF.out, HL4.out]; exact HO4.out, HB4.out⟩
                case measure => simp [intOf] <;> omega
            · have HPF := Lib.hid (show putF O s (j + 1) = (true, N ++ [t]) by rw [HPN.out]; simp)
              have e0q := cell_regrown e0
              have hcq := cell_regrown hc2
              go_wp2_with fail
              refine wp_region_quiet_below (by kernel_rfl) (by kernel_rfl) ?_
              repeat (first | go_big_quiet_step (fail) | quiet_step (fail))
              refine wpQuiet_nil ?_
              intro W2 hW2e
              obtain ⟨⟨dq, osq⟩, hW2⟩ := hW2e
              have hbq : Below Q.heap.size Q W2 := by rw [hW2]; exact below_regrown Q dq osq
              have HB2 := Lib.hid (HB1.out.trans (hbq.mono hs1))
              have HO2 := Lib.hid (own_below HO1.out hbq)
              have e2 := cell_of_below HB2.out (Nat.lt_of_lt_of_le hb hsw) hc
              have d2 := cell_of_below hbq (Nat.lt_of_lt_of_le hb2 hs1) hc2
              have hs2 := HB2.out.size
              clear hW2 e0q hcq e0 hc2 hbq
              go_wp2_with (at_builtin; refine wpList_append_rd _ rfl _ _ 22 rfl w1.heap.size 9 i0 (.string ByteArray.empty) 1 16 Try.underlying22 hi0 hz0 hz1 hz2 rfl (by decide) _ q _ rfl (own_below HO2.out ((Below.refl _ _).alloc (Nat.le_refl _) _)) _ _ 1 1 sC sC_len sC_one [t] rfl rfl (rd_one (cells := sC) (x := t) sC_len (Blk.new _ 9 _) rfl) (by unfold maxLen; omega) (by omega) (by simp; omega) ?_; intro v4 W4 hown4 hg4 _)
              have HB4 := Lib.hid ((HB2.out.alloc hs2 (.cells #[.string (enc t)] 9)).grown hg4 (by simp; omega) (fun g hg => (HO2.out.lt g hg).1))
              have HL4 := Lib.hid (show (N ++ [t]).length = q + 1 by rw [List.length_append, HQ.out]; rfl)
              have HO4 := Lib.hid (show W4.ownsRow w1.heap.size 9 1 v4 (q + 1) ((N ++ [t]).flatMap sC) by rw [List.flatMap_append]; simpa using hown4)
              obtain ⟨A4, c4, rfl⟩ := own_slice HO4.out
              clear hown4 hg4 d2 e2
              go_wp2
              go_roundw
              case rel => exact ⟨j + 1, A4, c4, by omega, by go_num, by rw [HPF.out], by rw [HPF.out, HL4.out], by rw [HPF.out, HL4.out]; exact HO4.out, HB4.out⟩
              case measure => simp [intOf] <;> omega
          · obtain rfl : j = l := by omega
            rw [HPe.out] at HFA
            cases dn
            · have hpl3 := hpl2 rfl
              have HFB := Lib.hid (show N ++ [s] = putS O s from HFA.out)
              clear HFA
              have hs1 := HB1.out.size
              go_wp2_with (at_builtin; refine wpList_append_rd _ rfl _ _ 22 rfl w1.heap.size 9 i0 (.string ByteArray.empty) 1 16 Try.underlying22 hi0 hz0 hz1 hz2 rfl (by decide) _ q _ rfl (own_below HO1.out ((Below.refl _ _).alloc (Nat.le_refl _) _)) _ _ 1 1 sC sC_len sC_one [s] rfl rfl (rd_one (cells := sC) (x := s) sC_len (Blk.new _ 9 _) rfl) (by unfold maxLen; omega) (by omega) (by simp; omega) ?_; intro v4 W4 hown4 hg4 _)
              have HB4 := Lib.hid (HB.out.trans (((HB1.out.alloc hs1 (.cells #[.string (enc s)] 9)).grown hg4 (by simp; omega) (fun g hg => (HO1.out.lt g hg).1)).mono hsw))
              have HL4 := Lib.hid (show (refS (L.take (k + 1))).length = q + 1 by rw [HSK2.out, ← HFB.out, List.length_append, HQ.out]; rfl)
              have HO4 := Lib.hid (show W4.ownsRow w.heap.size 9 1 v4 (q + 1) ((refS (L.take (k + 1))).flatMap sC) by rw [HSK2.out, ← HFB.out, List.flatMap_append]; exact own_mono (by simpa using hown4) hsw)
              obtain ⟨A4, c4, rfl⟩ := own_slice HO4.out
              clear hown4 hg4
              go_wp2
              go_roundw
              case rel => exact ⟨k + 1, A4, c4, by omega, by go_num, by rw [HL4.out], by rw [HL4.out]; exact HO4.out, HB4.out⟩
              case measure => simp [intOf] <;> omega
            · have HFB := Lib.hid (show N = putS O s from HFA.out)
              clear HFA
              have HB4 := Lib.hid (HB.out.trans (HB1.out.mono hsw))
              have HL4 := Lib.hid (show (refS (L.take (k + 1))).length = q by rw [HSK2.out, ← HFB.out, HQ.out])
              have HO4 := Lib.hid (show Q.ownsRow w.heap.size 9 1 (.slice A1 q c1) q ((refS (L.take (k + 1))).flatMap sC) by rw [HSK2.out, ← HFB.out]; exact own_mono HO1.out hsw)
              go_wp2
              go_roundw
              case rel => exact ⟨k + 1, A1, c1, by omega, by go_num, by rw [HL4.out], by rw [HL4.out]; exact HO4.out, HB4.out⟩
              case measure => simp [intOf] <;> omega
      · have HSK2 := Lib.hid (show refS (L.take (k + 1)) = O by rw [HSK.out]; unfold refStep; rw [HHB.out]; rfl)
        go_wp2_with fail
        refine HC.out.mono ?_
        rintro r w1 ⟨rfl, hwe⟩
        subst hwe
        go_wp2
        go_roundw
        case rel => exact ⟨k + 1, A0, c0, by omega, by go_num, by rw [HSK2.out, HOl.out], by rw [HSK2.out, HOl.out]; exact HO.out, HB.out⟩
        case measure => simp [intOf] <;> omega
    · obtain rfl : k = n := by omega
      have HF := Lib.hid (show NmMade w (setS L) (.returned (.slice A0 l c0)) W from ⟨⟨A0, c0, O⟩, l, rfl, by
        show O = _
        rw [← HOe.out, refS_eq, List.take_of_length_le (by rw [HL.out]; exact Nat.le_refl _)], ⟨HO.out, HOl.out⟩, HB.out⟩)
      go_wp2
      go_ret
      exact HF.out

end Go.Proofs.Ytfdgbegoaaihoaa
