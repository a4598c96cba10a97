/- Sets: contracts of Equal, Same, Grow, Concat, Union. -/
import Derived.Test.YtfdgbegoaaihoaaSeA
import Derived.Lib.AppendZerosOnto
namespace Go.Proofs.Ytfdgbegoaaihoaa
open Go.RowKit
set_option linter.unusedVariables false
set_option linter.unusedSimpArgs false

set_option maxHeartbeats 800000 in
theorem equal_any (A A' : Option Addr) (len len' c c' B B' : Nat) (L M : List Bs) (w : World) (hl : L.length = len) (hl' : M.length = len') (hm : len ≤ maxLen) (h : Rd w B 1 sC A L) (h' : Rd w B' 1 sC A' M) :
    Calls Try.prog 34 #[.slice A len c, .slice A' len' c'] w fun r w' => r = .returned (.bool (decide (L = M))) ∧ ∃ n, w' = w.drewN n := by
  unfold maxLen at hm
  by_cases hne : len = len'
  · subst hne
    have HL := Lib.hid hl
    have HM := Lib.hid hl'
    have H := Lib.hid h
    have H' := Lib.hid h'
    clear hl hl' h h'
    go_enter Try.func34, Try.ntmps34
    go_wp2
    go_loopw [13] (fun i wr => ∃ k : Nat, k ≤ len ∧ i = .int .i64 k ∧ L.take k = M.take k ∧ ∃ n, wr = w.drewN n) (fun i _ => len - (intOf i).toNat)
    case atStart => exact ⟨0, by omega, rfl, rfl, 0, rfl⟩
    case round =>
      obtain ⟨k, hk, rfl, hall, n, rfl⟩ := hrel
      have HA := Lib.hid hall
      clear hall
      by_cases hlt : k < len
      · obtain ⟨b, off, x, hx, rfl, hb, hc⟩ := H.out.str (k := k) (by rw [HL.out]; exact hlt)
        obtain ⟨b', off', y, hy, rfl, hb', hc'⟩ := H'.out.str (k := k) (by rw [HM.out]; exact hlt)
        have hki : (k : Int) < (len : Int) := by omega
        have hk0 : (0 : Int) ≤ (k : Int) := by omega
        by_cases hxy : x = y
        · have e : ((enc x).toList == (enc y).toList) = true := by rw [enc_eq, decide_eq_true hxy]
          have hnx : L.take (k + 1) = M.take (k + 1) := by rw [List.take_add_one, List.take_add_one, HA.out, hx, hy, hxy]
          have HN := Lib.hid hnx
          clear hnx hx hy hxy
          go_wp2
          go_quiet (fail)
          go_wp2
          go_roundw
          case rel => exact ⟨k + 1, by omega, by go_num, HN.out, _, rfl⟩
          case measure => simp [intOf] <;> omega
        · have e : ((enc x).toList == (enc y).toList) = false := by rw [enc_eq, decide_eq_false hxy]
          have hno : decide (L = M) = false := by
            rw [decide_eq_false_iff_not]; rintro rfl
            rw [hx] at hy; cases hy; exact hxy rfl
          have HN := Lib.hid hno
          clear hno hx hy hxy
          go_wp2
          go_quiet (fail)
          go_wp2
          go_ret
          exact ⟨by rw [HN.out]; rfl, _, World.drewN_drewN _ _ _⟩
      · obtain rfl : k = len := by omega
        have hyes : decide (L = M) = true := by
          rw [decide_eq_true_iff]
          have := HA.out
          rwa [List.take_of_length_le (by rw [HL.out]; exact Nat.le_refl _), List.take_of_length_le (by rw [HM.out]; exact Nat.le_refl _)] at this
        have HY := Lib.hid hyes
        clear hyes
        go_wp2
        go_ret
        exact ⟨by rw [HY.out]; rfl, _, rfl⟩
  · have hno : decide (L = M) = false := by
      rw [decide_eq_false_iff_not]; rintro rfl; omega
    rw [hno]
    have d : ((len : Int) != (len' : Int)) = true := by rw [bne_iff_ne]; omega
    clear hno h h' hl hl'
    go_enter Try.func34, Try.ntmps34
    go_wp2
    go_ret
    exact ⟨rfl, 0, rfl⟩

set_option maxHeartbeats 800000 in
theorem same_bool (x y : Nm) (n m : Nat) {b : Bool} (hb : eqS x.row y.row = b) (w : World) (hx : NmOk w x n) (hy : NmOk w y m) (hm : n ≤ 1000000) (hm' : m ≤ 1000000) :
    Calls Try.prog 25 #[.slice x.pa n x.pc, .slice y.pa m y.pc] w fun r w' => r = .returned (.bool b) ∧ Below w.heap.size w w' := by
  have HE := Lib.hid (of_any x n w hx hm)
  have HY := Lib.hid hy
  have HBB := Lib.hid hb
  clear hx hy hb
  go_enter Try.func25, Try.ntmps25
  go_wp2_with fail
  refine HE.out.mono ?_
  rintro r w1 ⟨u, nu, rfl, hu, ho, hb1⟩
  have HS := Lib.hid (of_any y m w1 (HY.out.next hb1) hm')
  have HB1 := Lib.hid hb1
  have HO := Lib.hid ho
  have HU := Lib.hid hu
  clear hu ho hb1
  go_wp2_with fail
  refine HS.out.mono ?_
  rintro r w2 ⟨v, nv, rfl, hv, ho2, hb2⟩
  have ok1 := (HO.out.next hb2).ok
  have ok2 := ho2.ok
  have hq : decide (u.row = v.row) = b := by rw [HU.out, hv]; exact HBB.out
  have HC := Lib.hid (equal_any u.pa v.pa nu nv u.pc v.pc _ _ u.row v.row w2 ok1.ln ok2.ln (Nat.le_trans ok1.cap ok1.big) ok1.rd ok2.rd)
  rw [hq] at HC
  have HB2 := Lib.hid (HB1.out.trans (hb2.mono HB1.out.size))
  clear hv ho2 hb2 ok1 ok2 hq
  go_wp2_with fail
  refine HC.out.mono ?_
  rintro r w3 ⟨rfl, q, rfl⟩
  go_wp2
  go_ret
  exact ⟨rfl, bel_drewN HB2.out q⟩

set_option maxHeartbeats 800000 in
theorem grow_nil (n : Nat) (w : World) (hn : n ≤ 2000000) :
    Calls Try.prog 35 #[.slice none 0 0, .int .i64 n] w fun r w' => ∃ v, r = .returned v ∧ w'.ownsRow w.heap.size 9 1 v 0 [] ∧ Below w.heap.size w w' := by
  obtain ⟨i0, hi0, hz0, hz1, hz2⟩ := info_parts infoS
  have h1 : ¬ ((n : Int) < 0) := by omega
  rcases Nat.eq_zero_or_pos n with h0 | h0
  · subst h0
    go_enter Try.func35, Try.ntmps35
    go_wp2
    go_ret
    exact ⟨_, rfl, World.ownsRow_nil _ _ _ _, Below.refl _ _⟩
  · have hold : (Builtin.firstCells i0.size 0 (.slice none 0 0)).run Try.prog w.drew = .ok ([] : List Value).toArray w.drew := run_firstCells_none w.drew i0.size 0 0 0
    have hrz : ∀ ty, (Builtin.append_ #[22, 3] ty #[.slice none 0 0, .int .i64 n]).run Try.prog w = _ := fun ty => Lib.run_append_grow_zeros w 22 3 ty 9 i0 (.string ByteArray.empty) .i64 .i64 Try.underlying22 Try.underlying3 hi0 hz0 none 0 0 [] hold n h0 (by omega) (by omega) (by omega) (by rw [hz2]; omega) (growslice_fits (by omega) (by rw [hz2]; omega))
    have HZ := Lib.hid hrz
    have hG : 0 + n ≤ grownCap w (0 + n) 0 9 := grownCap_ge w _ _ _
    have hGm := grownCap_le_maxLen w (0 + n) 0 9 (by unfold maxLen; omega)
    have hp : (n : Int) > 0 := by omega
    obtain ⟨G, hGe⟩ : ∃ G, G = grownCap w (0 + n) 0 9 := ⟨_, rfl⟩
    rw [← hGe] at HZ hG hGm
    have hw : IntKind.i64.wrap (n : Int) = n := IntWalk.i64_in _ ⟨by omega, by omega⟩
    have hG63 : G ≤ 9223372036854775807 := by unfold maxLen at hGm; exact hGm
    have HG := Lib.hid hGm
    have HGe := Lib.hid hG
    clear hrz hold hGe hGm
    go_enter Try.func35, Try.ntmps35
    go_wp2_with (at_builtin; refine Lib.wpList_append_run _ rfl _ _ _ _ rfl _ _ rfl rfl _ _ (HZ.out _) ?_)
    go_ret
    exact ⟨_, rfl, World.ownsRow_made (base := w.heap.size) (e := 9) (size := 1) w _ G (Nat.le_refl _) HG.out (by have := HGe.out; simp [Builtin.zeroCells]; omega), ((Below.refl _ _).alloc (Nat.le_refl _) _).drew⟩

/-- the two cells of a row of two rows -/
def twoC (x y : Nm) (n m : Nat) : Array Value := #[.slice x.pa n x.pc, .slice y.pa m y.pc]
set_option maxHeartbeats 1600000 in
theorem concat_two (x y : Nm) (n m g : Nat) (w : World) (hx : NmOk w x n) (hy : NmOk w y m) (hn : n ≤ 1000000) (hm : m ≤ 1000000) (hg : Blk w g 22 #[.slice x.pa n x.pc, .slice y.pa m y.pc]) :
    Calls Try.prog 28 #[.slice (some ⟨g, 0, none⟩) 2 2] w (NmMade w (x.row ++ y.row)) := by
  obtain ⟨i0, hi0, hz0, hz1, hz2⟩ := info_parts infoS
  have HX := Lib.hid hx
  have HY := Lib.hid hy
  have HG := Lib.hid hg
  have c0 := hg.cell 0
  have c1 := hg.cell 1
  simp at c0 c1
  clear hx hy hg
  go_enter Try.func28, Try.ntmps28
  go_wp2
  go_loopw [3, 11] (fun s i wr => wr = w ∧ ((i = .int .i64 0 ∧ s = .int .i64 0) ∨ (i = .int .i64 1 ∧ s = .int .i64 n) ∨ (i = .int .i64 2 ∧ s = .int .i64 ((n : Int) + m)))) (fun _ i _ => 2 - (intOf i).toNat)
  case atStart => exact ⟨rfl, .inl ⟨rfl, rfl⟩⟩
  case round =>
    obtain ⟨hwe, ⟨rfl, rfl⟩ | ⟨rfl, rfl⟩ | ⟨rfl, rfl⟩⟩ := hrel
    all_goals
      have hwe' := hwe.symm
      subst hwe'
    · go_wp2
      go_roundw
      case rel => exact ⟨trivial, .inr (.inl ⟨by go_num, by go_num⟩)⟩
      case measure => simp [intOf]
    · go_wp2
      go_roundw
      case rel => exact ⟨trivial, .inr (.inr ⟨by go_num, by go_num⟩)⟩
      case measure => simp [intOf]
    · have HGr := Lib.hid (grow_nil (n + m) w (by omega))
      have hgl := HG.out.lt
      go_wp2_with fail
      refine HGr.out.mono ?_
      rintro r w1 ⟨v1, rfl, hown1, hb1⟩
      have HB1 := Lib.hid hb1
      have HO1 := Lib.hid hown1
      clear hown1 hb1
      go_wp2
      go_loopw [6, 27] (fun v i wq => Below w.heap.size w wq ∧ ((i = .int .i64 0 ∧ wq.ownsRow w.heap.size 9 1 v 0 []) ∨ (i = .int .i64 1 ∧ wq.ownsRow w.heap.size 9 1 v n (x.row.flatMap sC)) ∨ (i = .int .i64 2 ∧ wq.ownsRow w.heap.size 9 1 v (n + m) ((x.row ++ y.row).flatMap sC)))) (fun _ i _ => 2 - (intOf i).toNat)
      case atStart => exact ⟨HB1.out, .inl ⟨rfl, HO1.out⟩⟩
      case round =>
        obtain ⟨hbl, ⟨rfl, hown⟩ | ⟨rfl, hown⟩ | ⟨rfl, hown⟩⟩ := hrel
        all_goals
          obtain ⟨A1, cp1, rfl⟩ := own_slice hown
          have HB := Lib.hid hbl
          have HO := Lib.hid hown
        · have e0 := cell_of_below hbl hgl c0
          have HR := Lib.hid (HX.out.rd.below hbl)
          have HLn := Lib.hid HX.out.ln
          have hs1 := hbl.size
          clear hown hbl c0 c1
          go_wp2_with (at_builtin; refine wpList_append_rd _ rfl _ _ 22 rfl w.heap.size 9 i0 (.string ByteArray.empty) 1 16 Try.underlying22 hi0 hz0 hz1 hz2 rfl (by decide) _ 0 _ rfl HO.out _ _ n x.pc sC sC_len sC_one x.row HLn.out rfl HR.out (by unfold maxLen; omega) (by omega) hs1 ?_; intro v2 w2 hown2 hg2 _)
          have HB2 := Lib.hid (HB.out.grown hg2 hs1 (fun q hq => (HO.out.lt q hq).1))
          have HO2 := Lib.hid hown2
          clear hown2 hg2
          go_wp2
          go_roundw
          case rel => exact ⟨HB2.out, .inr (.inl ⟨by go_num, by simpa using HO2.out⟩)⟩
          case measure => simp [intOf]
        · have e0 := cell_of_below hbl hgl c1
          have HR := Lib.hid (HY.out.rd.below hbl)
          have HLn := Lib.hid HY.out.ln
          have hs1 := hbl.size
          clear hown hbl c0 c1
          go_wp2_with (at_builtin; refine wpList_append_rd _ rfl _ _ 22 rfl w.heap.size 9 i0 (.string ByteArray.empty) 1 16 Try.underlying22 hi0 hz0 hz1 hz2 rfl (by decide) _ n _ rfl HO.out _ _ m y.pc sC sC_len sC_one y.row HLn.out rfl HR.out (by unfold maxLen; omega) (by omega) hs1 ?_; intro v2 w2 hown2 hg2 _)
          have HB2 := Lib.hid (HB.out.grown hg2 hs1 (fun q hq => (HO.out.lt q hq).1))
          have HO2 := Lib.hid hown2
          clear hown2 hg2
          go_wp2
          go_roundw
          case rel => exact ⟨HB2.out, .inr (.inr ⟨by go_num, by simpa using HO2.out⟩)⟩
          case measure => simp [intOf]
        · obtain ⟨z, hz, hzr, hzo⟩ := NmOwn.of HO.out
          have HF := Lib.hid (show NmMade w (x.row ++ y.row) (.returned (.slice A1 (n + m) cp1)) wr from ⟨z, n + m, by rw [hz], hzr, hzo, HB.out⟩)
          clear hown hbl hz hzr hzo
          go_wp2
          go_ret
          exact HF.out
set_option maxHeartbeats 800000 in
theorem union_any (x y : Nm) (n m : Nat) (w : World) (hx : NmOk w x n) (hy : NmOk w y m) (hn : n ≤ 400000) (hm : m ≤ 400000) :
    Calls Try.prog 12 #[.slice x.pa n x.pc, .slice y.pa m y.pc] w (NmMade w (unionS x.row y.row)) := by
  have hb0 : Below w.heap.size w (w.alloc (.cells #[.slice x.pa n x.pc, .slice y.pa m y.pc] 22)) := (Below.refl _ _).alloc (Nat.le_refl _) _
  have HE := Lib.hid (concat_two x y n m w.heap.size _ (hx.next hb0) (hy.next hb0) (by omega) (by omega) (Blk.new w _ _))
  have HB0 := Lib.hid hb0
  have HL := Lib.hid (show (x.row ++ y.row).length = n + m by rw [List.length_append, hx.ln, hy.ln])
  clear hx hy hb0
  go_enter Try.func12, Try.ntmps12
  go_wp2_with fail
  refine HE.out.mono ?_
  rintro r w1 ⟨z, k, rfl, hz, ho, hb1⟩
  have hk : k ≤ 1000000 := by
    have h1 := ho.ln
    rw [hz, HL.out] at h1
    omega
  have HC := Lib.hid (of_any z k w1 ho.ok hk)
  rw [hz] at HC
  have HB1 := Lib.hid (HB0.out.trans (hb1.mono HB0.out.size))
  have HS := Lib.hid HB1.out.size
  clear hz ho hb1 hk
  go_wp2_with fail
  refine HC.out.mono ?_
  rintro r w2 ⟨u, nu, rfl, hu, ho2, hb2⟩
  have HF := Lib.hid (show NmMade w (unionS x.row y.row) (.returned (.slice u.pa nu u.pc)) w2 from ⟨u, nu, rfl, hu, ho2.less HS.out, HB1.out.trans (hb2.mono HS.out)⟩)
  clear hu ho2 hb2
  go_wp2
  go_ret
  exact HF.out
end Go.Proofs.Ytfdgbegoaaihoaa
