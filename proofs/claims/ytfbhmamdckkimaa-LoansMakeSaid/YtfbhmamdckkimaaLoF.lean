/- Loans: contracts of the document's May, Add, End, Union, Same; of Twin. -/
import Derived.Test.YtfbhmamdckkimaaLoE
namespace Go.Proofs.Ytfbhmamdckkimaa
open Go.RowKit
set_option linter.unusedVariables false
set_option linter.unusedSimpArgs false

/-- a book that is told as a row -/
def RowIs (Ks : List LKey) (w : World) (r : Ending) (w' : World) : Prop := ∃ (A : Option Addr) (n c : Nat) (O : List Lo), r = .returned (.slice A n c) ∧ LoRow w' A n c O ∧ O.map Lo.key = Ks ∧ Below w.heap.size w w'

set_option maxHeartbeats 6400000 in
theorem rmay_any (A : Option Addr) (len c : Nat) (Ls : List Lo) (p : Pl) (u : Int) (w : World) (h : LoRow w A len c Ls) (hp : PlOk w w.heap.size p) (hu0 : 0 ≤ u) (hu1 : u ≤ 255) :
    Calls Try.prog 13 #[.slice A len c, .agg #[.string p.name, .slice p.pa p.path.length p.pc], .int .i64 u] w fun r w' => r = .returned (.int .i64 (mayL (Ls.map Lo.key) p.key u)) ∧ Below w.heap.size w w' := by
  obtain ⟨W0, hW0⟩ : ∃ W0, W0 = w.alloc (.cells #[.string p.name, .slice p.pa p.path.length p.pc] 25) := ⟨_, rfl⟩
  have hb0 : Below w.heap.size w W0 := by rw [hW0]; exact (Below.refl _ _).alloc (Nat.le_refl _) _
  have hk0 : Blk W0 w.heap.size 25 #[.string p.name, .slice p.pa p.path.length p.pc] := by rw [hW0]; exact Blk.new w _ _
  have HB0 := Lib.hid hb0
  have HW := Lib.hid hW0
  by_cases h1 : u < 1
  · have HM := Lib.hid (show mayL (Ls.map Lo.key) p.key u = 2 by rw [mayL_arg]; exact .inl h1)
    clear h hp hk0 hb0
    go_enter Try.func13, Try.ntmps13
    go_wp2
    rw [← HW.out]
    go_ret
    exact ⟨by rw [HM.out]; rfl, HB0.out⟩
  · by_cases h6 : 6 < u
    · have HM := Lib.hid (show mayL (Ls.map Lo.key) p.key u = 2 by rw [mayL_arg]; exact .inr h6)
      clear h hp hk0 hb0
      go_enter Try.func13, Try.ntmps13
      go_wp2
      rw [← HW.out]
      go_ret
      exact ⟨by rw [HM.out]; rfl, HB0.out⟩
    · have HML := Lib.hid (show mayL (Ls.map Lo.key) p.key u = if (Ls.map Lo.key).any (clash p.key u) then 141 else 0 by unfold mayL; rw [if_neg (by omega)])
      have H := Lib.hid (h.below hb0)
      have HP := Lib.hid (hp.next hb0)
      have HK0 := Lib.hid hk0
      have hN := h.bg
      clear h hp hk0 hb0
      go_enter Try.func13, Try.ntmps13
      go_wp2
      rw [← HW.out]
      clear hW0
      go_loopw [7] (fun i wr => ∃ k : Nat, k ≤ len ∧ i = .int .i64 k ∧ (∀ (q : Nat) (y : Lo), q < k → Ls[q]? = some y → clash p.key u y.key = false) ∧ Below W0.heap.size W0 wr) (fun i _ => len - (intOf i).toNat)
      case atStart => exact ⟨0, by omega, rfl, fun q y hq => by omega, Below.refl _ _⟩
      case round =>
        obtain ⟨k, hk, rfl, hall, hbl⟩ := hrel
        have HA := Lib.hid hall
        have HB := Lib.hid hbl
        clear hall hbl
        by_cases hlt : k < len
        · obtain ⟨y, hy⟩ : ∃ y, Ls[k]? = some y := ⟨_, List.getElem?_eq_getElem (by rw [H.out.ln]; exact hlt)⟩
          obtain ⟨b, off, hA, hb, c0, c1, c2, c3⟩ := ((H.out.below HB.out).rd).lo hy
          subst hA
          have hki : (k : Int) < (len : Int) := by omega
          have hk0 : (0 : Int) ≤ (k : Int) := by omega
          have hmem := List.mem_of_getElem? hy
          obtain ⟨mb, hmb⟩ : ∃ b, meetB y.pl.key p.key = b := ⟨_, rfl⟩
          have hcc : ∀ (d : Nat) (os : Array Obj), Calls Try.prog 31 #[.agg #[.string y.pl.name, .slice y.pl.pa y.pl.path.length y.pl.pc], .agg #[.string p.name, .slice p.pa p.path.length p.pc]] (Go.Sort.grow (redrawn wr d) os) fun r w' => r = .returned (.bool mb) ∧ ∃ p : Regrown, w' = Go.Sort.grow (redrawn wr p.d) p.os := by
            intro d os
            have hb := HB.out.trans ((below_regrown wr d os).mono HB.out.size)
            exact Calls.regrown_of (rmeets_bool y.pl p hmb _ ((H.out.below hb).ok y hmem).pl (HP.out.next hb))
          have HC := Lib.hid hcc
          have hbk := HK0.out.below HB.out HK0.out.lt
          have d0 := cell_regrown (bx0 hbk)
          have d1 := cell_regrown (bx1 hbk)
          have c0 := cell_regrown c0
          have c1 := cell_regrown c1
          have hnot : clash p.key u y.key = false → ∀ (q : Nat) (z : Lo), q < k + 1 → Ls[q]? = some z → clash p.key u z.key = false := by
            intro hsf q z hq hz
            rcases Nat.lt_or_ge q k with h1 | h1
            · exact HA.out q z h1 hz
            · obtain rfl : q = k := by omega
              rw [hy] at hz; cases hz; exact hsf
          have hyes : clash p.key u y.key = true → mayL (Ls.map Lo.key) p.key u = 141 := by
            intro hst
            rw [HML.out, if_pos]
            rw [List.any_map, List.any_eq_true]
            exact ⟨y, hmem, hst⟩
          obtain ⟨al, hal⟩ : ∃ a, y.alone = a := ⟨_, rfl⟩
          have hcl : clash p.key u y.key = ((al || decide (2 < u)) && mb) := by rw [← hmb, ← hal]; rfl
          rw [hal] at c2
          have c2 := cell_regrown c2
          clear hcc hbk hmb hy hmem hal c3
          cases mb
          · have HN := Lib.hid (hnot (by rw [hcl]; simp)); clear hnot hyes hcl
            go_wp2_with fail
            refine wp_region_quiet_below (by kernel_rfl) (by kernel_rfl) ?_
            repeat (first | go_big_quiet_step ((first | (go_at_call 31; exact HC.out _ _))) | quiet_step ((first | (go_at_call 31; exact HC.out _ _))))
            refine wpQuiet_nil ?_
            intro W2 hW2e
            obtain ⟨⟨dq, osq⟩, hW2⟩ := hW2e
            have hbl2 : Below W0.heap.size W0 W2 := by rw [hW2]; exact HB.out.trans ((below_regrown wr dq osq).mono HB.out.size)
            have HBL2 := Lib.hid hbl2
            clear hW2 hbl2
            go_wp2
            go_roundw
            case rel => exact ⟨k + 1, by omega, by go_num, HN.out, HBL2.out⟩
            case measure => simp [intOf] <;> omega
          · cases al
            · by_cases u1 : u = 1
              · subst u1
                have HN := Lib.hid (hnot (by rw [hcl]; decide)); clear hnot hyes hcl
                go_wp2_with fail
                refine wp_region_quiet_below (by kernel_rfl) (by kernel_rfl) ?_
                repeat (first | go_big_quiet_step ((first | (go_at_call 31; exact HC.out _ _))) | quiet_step ((first | (go_at_call 31; exact HC.out _ _))))
                refine wpQuiet_nil ?_
                intro W2 hW2e
                obtain ⟨⟨dq, osq⟩, hW2⟩ := hW2e
                have hbl2 : Below W0.heap.size W0 W2 := by rw [hW2]; exact HB.out.trans ((below_regrown wr dq osq).mono HB.out.size)
                have HBL2 := Lib.hid hbl2
                clear hW2 hbl2
                go_wp2
                go_roundw
                case rel => exact ⟨k + 1, by omega, by go_num, HN.out, HBL2.out⟩
                case measure => simp [intOf] <;> omega
              · have e1 : (u != 1) = true := by rw [bne_iff_ne]; exact u1
                by_cases u2 : u = 2
                · subst u2
                  have HN := Lib.hid (hnot (by rw [hcl]; decide)); clear hnot hyes hcl
                  go_wp2_with fail
                  refine wp_region_quiet_below (by kernel_rfl) (by kernel_rfl) ?_
                  repeat (first | go_big_quiet_step ((first | (go_at_call 31; exact HC.out _ _))) | quiet_step ((first | (go_at_call 31; exact HC.out _ _))))
                  refine wpQuiet_nil ?_
                  intro W2 hW2e
                  obtain ⟨⟨dq, osq⟩, hW2⟩ := hW2e
                  have hbl2 : Below W0.heap.size W0 W2 := by rw [hW2]; exact HB.out.trans ((below_regrown wr dq osq).mono HB.out.size)
                  have HBL2 := Lib.hid hbl2
                  clear hW2 hbl2
                  go_wp2
                  go_roundw
                  case rel => exact ⟨k + 1, by omega, by go_num, HN.out, HBL2.out⟩
                  case measure => simp [intOf] <;> omega
                · have e2 : (u != 2) = true := by rw [bne_iff_ne]; exact u2
                  have HY := Lib.hid (hyes (by rw [hcl]; rw [decide_eq_true (show 2 < u by omega)]; rfl)); clear hnot hyes hcl
                  go_wp2_with fail
                  refine wp_region_quiet_below (by kernel_rfl) (by kernel_rfl) ?_
                  repeat (first | go_big_quiet_step ((first | (go_at_call 31; exact HC.out _ _))) | quiet_step ((first | (go_at_call 31; exact HC.out _ _))))
                  refine wpQuiet_nil ?_
                  intro W2 hW2e
                  obtain ⟨⟨dq, osq⟩, hW2⟩ := hW2e
                  have hbl2 : Below W0.heap.size W0 W2 := by rw [hW2]; exact HB.out.trans ((below_regrown wr dq osq).mono HB.out.size)
                  have HBL2 := Lib.hid hbl2
                  clear hW2 hbl2
                  go_wp2
                  go_ret
                  exact ⟨by rw [HY.out]; rfl, HB0.out.trans (HBL2.out.mono HB0.out.size)⟩
            · have HY := Lib.hid (hyes (by rw [hcl]; simp)); clear hnot hyes hcl
              go_wp2_with fail
              refine wp_region_quiet_below (by kernel_rfl) (by kernel_rfl) ?_
              repeat (first | go_big_quiet_step ((first | (go_at_call 31; exact HC.out _ _))) | quiet_step ((first | (go_at_call 31; exact HC.out _ _))))
              refine wpQuiet_nil ?_
              intro W2 hW2e
              obtain ⟨⟨dq, osq⟩, hW2⟩ := hW2e
              have hbl2 : Below W0.heap.size W0 W2 := by rw [hW2]; exact HB.out.trans ((below_regrown wr dq osq).mono HB.out.size)
              have HBL2 := Lib.hid hbl2
              clear hW2 hbl2
              go_wp2
              go_ret
              exact ⟨by rw [HY.out]; rfl, HB0.out.trans (HBL2.out.mono HB0.out.size)⟩
        · obtain rfl : k = len := by omega
          have HN := Lib.hid (show mayL (Ls.map Lo.key) p.key u = 0 by
            rw [HML.out, if_neg]
            rw [List.any_map, List.any_eq_true]
            rintro ⟨y, hy, hc⟩
            obtain ⟨q, hq⟩ := List.mem_iff_getElem?.1 hy
            have := HA.out q y (by rw [← H.out.ln]; exact (List.getElem?_eq_some_iff.1 hq).1) hq
            rw [show (clash p.key u ∘ Lo.key) y = clash p.key u y.key from rfl, this] at hc
            cases hc)
          go_wp2
          go_ret
          exact ⟨by rw [HN.out]; rfl, HB0.out.trans (HB.out.mono HB0.out.size)⟩

theorem infoR : (Try.prog.info? 37).map (fun i => (i.zero, i.size, i.bytes)) = some (some (.agg #[.string ByteArray.empty, .slice none 0 0, .bool false, .int .i64 0]), 4, 56) := by kernel_rfl
/-- the document's Twin: a copy of the row -/
def TwinIs (Ls : List Lo) (w : World) (r : Ending) (w' : World) : Prop := ∃ (A : Option Addr) (n c : Nat), r = .returned (.slice A n c) ∧ n = Ls.length ∧ w'.ownsRow w.heap.size 37 4 (.slice A n c) n (Ls.flatMap loC) ∧ Below w.heap.size w w'
theorem flat_snoc {L : List Lo} {k : Nat} {x : Lo} (h : L[k]? = some x) : (L.take (k + 1)).flatMap loC = (L.take k).flatMap loC ++ loC x := by
  rw [List.take_add_one, h, List.flatMap_append]; simp
set_option maxHeartbeats 3200000 in
theorem twin_any (A : Option Addr) (len c : Nat) (Ls : List Lo) (w : World) (h : LoRow w A len c Ls) :
    Calls Try.prog 14 #[.slice A len c] w (TwinIs Ls w) := by
  obtain ⟨i0, hi0, hz0, hz1, hz2⟩ := info_parts infoR
  have H := Lib.hid h
  have hN := h.bg
  clear h
  go_enter Try.func14, Try.ntmps14
  go_wp2
  go_loopw [3, 4] (fun v i wr => ∃ k : Nat, k ≤ len ∧ i = .int .i64 k ∧ wr.ownsRow w.heap.size 37 4 v k ((Ls.take k).flatMap loC) ∧ Below w.heap.size w wr) (fun _ i _ => len - (intOf i).toNat)
  case atStart => exact ⟨0, by omega, rfl, World.ownsRow_nil _ _ _ _, Below.refl _ _⟩
  case round =>
    obtain ⟨k, hk, rfl, hown, hbl⟩ := hrel
    have HB := Lib.hid hbl
    have HO := Lib.hid hown
    obtain ⟨Ao, co, rfl⟩ := own_slice hown
    clear hbl hown
    by_cases hlt : k < len
    · obtain ⟨x, hx⟩ : ∃ x, Ls[k]? = some x := ⟨_, List.getElem?_eq_getElem (by rw [H.out.ln]; exact hlt)⟩
      have HF := Lib.hid (flat_snoc hx)
      obtain ⟨b, off, hA, hb, c0, c1, c2, c3⟩ := ((H.out.below HB.out).rd).lo hx
      subst hA
      have hki : (k : Int) < (len : Int) := by omega
      have hk0 : (0 : Int) ≤ (k : Int) := by omega
      have hbw : b < w.heap.size := by
        rcases (H.out.rd) with h0 | ⟨b2, off2, e, hb2, _⟩
        · rw [h0] at hx; simp at hx
        · cases e; exact hb2
      obtain ⟨lx, hlx⟩ : ∃ n, x.pl.path.length = n := ⟨_, rfl⟩
      have HLX := Lib.hid hlx
      rw [hlx] at c1
      have hb5 : Below wr.heap.size wr (wr.drew.alloc (.cells #[.string x.pl.name, .slice x.pl.pa lx x.pl.pc, .bool x.alone, .int .i64 x.till] 37)) := ((Below.refl _ _).drew).alloc (Nat.le_refl _) _
      have hS0 : wr.drew.cell? ⟨b, off + k * 4, none⟩ = some (.string x.pl.name) ∧ wr.drew.cell? ⟨b, off + k * 4 + 1, none⟩ = some (.slice x.pl.pa lx x.pl.pc) ∧ wr.drew.cell? ⟨b, off + k * 4 + 2, none⟩ = some (.bool x.alone) ∧ wr.drew.cell? ⟨b, off + k * 4 + 3, none⟩ = some (.int .i64 x.till) := ⟨c0, c1, c2, c3⟩
      have hS1 := And.intro (cell_of_below hb5 hb c0) (And.intro (cell_of_below hb5 hb c1) (And.intro (cell_of_below hb5 hb c2) (cell_of_below hb5 hb c3)))
      have hr1 := rd_one (cells := loC) (x := x) loC_len (Blk.new wr.drew 37 #[.string x.pl.name, .slice x.pl.pa lx x.pl.pc, .bool x.alone, .int .i64 x.till]) (by rw [← HLX.out]; rfl)
      have HR1 := Lib.hid hr1
      have HB5 := Lib.hid (HB.out.trans (hb5.mono HB.out.size))
      have h63 : k + 1 ≤ maxLen := by unfold maxLen; omega
      have hby : (k + 1) * 56 ≤ 140737488355328 := by omega
      have hbs := HB5.out.size
      have HO5 := Lib.hid (own_below HO.out hb5)
      clear hlx hr1 hb5 hx c0 c1 c2 c3
      go_wp2_with fail
      go_region_held3 (fun W => W.cell? ⟨b, off + k * 4, none⟩ = some (.string x.pl.name) ∧ W.cell? ⟨b, off + k * 4 + 1, none⟩ = some (.slice x.pl.pa lx x.pl.pc) ∧ W.cell? ⟨b, off + k * 4 + 2, none⟩ = some (.bool x.alone) ∧ W.cell? ⟨b, off + k * 4 + 3, none⟩ = some (.int .i64 x.till)) (first | exact hS0 | exact hS1 | exact hS3)
        ((refine step_append_rd (by rfl) _ _ _ (by rfl) w.heap.size 37 i0 (.agg #[.string ByteArray.empty, .slice none 0 0, .bool false, .int .i64 0]) 4 56 Try.underlying31 hi0 hz0 hz1 hz2 (by rfl) (by decide) _ k _ (by rfl) HO5.out _ _ 1 1 loC loC_len loC_one [x] rfl (by rfl) HR1.out h63 hby hbs ?_; intro v5 w5 hown5 hg5 _; have hb6 := HB5.out.grown hg5 hbs (fun q hq => (HO5.out.lt q hq).1); have hS3 := And.intro (hg5.cell hS1.1 (fun e => by have := (HO5.out.lt b e.symm).1; omega)) (And.intro (hg5.cell hS1.2.1 (fun e => by have := (HO5.out.lt b e.symm).1; omega)) (And.intro (hg5.cell hS1.2.2.1 (fun e => by have := (HO5.out.lt b e.symm).1; omega)) (hg5.cell hS1.2.2.2 (fun e => by have := (HO5.out.lt b e.symm).1; omega))))))
      have HB6 := Lib.hid hb6
      have HL5 := Lib.hid (show w5.ownsRow w.heap.size 37 4 v5 (k + 1) ((Ls.take (k + 1)).flatMap loC) by rw [HF.out]; simpa using hown5)
      clear hown5 hg5 hb6 hS0 hS1 hS3
      go_wp2
      go_roundw
      case rel => exact ⟨k + 1, by omega, by go_num, HL5.out, HB6.out⟩
      case measure => simp [intOf] <;> omega
    · obtain rfl : k = len := by omega
      have HF := Lib.hid (show Ls.take k = Ls by rw [← H.out.ln, List.take_length])
      have HLN := Lib.hid H.out.ln
      go_wp2
      go_ret
      exact ⟨_, _, _, rfl, HLN.out.symm, by have h := HO.out; rw [HF.out] at h; exact h, HB.out⟩
end Go.Proofs.Ytfbhmamdckkimaa
