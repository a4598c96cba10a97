/- Loans: contracts of Add, Same; of the document's Is, Has; of Twin, Alike. -/
import Derived.Test.YtfbhmamdckkimaaLoD
namespace Go.Proofs.Ytfbhmamdckkimaa
open Go.RowKit
set_option linter.unusedVariables false
set_option linter.unusedSimpArgs false

set_option maxHeartbeats 800000 in
theorem add_any (A : Option Addr) (len c : Nat) (Ls : List Lo) (x : Lo) (w : World) (h : LoRow w A len c Ls) (hx : LoOk w x) (hl : len ≤ 1000) (hp : ∀ x ∈ Ls, x.pl.path.length ≤ 1000000) (hpx : x.pl.path.length ≤ 1000000) :
    Calls Try.prog 16 #[.slice A len c, .agg #[.string x.pl.name, .slice x.pl.pa x.pl.path.length x.pl.pc, .bool x.alone, .int .i64 x.till]] w fun r w' => ∃ v, r = .returned v ∧ LoMade w (addL (Ls.map Lo.key) x.key) v w' ∧ Below w.heap.size w w' := by
  obtain ⟨W0, hW0⟩ : ∃ W0, W0 = (w.alloc (.cells #[.string x.pl.name, .slice x.pl.pa x.pl.path.length x.pl.pc, .bool x.alone, .int .i64 x.till] 36)).alloc (.cells #[.string x.pl.name, .slice x.pl.pa x.pl.path.length x.pl.pc, .bool x.alone, .int .i64 x.till] 36) := ⟨_, rfl⟩
  have hb0 : Below w.heap.size w W0 := by rw [hW0]; exact ((Below.refl _ _).alloc (Nat.le_refl _) _).alloc (by simp) _
  have hk : Blk W0 (w.heap.size + 1) 36 #[.string x.pl.name, .slice x.pl.pa x.pl.path.length x.pl.pc, .bool x.alone, .int .i64 x.till] := by rw [hW0]; exact blk_at (Blk.new (w.alloc _) _ _) (by simp)
  have hr : LoRow W0 (some ⟨w.heap.size + 1, 0, none⟩) 1 1 [x] := ⟨rfl, rd_one loC_len hk rfl, fun y hy => by rw [List.mem_singleton.1 hy]; exact hx.next hb0, Nat.le_refl _, by omega⟩
  have HC := Lib.hid (union_any A (some ⟨w.heap.size + 1, 0, none⟩) len 1 c 1 Ls [x] W0 (h.below hb0) hr hl (by omega) hp (fun y hy => by rw [List.mem_singleton.1 hy]; exact hpx))
  have HB := Lib.hid hb0
  have HW := Lib.hid hW0
  clear h hb0 hk hr hp hpx hx
  go_enter Try.func16, Try.ntmps16
  go_wp2_with fail
  rw [← HW.out]
  refine HC.out.mono ?_
  rintro r w1 ⟨v, rfl, hl, h1⟩
  have HL := Lib.hid (show LoMade w (addL (Ls.map Lo.key) x.key) v w1 from hl.base HB.out.size)
  have HB1 := Lib.hid (HB.out.trans (h1.mono HB.out.size))
  clear hl h1
  go_wp2
  go_ret
  exact ⟨_, rfl, HL.out, HB1.out⟩

/-! ### Same -/
theorem same11_any (g : Nat) (x : Lo) (A : Option Addr) (len c : Nat) (Ls : List Lo) (b : Bool) (w : World) (hg : Blk w g 22 #[.slice A len c]) (h : LoRow w A len c Ls) (hx : LoOk w x) (hb : (!hasL (Ls.map Lo.key) x.key) = b) :
    Calls Try.prog 42 #[.agg #[.string x.pl.name, .slice x.pl.pa x.pl.path.length x.pl.pc, .bool x.alone, .int .i64 x.till], .pointer (some ⟨g, 0, none⟩)] w fun r w' => r = .returned (.bool b) ∧ Below w.heap.size w w' := by
  have hb1 : Below w.heap.size w (w.alloc (.cells #[.string x.pl.name, .slice x.pl.pa x.pl.path.length x.pl.pc, .bool x.alone, .int .i64 x.till] 36)) := (Below.refl _ _).alloc (Nat.le_refl _) _
  have q0 := bo0 hg
  have z0 := hg.lt
  obtain ⟨hs, hhs⟩ : ∃ b, hasL (Ls.map Lo.key) x.key = b := ⟨_, rfl⟩
  have HC := Lib.hid (hasis_any x A len c Ls _ (h.below hb1) (hx.next hb1) hs hhs)
  rw [hhs] at hb
  have HB := Lib.hid hb1
  subst hb
  clear hg h hx hb1 hhs
  go_enter Try.func42, Try.ntmps42
  go_wp2_with fail
  refine HC.out.mono ?_
  rintro r w1 ⟨rfl, h1⟩
  have HB1 := Lib.hid (HB.out.trans (h1.mono HB.out.size))
  clear h1
  cases hs
  all_goals
    go_wp2
    go_ret
    exact ⟨rfl, HB1.out⟩
theorem within_any (Ls : List Lo) (Ks : List LKey) : (!Ls.any (fun x => !hasL Ks x.key)) = withinL (Ls.map Lo.key) Ks := by
  unfold withinL
  rw [List.all_map, List.not_any_eq_all_not]
  congr 1
  funext x
  simp
theorem same1_any (A A' : Option Addr) (len len' c c' : Nat) (Ls Ms : List Lo) (w : World) (h : LoRow w A len c Ls) (h' : LoRow w A' len' c' Ms) (b : Bool) (hb : withinL (Ls.map Lo.key) (Ms.map Lo.key) = b) :
    Calls Try.prog 41 #[.slice A len c, .slice A' len' c'] w fun r w' => r = .returned (.bool b) ∧ Below w.heap.size w w' := by
  obtain ⟨W0, hW0⟩ : ∃ W0, W0 = w.alloc (.cells #[.slice A' len' c'] 22) := ⟨_, rfl⟩
  have hb0 : Below w.heap.size w W0 := by rw [hW0]; exact (Below.refl _ _).alloc (Nat.le_refl _) _
  have hk : Blk W0 w.heap.size 22 #[.slice A' len' c'] := by rw [hW0]; exact Blk.new w _ _
  obtain ⟨nb, hnb⟩ : ∃ nb, Ls.any (fun x => !hasL (Ms.map Lo.key) x.key) = nb := ⟨_, rfl⟩
  have HC := Lib.hid (lhas_cap 42 (.pointer (some ⟨w.heap.size, 0, none⟩)) (fun x => !hasL (Ms.map Lo.key) x.key) A len c Ls W0 (h.below hb0) nb hnb enter_same11 (fun W hW x hx b hb => same11_any _ x A' len' c' Ms b W (hk.below hW hk.lt) ((h'.below hb0).below hW) (((h.below hb0).below hW).ok x hx) hb))
  have hbn : b = !nb := by rw [← hb, ← within_any, hnb]
  have HB := Lib.hid hb0
  have HW := Lib.hid hW0
  subst hbn
  clear h h' hb0 hk hb hnb
  go_enter Try.func41, Try.ntmps41
  go_wp2_with fail
  rw [← HW.out]
  refine HC.out.mono ?_
  rintro r w1 ⟨rfl, h1⟩
  have HB1 := Lib.hid (HB.out.trans (h1.mono HB.out.size))
  clear h1
  cases nb
  all_goals
    go_wp2
    go_ret
    exact ⟨rfl, HB1.out⟩
theorem sameBook_any (A A' : Option Addr) (len len' c c' : Nat) (Ls Ms : List Lo) (w : World) (h : LoRow w A len c Ls) (h' : LoRow w A' len' c' Ms) (b : Bool) (hb : sameBk (Ls.map Lo.key) (Ms.map Lo.key) = b) :
    Calls Try.prog 27 #[.slice A len c, .slice A' len' c'] w fun r w' => r = .returned (.bool b) ∧ Below w.heap.size w w' := by
  obtain ⟨b1, hb1⟩ : ∃ b, withinL (Ls.map Lo.key) (Ms.map Lo.key) = b := ⟨_, rfl⟩
  obtain ⟨b2, hb2⟩ : ∃ b, withinL (Ms.map Lo.key) (Ls.map Lo.key) = b := ⟨_, rfl⟩
  have HC := Lib.hid (same1_any A A' len len' c c' Ls Ms w h h' b1 hb1)
  have HC2 := Lib.hid (fun W (hW : Below w.heap.size w W) => same1_any A' A len' len c' c Ms Ls W (h'.below hW) (h.below hW) b2 hb2)
  have hbv : b = (b1 && b2) := by rw [← hb, ← hb1, ← hb2]; rfl
  subst hbv
  clear h h' hb1 hb2 hb
  cases b1
  · go_enter Try.func27, Try.ntmps27
    go_wp2_with fail
    refine HC.out.mono ?_
    rintro r w1 ⟨rfl, h1⟩
    have HB1 := Lib.hid h1
    clear h1
    go_wp2
    go_ret
    exact ⟨rfl, HB1.out⟩
  · go_enter Try.func27, Try.ntmps27
    go_wp2_with fail
    refine HC.out.mono ?_
    rintro r w1 ⟨rfl, h1⟩
    have HB1 := Lib.hid h1
    clear h1
    go_wp2_with fail
    refine (HC2.out _ HB1.out).mono ?_
    rintro r w2 ⟨rfl, h2⟩
    have HB2 := Lib.hid (HB1.out.trans (h2.mono HB1.out.size))
    clear h2
    go_wp2
    go_ret
    exact ⟨by simp, HB2.out⟩

/-! ### the document's -/
set_option maxHeartbeats 1600000 in
theorem ris_any (x y : Lo) (b : Bool) (w : World) (hx : LoOk w x) (hy : LoOk w y) (hb : sameLo x.key y.key = b) :
    Calls Try.prog 46 #[.agg #[.string x.pl.name, .slice x.pl.pa x.pl.path.length x.pl.pc, .bool x.alone, .int .i64 x.till], .agg #[.string y.pl.name, .slice y.pl.pa y.pl.path.length y.pl.pc, .bool y.alone, .int .i64 y.till]] w fun r w' => r = .returned (.bool b) ∧ Below w.heap.size w w' := by
  obtain ⟨W0, hW0⟩ : ∃ W0, W0 = (w.alloc (.cells #[.string x.pl.name, .slice x.pl.pa x.pl.path.length x.pl.pc, .bool x.alone, .int .i64 x.till] 37)).alloc (.cells #[.string y.pl.name, .slice y.pl.pa y.pl.path.length y.pl.pc, .bool y.alone, .int .i64 y.till] 37) := ⟨_, rfl⟩
  have hb1 : Below w.heap.size w W0 := by rw [hW0]; exact ((Below.refl _ _).alloc (Nat.le_refl _) _).alloc (by simp) _
  have hk0 : Blk W0 w.heap.size 37 #[.string x.pl.name, .slice x.pl.pa x.pl.path.length x.pl.pc, .bool x.alone, .int .i64 x.till] := by rw [hW0]; exact (Blk.new w _ _).alloc _
  have hk1 : Blk W0 (w.heap.size + 1) 37 #[.string y.pl.name, .slice y.pl.pa y.pl.path.length y.pl.pc, .bool y.alone, .int .i64 y.till] := by rw [hW0]; exact blk_at (Blk.new (w.alloc _) _ _) (by simp)
  obtain ⟨sb, hsb⟩ : ∃ sb, sameB x.pl.key y.pl.key = sb := ⟨_, rfl⟩
  have HS := Lib.hid (rsame_bool x.pl y.pl hsb _ (hx.pl.next hb1) (hy.pl.next hb1))
  have HB := Lib.hid hb1
  have HW := Lib.hid hW0
  have HK0 := Lib.hid hk0
  have HK1 := Lib.hid hk1
  have hbv : b = (decide (x.alone = y.alone) && decide (x.till = y.till) && sb) := by rw [← hb, sameLo_eq, ← hsb]; rfl
  clear hx hy hb hb1 hsb hk0 hk1
  obtain ⟨a1, ha1⟩ : ∃ a, x.alone = a := ⟨_, rfl⟩
  obtain ⟨a2, ha2⟩ : ∃ a, y.alone = a := ⟨_, rfl⟩
  rw [ha1] at hbv HK0 HW ⊢
  rw [ha2] at hbv HK1 HW ⊢
  clear ha1 ha2 hW0
  go_enter Try.func46, Try.ntmps46
  go_wp2_with fail
  rw [← HW.out]
  refine HS.out.mono ?_
  rintro r w1 ⟨rfl, h1⟩
  have HB1 := Lib.hid (HB.out.trans (h1.mono HB.out.size))
  have hk0 := HK0.out.below h1 HK0.out.lt
  have hk1 := HK1.out.below h1 HK1.out.lt
  have c0 := bl2 hk0
  have c1 := bl3 hk0
  have c2 := bl2 hk1
  have c3 := bl3 hk1
  have z0 := hk0.lt
  have z1 := hk1.lt
  clear h1 hk0 hk1
  cases sb
  · have hbv' : b = false := by rw [hbv]; simp
    subst hbv'
    clear hbv
    go_wp2
    go_ret
    exact ⟨rfl, HB1.out⟩
  · by_cases ha : a1 = a2
    · subst ha
      have e1 : (a1 == a1) = true := by simp
      by_cases ht : x.till = y.till
      · have e2 : (x.till == y.till) = true := by rw [ht]; simp
        have hbv' : b = true := by rw [hbv, decide_eq_true ht]; simp
        subst hbv'
        clear hbv ht
        go_wp2
        go_ret
        exact ⟨rfl, HB1.out⟩
      · have e2 : (x.till == y.till) = false := by simpa using ht
        have hbv' : b = false := by rw [hbv, decide_eq_false ht]; simp
        subst hbv'
        clear hbv ht
        go_wp2
        go_ret
        exact ⟨rfl, HB1.out⟩
    · have e1 : (a1 == a2) = false := by simpa using ha
      have hbv' : b = false := by rw [hbv, decide_eq_false ha]; simp
      subst hbv'
      clear hbv ha
      go_wp2
      go_ret
      exact ⟨rfl, HB1.out⟩

set_option maxHeartbeats 1600000 in
theorem rhas_any (A : Option Addr) (len c : Nat) (Ls : List Lo) (x : Lo) (w : World) (h : LoRow w A len c Ls) (hx : LoOk w x) (b : Bool) (hb : hasL (Ls.map Lo.key) x.key = b) :
    Calls Try.prog 38 #[.slice A len c, .agg #[.string x.pl.name, .slice x.pl.pa x.pl.path.length x.pl.pc, .bool x.alone, .int .i64 x.till]] w fun r w' => r = .returned (.bool b) ∧ Below w.heap.size w w' := by
  subst hb
  obtain ⟨W0, hW0⟩ : ∃ W0, W0 = w.alloc (.cells #[.string x.pl.name, .slice x.pl.pa x.pl.path.length x.pl.pc, .bool x.alone, .int .i64 x.till] 37) := ⟨_, rfl⟩
  have hb0 : Below w.heap.size w W0 := by rw [hW0]; exact (Below.refl _ _).alloc (Nat.le_refl _) _
  have hk0 : Blk W0 w.heap.size 37 #[.string x.pl.name, .slice x.pl.pa x.pl.path.length x.pl.pc, .bool x.alone, .int .i64 x.till] := by rw [hW0]; exact Blk.new w _ _
  have H := Lib.hid (h.below hb0)
  have HX := Lib.hid (hx.next hb0)
  have HB0 := Lib.hid hb0
  have HW := Lib.hid hW0
  have HK0 := Lib.hid hk0
  have hN := h.bg
  clear h hx hb0 hk0
  go_enter Try.func38, Try.ntmps38
  go_wp2
  rw [← HW.out]
  clear hW0
  go_loopw [5] (fun i wr => ∃ k : Nat, k ≤ len ∧ i = .int .i64 k ∧ (∀ (q : Nat) (y : Lo), q < k → Ls[q]? = some y → sameLo y.key x.key = false) ∧ Below W0.heap.size W0 wr) (fun i _ => len - (intOf i).toNat)
  case atStart => exact ⟨0, by omega, rfl, fun q y hq => by omega, Below.refl _ _⟩
  case round =>
    obtain ⟨k, hk, rfl, hall, hbl⟩ := hrel
    have HA := Lib.hid hall
    have HB := Lib.hid hbl
    clear hall hbl
    by_cases hlt : k < len
    · obtain ⟨y, hy⟩ : ∃ y, Ls[k]? = some y := ⟨_, List.getElem?_eq_getElem (by rw [H.out.ln]; exact hlt)⟩
      obtain ⟨b, off, hA, hb, c0, c1, c2, c3⟩ := ((H.out.below HB.out).rd).lo hy
      subst hA
      have hki : (k : Int) < (len : Int) := by omega
      have hk0 : (0 : Int) ≤ (k : Int) := by omega
      have hmem := List.mem_of_getElem? hy
      obtain ⟨sb, hsb⟩ : ∃ b, sameLo y.key x.key = b := ⟨_, rfl⟩
      have hcc : ∀ (d : Nat) (os : Array Obj), Calls Try.prog 46 #[.agg #[.string y.pl.name, .slice y.pl.pa y.pl.path.length y.pl.pc, .bool y.alone, .int .i64 y.till], .agg #[.string x.pl.name, .slice x.pl.pa x.pl.path.length x.pl.pc, .bool x.alone, .int .i64 x.till]] (Go.Sort.grow (redrawn wr d) os) fun r w' => r = .returned (.bool sb) ∧ ∃ p : Regrown, w' = Go.Sort.grow (redrawn wr p.d) p.os := by
        intro d os
        have hb := HB.out.trans ((below_regrown wr d os).mono HB.out.size)
        exact Calls.regrown_of (ris_any y x sb _ ((H.out.below hb).ok y hmem) (HX.out.next hb) hsb)
      have HC := Lib.hid hcc
      have hbk := HK0.out.below HB.out HK0.out.lt
      have d0 := cell_regrown (bl0 hbk)
      have d1 := cell_regrown (bl1 hbk)
      have d2 := cell_regrown (bl2 hbk)
      have d3 := cell_regrown (bl3 hbk)
      have c0 := cell_regrown c0
      have c1 := cell_regrown c1
      have c2 := cell_regrown c2
      have c3 := cell_regrown c3
      clear hcc hbk
      have HN := Lib.hid (show sb = false → ∀ (q : Nat) (z : Lo), q < k + 1 → Ls[q]? = some z → sameLo z.key x.key = false by
        intro hsf q z hq hz
        rcases Nat.lt_or_ge q k with h1 | h1
        · exact HA.out q z h1 hz
        · obtain rfl : q = k := by omega
          rw [hy] at hz; cases hz; rw [hsb]; exact hsf)
      have HY := Lib.hid (show sb = true → hasL (Ls.map Lo.key) x.key = true by
        intro hst
        rw [hasL_iff, ← sameLo_iff.1 (hsb.trans hst)]
        exact List.mem_map.2 ⟨y, hmem, rfl⟩)
      clear hsb hy hmem
      cases sb
      · go_wp2_with fail
        refine wp_region_quiet_below (by kernel_rfl) (by kernel_rfl) ?_
        repeat (first | go_big_quiet_step ((first | (go_at_call 46; exact HC.out _ _))) | quiet_step ((first | (go_at_call 46; exact HC.out _ _))))
        refine wpQuiet_nil ?_
        intro W2 hW2e
        obtain ⟨⟨dq, osq⟩, hW2⟩ := hW2e
        have hbl2 : Below W0.heap.size W0 W2 := by rw [hW2]; exact HB.out.trans ((below_regrown wr dq osq).mono HB.out.size)
        have HBL2 := Lib.hid hbl2
        clear hW2 hbl2
        go_wp2
        go_roundw
        case rel => exact ⟨k + 1, by omega, by go_num, HN.out (by trivial), HBL2.out⟩
        case measure => simp [intOf] <;> omega
      · go_wp2_with fail
        refine wp_region_quiet_below (by kernel_rfl) (by kernel_rfl) ?_
        repeat (first | go_big_quiet_step ((first | (go_at_call 46; exact HC.out _ _))) | quiet_step ((first | (go_at_call 46; exact HC.out _ _))))
        refine wpQuiet_nil ?_
        intro W2 hW2e
        obtain ⟨⟨dq, osq⟩, hW2⟩ := hW2e
        have hbl2 : Below W0.heap.size W0 W2 := by rw [hW2]; exact HB.out.trans ((below_regrown wr dq osq).mono HB.out.size)
        have HBL2 := Lib.hid hbl2
        clear hW2 hbl2
        go_wp2
        go_ret
        exact ⟨by rw [HY.out (by trivial)]; rfl, HB0.out.trans (HBL2.out.mono HB0.out.size)⟩
    · obtain rfl : k = len := by omega
      have HN := Lib.hid (show hasL (Ls.map Lo.key) x.key = false by
        unfold hasL
        rw [List.any_map, List.any_eq_false]
        intro y hy
        obtain ⟨q, hq⟩ := List.mem_iff_getElem?.1 hy
        show ¬ sameLo y.key x.key = true
        rw [HA.out q y (by rw [← H.out.ln]; exact (List.getElem?_eq_some_iff.1 hq).1) hq]; simp)
      go_wp2
      go_ret
      exact ⟨by rw [HN.out]; rfl, HB0.out.trans (HB.out.mono HB0.out.size)⟩

/-! ### Alike -/
set_option maxHeartbeats 3200000 in
theorem alike_any (A A' : Option Addr) (len c c' : Nat) (Ls Ms : List Lo) (w : World) (h : LoRow w A len c Ls) (h' : LoRow w A' len c' Ms) (he : Ls.map Lo.key = Ms.map Lo.key) :
    Calls Try.prog 20 #[.slice A len c, .slice A' len c'] w fun r w' => r = .returned (.bool true) ∧ Below w.heap.size w w' := by
  have H := Lib.hid h
  have H' := Lib.hid h'
  have HE := Lib.hid he
  have hN := h.bg
  clear h h' he
  go_enter Try.func20, Try.ntmps20
  go_wp2
  go_loopw [5] (fun i wr => ∃ k : Nat, k ≤ len ∧ i = .int .i64 k ∧ Below w.heap.size w wr) (fun i _ => len - (intOf i).toNat)
  case atStart => exact ⟨0, by omega, rfl, Below.refl _ _⟩
  case round =>
    obtain ⟨k, hk, rfl, hbl⟩ := hrel
    have HB := Lib.hid hbl
    clear hbl
    by_cases hlt : k < len
    · obtain ⟨x, hx⟩ : ∃ x, Ls[k]? = some x := ⟨_, List.getElem?_eq_getElem (by rw [H.out.ln]; exact hlt)⟩
      obtain ⟨y, hy⟩ : ∃ y, Ms[k]? = some y := ⟨_, List.getElem?_eq_getElem (by rw [H'.out.ln]; exact hlt)⟩
      obtain ⟨b, off, hA, hb, c0, c1, c2, c3⟩ := ((H.out.below HB.out).rd).lo hx
      obtain ⟨b', off', hA', hb', d0, d1, d2, d3⟩ := ((H'.out.below HB.out).rd).lo hy
      subst hA hA'
      have hki : (k : Int) < (len : Int) := by omega
      have hk0 : (0 : Int) ≤ (k : Int) := by omega
      have hkk : x.key = y.key := by
        have h1 : (Ls.map Lo.key)[k]? = some x.key := by rw [List.getElem?_map, hx]; rfl
        have h2 : (Ms.map Lo.key)[k]? = some y.key := by rw [List.getElem?_map, hy]; rfl
        rw [HE.out, h2] at h1
        exact (Option.some.inj h1).symm
      have hkp : sameB x.pl.key y.pl.key = true := sameB_iff.2 (congrArg (fun k : LKey => k.1) hkk)
      have hka : y.alone = x.alone := (congrArg (fun k : LKey => k.2.1) hkk).symm
      have hkt : y.till = x.till := (congrArg (fun k : LKey => k.2.2) hkk).symm
      have hcc : ∀ (d : Nat) (os : Array Obj), Calls Try.prog 37 #[.agg #[.string x.pl.name, .slice x.pl.pa x.pl.path.length x.pl.pc], .agg #[.string y.pl.name, .slice y.pl.pa y.pl.path.length y.pl.pc]] (Go.Sort.grow (redrawn wr d) os) fun r w' => r = .returned (.bool true) ∧ ∃ p : Regrown, w' = Go.Sort.grow (redrawn wr p.d) p.os := by
        intro d os
        have hb := HB.out.trans ((below_regrown wr d os).mono HB.out.size)
        exact Calls.regrown_of (rsame_bool x.pl y.pl hkp _ ((H.out.below hb).ok x (List.mem_of_getElem? hx)).pl ((H'.out.below hb).ok y (List.mem_of_getElem? hy)).pl)
      have HC := Lib.hid hcc
      rw [hka] at d2
      rw [hkt] at d3
      have c0 := cell_regrown c0
      have c1 := cell_regrown c1
      have c2 := cell_regrown c2
      have c3 := cell_regrown c3
      have d0 := cell_regrown d0
      have d1 := cell_regrown d1
      have d2 := cell_regrown d2
      have d3 := cell_regrown d3
      clear hcc hkk hkp hka hkt hx hy
      go_wp2_with fail
      refine wp_region_quiet_below (by kernel_rfl) (by kernel_rfl) ?_
      repeat (first | go_big_quiet_step ((first | (go_at_call 37; exact HC.out _ _))) | quiet_step ((first | (go_at_call 37; exact HC.out _ _))))
      refine wpQuiet_nil ?_
      intro W2 hW2e
      obtain ⟨⟨dq, osq⟩, hW2⟩ := hW2e
      have hbl2 : Below w.heap.size w W2 := by rw [hW2]; exact HB.out.trans ((below_regrown wr dq osq).mono HB.out.size)
      have HBL2 := Lib.hid hbl2
      clear hW2 hbl2
      go_wp2
      go_roundw
      case rel => exact ⟨k + 1, by omega, by go_num, HBL2.out⟩
      case measure => simp [intOf] <;> omega
    · obtain rfl : k = len := by omega
      go_wp2
      go_ret
      exact ⟨rfl, HB.out⟩
end Go.Proofs.Ytfbhmamdckkimaa
