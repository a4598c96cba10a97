/- LoansOne: the walk. -/
import Derived.Test.YtfbhmamdckkimaaLoH
import Derived.Test.YtfbhmamdckkimaaLoO
import Derived.Deep.DeepCutAuto
import Derived.IntWalk
namespace Go.Proofs.Ytfbhmamdckkimaa
open Go.RowKit
set_option linter.unusedVariables false
set_option linter.unusedSimpArgs false

def badTo (K : List LKey) (p : PKey) (u : Int) (k : Nat) : Bool := (K.take k).any (fun x => decide (mayL [x] p u = 141))
theorem badTo_succ {K : List LKey} {p : PKey} {u : Int} {k : Nat} {x : LKey} (h : K[k]? = some x) : badTo K p u (k + 1) = (badTo K p u k || decide (mayL [x] p u = 141)) := by
  unfold badTo
  rw [List.take_add_one, h, List.any_append]; simp
def S6 (g b o : Nat) (x2 : Pl) (x : Lo) (W : World) : Prop := W.cell? ⟨g, 0, none⟩ = some (.string x2.name) ∧ W.cell? ⟨g, 1, none⟩ = some (.slice x2.pa x2.path.length x2.pc) ∧ W.cell? ⟨b, o, none⟩ = some (.string x.pl.name) ∧ W.cell? ⟨b, o + 1, none⟩ = some (.slice x.pl.pa x.pl.path.length x.pl.pc) ∧ W.cell? ⟨b, o + 2, none⟩ = some (.bool x.alone) ∧ W.cell? ⟨b, o + 3, none⟩ = some (.int .i64 x.till)
theorem S6.step {g b o : Nat} {x2 : Pl} {x : Lo} {W W' : World} (h : S6 g b o x2 x W) (hg : g < W.heap.size) (hb : b < W.heap.size) (hbl : Below W.heap.size W W') : S6 g b o x2 x W' := by
  obtain ⟨h1, h2, h3, h4, h5, h6⟩ := h
  exact ⟨cell_of_below hbl hg h1, cell_of_below hbl hg h2, cell_of_below hbl hb h3, cell_of_below hbl hb h4, cell_of_below hbl hb h5, cell_of_below hbl hb h6⟩
set_option maxHeartbeats 12800000 in
set_option maxRecDepth 100000 in
theorem loansOne_walk (A0 : Option Addr) (c0 : Nat) (L0 : List Lo) (A1 : Option Addr) (c1 : Nat) (L1 : List Lo) (x2 : Pl) (a3 : Int) (w : World) (rd0 : Rd w w.heap.size 4 loC A0 L0) (g0 : ∀ x ∈ L0, LoOk w x) (hc0 : L0.length ≤ c0) (hm0 : c0 ≤ maxLen) (rd1 : Rd w w.heap.size 4 loC A1 L1) (g1 : ∀ x ∈ L1, LoOk w x) (hc1 : L1.length ≤ c1) (hm1 : c1 ≤ maxLen) (g2 : PlOk w w.heap.size x2) (i3 : (Lit.int .u8 a3).wf = true) :
    Calls Try.prog 5 #[.slice A0 L0.length c0, .slice A1 L1.length c1, .agg #[.string x2.name, .slice x2.pa x2.path.length x2.pc], .int .u8 a3] w fun r w' => r = .returned (.bool true) ∧ Below w.heap.size w w' := by
  have hu : 0 ≤ a3 ∧ a3 ≤ 255 := bounds_u8 i3
  clear i3
  obtain ⟨W0, hW0⟩ : ∃ W0, W0 = w.alloc (.cells #[.string x2.name, .slice x2.pa x2.path.length x2.pc] 25) := ⟨_, rfl⟩
  have hb0 : Below w.heap.size w W0 := by rw [hW0]; exact (Below.refl _ _).alloc (Nat.le_refl _) _
  have hk0 : Blk W0 w.heap.size 25 #[.string x2.name, .slice x2.pa x2.path.length x2.pc] := by rw [hW0]; exact Blk.new w _ _
  have HB0 := Lib.hid hb0
  have HW := Lib.hid hW0
  have HK0 := Lib.hid hk0
  have HB := Lib.hid (Below.refl W0.heap.size W0)

  obtain ⟨m0, hmb0⟩ : ∃ b, manyB L0 = b := ⟨_, rfl⟩
  obtain ⟨m1, hmb1⟩ : ∃ b, manyB L1 = b := ⟨_, rfl⟩
  obtain ⟨l1, hl1⟩ : ∃ b, longB x2 = b := ⟨_, rfl⟩
  have HM0 := Lib.hid (many_any A0 _ c0 L0 W0 rfl ((rd0.below hb0).more hb0.size) (fun x hx => (g0 x hx).next hb0) hc0 hm0 m0 hmb0)
  have HM1 := Lib.hid (fun W (h : Below W0.heap.size W0 W) => many_any A1 _ c1 L1 W rfl ((((rd1.below hb0).more hb0.size).below h).more h.size) (fun x hx => ((g1 x hx).next hb0).next h) hc1 hm1 m1 hmb1)
  have HX := Lib.hid (fun W (h : Below W0.heap.size W0 W) => (g2.next hb0).next h)
  have HL1 := Lib.hid (fun W (h : Below W0.heap.size W0 W) => long_bool x2 hl1 W (HX.out W h))
  have c0a := bx0 (HK0.out.below HB.out HK0.out.lt)
  have c0b := bx1 (HK0.out.below HB.out HK0.out.lt)
  have z0 := (HK0.out.below HB.out HK0.out.lt).lt

  cases m0 with
  | true =>
    clear rd0 g0 rd1 g1 g2 hmb0 hmb1 hl1 hb0 hk0
    go_enter Try.func5, Try.ntmps5
    go_wp2_with fail
    rw [← HW.out]
    clear hW0
    go_wp2_with fail
    refine (HM0.out).mono ?_
    rintro r w1 ⟨rfl, hbn⟩
    have HB := Lib.hid (HB.out.trans (hbn.mono HB.out.size))
    clear hbn
    have c0a := bx0 (HK0.out.below HB.out HK0.out.lt)
    have c0b := bx1 (HK0.out.below HB.out HK0.out.lt)
    have z0 := (HK0.out.below HB.out HK0.out.lt).lt
    go_wp2_with fail
    refine (awake_yes _).mono ?_
    rintro r wz ⟨rfl, hbn⟩
    have HB := Lib.hid (HB.out.trans (hbn.mono HB.out.size))
    clear hbn
    go_wp2
    go_ret
    exact ⟨rfl, HB0.out.trans (HB.out.mono HB0.out.size)⟩

  | false =>
    cases m1 with
    | true =>
      clear rd0 g0 rd1 g1 g2 hmb0 hmb1 hl1 hb0 hk0
      go_enter Try.func5, Try.ntmps5
      go_wp2_with fail
      rw [← HW.out]
      clear hW0
      go_wp2_with fail
      refine (HM0.out).mono ?_
      rintro r w1 ⟨rfl, hbn⟩
      have HB := Lib.hid (HB.out.trans (hbn.mono HB.out.size))
      clear hbn
      have c0a := bx0 (HK0.out.below HB.out HK0.out.lt)
      have c0b := bx1 (HK0.out.below HB.out HK0.out.lt)
      have z0 := (HK0.out.below HB.out HK0.out.lt).lt
      go_wp2_with fail
      refine (HM1.out _ HB.out).mono ?_
      rintro r w2 ⟨rfl, hbn⟩
      have HB := Lib.hid (HB.out.trans (hbn.mono HB.out.size))
      clear hbn
      have c0a := bx0 (HK0.out.below HB.out HK0.out.lt)
      have c0b := bx1 (HK0.out.below HB.out HK0.out.lt)
      have z0 := (HK0.out.below HB.out HK0.out.lt).lt
      go_wp2_with fail
      refine (awake_yes _).mono ?_
      rintro r wz ⟨rfl, hbn⟩
      have HB := Lib.hid (HB.out.trans (hbn.mono HB.out.size))
      clear hbn
      go_wp2
      go_ret
      exact ⟨rfl, HB0.out.trans (HB.out.mono HB0.out.size)⟩

    | false =>
      cases l1 with
      | true =>
        clear rd0 g0 rd1 g1 g2 hmb0 hmb1 hl1 hb0 hk0
        go_enter Try.func5, Try.ntmps5
        go_wp2_with fail
        rw [← HW.out]
        clear hW0
        go_wp2_with fail
        refine (HM0.out).mono ?_
        rintro r w1 ⟨rfl, hbn⟩
        have HB := Lib.hid (HB.out.trans (hbn.mono HB.out.size))
        clear hbn
        have c0a := bx0 (HK0.out.below HB.out HK0.out.lt)
        have c0b := bx1 (HK0.out.below HB.out HK0.out.lt)
        have z0 := (HK0.out.below HB.out HK0.out.lt).lt
        go_wp2_with fail
        refine (HM1.out _ HB.out).mono ?_
        rintro r w2 ⟨rfl, hbn⟩
        have HB := Lib.hid (HB.out.trans (hbn.mono HB.out.size))
        clear hbn
        have c0a := bx0 (HK0.out.below HB.out HK0.out.lt)
        have c0b := bx1 (HK0.out.below HB.out HK0.out.lt)
        have z0 := (HK0.out.below HB.out HK0.out.lt).lt
        go_wp2_with fail
        refine (HL1.out _ HB.out).mono ?_
        rintro r w3 ⟨rfl, hbn⟩
        have HB := Lib.hid (HB.out.trans (hbn.mono HB.out.size))
        clear hbn
        have c0a := bx0 (HK0.out.below HB.out HK0.out.lt)
        have c0b := bx1 (HK0.out.below HB.out HK0.out.lt)
        have z0 := (HK0.out.below HB.out HK0.out.lt).lt
        go_wp2_with fail
        refine (awake_yes _).mono ?_
        rintro r wz ⟨rfl, hbn⟩
        have HB := Lib.hid (HB.out.trans (hbn.mono HB.out.size))
        clear hbn
        go_wp2
        go_ret
        exact ⟨rfl, HB0.out.trans (HB.out.mono HB0.out.size)⟩

      | false =>
        obtain ⟨h0, h40, hp0⟩ := short_row rd0 g0 hc0 hmb0
        obtain ⟨h1, h41, hp1⟩ := short_row rd1 g1 hc1 hmb1
        have H0 := Lib.hid (h0.below hb0)
        have H1 := Lib.hid (h1.below hb0)
        have HP0 := Lib.hid hp0
        have HP1 := Lib.hid hp1
        clear rd0 g0 rd1 g1 g2 hmb0 hmb1 hl1 hb0 hk0 h0 h1 hp0 hp1
        obtain ⟨n0, hn0⟩ : ∃ n, L0.length = n := ⟨_, rfl⟩
        obtain ⟨n1, hn1⟩ : ∃ n, L1.length = n := ⟨_, rfl⟩
        obtain ⟨K, hK⟩ : ∃ K, K = unionL (L0.map Lo.key) (L1.map Lo.key) := ⟨_, rfl⟩
        have hKl : K.length ≤ 80 := by
          rw [hK]
          refine Nat.le_trans (unionL_len _ _) ?_
          rw [List.length_map, List.length_map]; omega
        rw [hn0] at H0 HM0 h40 ⊢
        rw [hn1] at H1 HM1 h41 ⊢
        have HK := Lib.hid hK
        have HU := Lib.hid hu
        clear hn0 hn1 hu
        go_enter Try.func5, Try.ntmps5
        go_wp2_with fail
        rw [← HW.out]
        clear hW0
        go_wp2_with fail
        refine (HM0.out).mono ?_
        rintro r w1 ⟨rfl, hbn⟩
        have HB := Lib.hid (HB.out.trans (hbn.mono HB.out.size))
        clear hbn
        have c0a := bx0 (HK0.out.below HB.out HK0.out.lt)
        have c0b := bx1 (HK0.out.below HB.out HK0.out.lt)
        have z0 := (HK0.out.below HB.out HK0.out.lt).lt
        go_wp2_with fail
        refine (HM1.out _ HB.out).mono ?_
        rintro r w2 ⟨rfl, hbn⟩
        have HB := Lib.hid (HB.out.trans (hbn.mono HB.out.size))
        clear hbn
        have c0a := bx0 (HK0.out.below HB.out HK0.out.lt)
        have c0b := bx1 (HK0.out.below HB.out HK0.out.lt)
        have z0 := (HK0.out.below HB.out HK0.out.lt).lt
        go_wp2_with fail
        refine (HL1.out _ HB.out).mono ?_
        rintro r w3 ⟨rfl, hbn⟩
        have HB := Lib.hid (HB.out.trans (hbn.mono HB.out.size))
        clear hbn
        have c0a := bx0 (HK0.out.below HB.out HK0.out.lt)
        have c0b := bx1 (HK0.out.below HB.out HK0.out.lt)
        have z0 := (HK0.out.below HB.out HK0.out.lt).lt

        go_wp2_with fail
        refine (union_any A0 A1 n0 n1 c0 c1 L0 L1 w3 (H0.out.below HB.out) (H1.out.below HB.out) (by omega) (by omega) HP0.out HP1.out).mono ?_
        rintro r w4 ⟨v4, rfl, hm4, hbn⟩
        have HB := Lib.hid (HB.out.trans (hbn.mono HB.out.size))
        rw [← hK] at hm4
        obtain ⟨Au, cu, U, rfl, hru, hku, _, _⟩ := hm4.row (by omega)
        obtain ⟨m, hm⟩ : ∃ m, K.length = m := ⟨_, rfl⟩
        rw [hm] at hru hKl ⊢
        have HRU := Lib.hid hru
        have HKU := Lib.hid hku
        have HKM := Lib.hid hm
        have HB4 := HB
        clear hm4 hbn hru hku hm hK
        go_wp2
        go_loopw [10, 11] (fun bd i wr => ∃ k : Nat, k ≤ m ∧ i = .int .i64 k ∧ bd = .bool (badTo K x2.key a3 k) ∧ Below w4.heap.size w4 wr) (fun _ i _ => m - (intOf i).toNat)
        case atStart => exact ⟨0, by omega, rfl, by simp [badTo], Below.refl _ _⟩
        case round =>
          obtain ⟨k, hk, rfl, rfl, hbl⟩ := hrel
          have HBL := Lib.hid hbl
          have HB := Lib.hid (HB4.out.trans (hbl.mono HB4.out.size))
          obtain ⟨bd, hbd⟩ : ∃ b, b = badTo K x2.key a3 k := ⟨_, rfl⟩
          have HBD := Lib.hid hbd
          rw [← hbd]
          clear hbl hbd
          have c0a := bx0 (HK0.out.below HB.out HK0.out.lt)
          have c0b := bx1 (HK0.out.below HB.out HK0.out.lt)
          have z0 := (HK0.out.below HB.out HK0.out.lt).lt

          by_cases hlt : k < m
          · obtain ⟨x, hx⟩ : ∃ x, U[k]? = some x := ⟨_, List.getElem?_eq_getElem (by rw [HRU.out.ln]; exact hlt)⟩
            have hkx : K[k]? = some x.key := by rw [← HKU.out, List.getElem?_map, hx]; rfl
            have HSC := Lib.hid (badTo_succ (p := x2.key) (u := a3) hkx)
            have hmem := List.mem_of_getElem? hx
            obtain ⟨b, off, hA, hb, y0, y1, y2, y3⟩ := ((HRU.out.below HBL.out).rd).lo hx
            subst hA
            have hki : (k : Int) < (m : Int) := by omega
            have hk0' : (0 : Int) ≤ (k : Int) := by omega
            have hxk : LoOk wr x := (HRU.out.below HBL.out).ok x hmem
            clear hx hkx hmem
            cases bd
            · have hb5 : Below wr.heap.size wr (wr.alloc (.cells #[.string x.pl.name, .slice x.pl.pa x.pl.path.length x.pl.pc, .bool x.alone, .int .i64 x.till] 36)).drew := ((Below.refl _ _).alloc (Nat.le_refl _) _).drew
              have hr5 : LoRow (wr.alloc (.cells #[.string x.pl.name, .slice x.pl.pa x.pl.path.length x.pl.pc, .bool x.alone, .int .i64 x.till] 36)).drew (some ⟨wr.heap.size, 0, none⟩) 1 1 [x] := ⟨rfl, rd_one loC_len (Blk.new wr 36 #[.string x.pl.name, .slice x.pl.pa x.pl.path.length x.pl.pc, .bool x.alone, .int .i64 x.till]) rfl, fun y hy => by rw [List.mem_singleton.1 hy]; exact hxk.next hb5, Nat.le_refl _, by omega⟩
              obtain ⟨e, he⟩ : ∃ e, mayL [x.key] x2.key a3 = e := ⟨_, rfl⟩
              have HMY := Lib.hid (may_any (some ⟨wr.heap.size, 0, none⟩) 1 1 [x] x2 a3 _ hr5 (HX.out _ (HB.out.trans (hb5.mono HB.out.size))) HU.out.1 HU.out.2 e he)
              have HNX := Lib.hid (show badTo K x2.key a3 (k + 1) = decide (e = 141) by rw [HSC.out, ← HBD.out, he]; rfl)
              have hee : e = 0 ∨ e = 2 ∨ e = 141 := by rw [← he]; exact mayL_eq _ _ _
              have hS0 : S6 w.heap.size b (off + k * 4) x2 x wr.drew := ⟨c0a, c0b, y0, y1, y2, y3⟩
              have hS1 : S6 w.heap.size b (off + k * 4) x2 x (wr.alloc (.cells #[.string x.pl.name, .slice x.pl.pa x.pl.path.length x.pl.pc, .bool x.alone, .int .i64 x.till] 36)).drew := hS0.step z0 hb ⟨hb5.os, hb5.tape, hb5.output, hb5.size, hb5.block⟩
              have HZ := Lib.hid z0
              have hbz : b < (wr.alloc (.cells #[.string x.pl.name, .slice x.pl.pa x.pl.path.length x.pl.pc, .bool x.alone, .int .i64 x.till] 36)).drew.heap.size := Nat.lt_of_lt_of_le hb hb5.size
              have hz5 : w.heap.size < (wr.alloc (.cells #[.string x.pl.name, .slice x.pl.pa x.pl.path.length x.pl.pc, .bool x.alone, .int .i64 x.till] 36)).drew.heap.size := Nat.lt_of_lt_of_le z0 hb5.size
              have HB5 := Lib.hid (HBL.out.trans (hb5.mono HBL.out.size))
              have HBZ := Lib.hid (And.intro hbz hz5)
              unfold S6 at hS0 hS1
              clear he hb5 hr5 hxk y0 y1 y2 y3 hbz hz5
              rcases hee with rfl | rfl | rfl
              all_goals
                go_wp2_with fail
                go_region_held3 (fun W => W.cell? ⟨w.heap.size, 0, none⟩ = some (.string x2.name) ∧ W.cell? ⟨w.heap.size, 1, none⟩ = some (.slice x2.pa x2.path.length x2.pc) ∧ W.cell? ⟨b, off + k * 4, none⟩ = some (.string x.pl.name) ∧ W.cell? ⟨b, off + k * 4 + 1, none⟩ = some (.slice x.pl.pa x.pl.path.length x.pl.pc) ∧ W.cell? ⟨b, off + k * 4 + 2, none⟩ = some (.bool x.alone) ∧ W.cell? ⟨b, off + k * 4 + 3, none⟩ = some (.int .i64 x.till)) (first | exact hS0 | exact hS1 | exact hS2)
                  ((go_at_call 12; (with_reducible refine HMY.out.mono ?_); rintro r w6 ⟨rfl, h6⟩; have hS2 := S6.step (g := w.heap.size) (b := b) (o := off + k * 4) (x2 := x2) (x := x) hS1 HBZ.out.2 HBZ.out.1 h6; unfold S6 at hS2))
                have HB6 := Lib.hid (HB5.out.trans (h6.mono HB5.out.size))
                clear hS0 hS1 hS2 h6
                go_wp2
                go_roundw
                case rel => exact ⟨k + 1, by omega, by go_num, by rw [HNX.out]; rfl, HB6.out⟩
                case measure => simp [intOf] <;> omega
            · have HNX := Lib.hid (show badTo K x2.key a3 (k + 1) = true by rw [HSC.out, ← HBD.out]; rfl)
              clear hxk y0 y1 y2 y3
              go_wp2_with fail
              go_quiet (fail)
              go_wp2
              go_roundw
              case rel => exact ⟨k + 1, by omega, by go_num, by rw [HNX.out], below_drewN HBL.out _⟩
              case measure => simp [intOf] <;> omega
          · obtain rfl : k = m := by omega
            obtain ⟨e, he⟩ : ∃ e, mayL K x2.key a3 = e := ⟨_, rfl⟩
            have HMY := Lib.hid (may_any Au k cu U x2 a3 wr (HRU.out.below HBL.out) (HX.out _ HB.out) HU.out.1 HU.out.2 e (by rw [HKU.out]; exact he))
            have hbe : bd = decide (e = 141) := by
              have h := one_mayL K x2.key a3
              rw [HBD.out, ← he]
              unfold badTo
              rw [List.take_of_length_le (by rw [HKM.out]; exact Nat.le_refl _)]
              exact h.symm
            have hpt : e = 0 → mayL (L0.map Lo.key) x2.key a3 = 0 ∧ mayL (L1.map Lo.key) x2.key a3 = 0 := by
              intro h
              rw [h, HK.out] at he
              exact part_mayL he
            have harg : e = 2 ↔ (a3 < 1 ∨ 6 < a3) := by rw [← he]; exact mayL_arg
            have HPT := Lib.hid hpt
            have hee : e = 0 ∨ e = 2 ∨ e = 141 := by rw [← he]; exact mayL_eq _ _ _
            clear he hpt
            rcases hee with rfl | rfl | rfl
            · have hbf : bd = false := by rw [hbe]; rfl
              have hua : 1 ≤ a3 ∧ a3 ≤ 6 := by
                by_cases h : a3 < 1 ∨ 6 < a3
                · have := harg.2 h; omega
                · omega
              have h1u := hua.1
              have h6u := hua.2
              subst hbf
              obtain ⟨hq0, hq1⟩ := HPT.out rfl
              have HA := Lib.hid (fun W (h : Below W0.heap.size W0 W) => may_any A0 n0 c0 L0 x2 a3 W (H0.out.below h) (HX.out W h) HU.out.1 HU.out.2 0 hq0)
              have HC := Lib.hid (fun W (h : Below W0.heap.size W0 W) => may_any A1 n1 c1 L1 x2 a3 W (H1.out.below h) (HX.out W h) HU.out.1 HU.out.2 0 hq1)
              clear hq0 hq1 hbe harg
              go_wp2_with fail
              refine (HMY.out).mono ?_
              rintro r w6 ⟨rfl, hbn⟩
              have HB := Lib.hid (HB.out.trans (hbn.mono HB.out.size))
              clear hbn
              have c0a := bx0 (HK0.out.below HB.out HK0.out.lt)
              have c0b := bx1 (HK0.out.below HB.out HK0.out.lt)
              have z0 := (HK0.out.below HB.out HK0.out.lt).lt
              go_wp2_with fail
              refine (HA.out _ HB.out).mono ?_
              rintro r w7 ⟨rfl, hbn⟩
              have HB := Lib.hid (HB.out.trans (hbn.mono HB.out.size))
              clear hbn
              have c0a := bx0 (HK0.out.below HB.out HK0.out.lt)
              have c0b := bx1 (HK0.out.below HB.out HK0.out.lt)
              have z0 := (HK0.out.below HB.out HK0.out.lt).lt
              go_wp2_with fail
              refine (HC.out _ HB.out).mono ?_
              rintro r w8 ⟨rfl, hbn⟩
              have HB := Lib.hid (HB.out.trans (hbn.mono HB.out.size))
              clear hbn
              have c0a := bx0 (HK0.out.below HB.out HK0.out.lt)
              have c0b := bx1 (HK0.out.below HB.out HK0.out.lt)
              have z0 := (HK0.out.below HB.out HK0.out.lt).lt
              go_wp2_with fail
              refine (awake_yes _).mono ?_
              rintro r wz ⟨rfl, hbn⟩
              have HB := Lib.hid (HB.out.trans (hbn.mono HB.out.size))
              clear hbn
              go_wp2
              go_ret
              exact ⟨rfl, HB0.out.trans (HB.out.mono HB0.out.size)⟩

            · have hbf : bd = false := by rw [hbe]; rfl
              subst hbf
              have hua := harg.1 rfl
              clear hbe harg
              rcases hua with hua | hua
              · have hn1 : ¬ 1 ≤ a3 := by omega
                go_wp2_with fail
                refine (HMY.out).mono ?_
                rintro r w6 ⟨rfl, hbn⟩
                have HB := Lib.hid (HB.out.trans (hbn.mono HB.out.size))
                clear hbn
                have c0a := bx0 (HK0.out.below HB.out HK0.out.lt)
                have c0b := bx1 (HK0.out.below HB.out HK0.out.lt)
                have z0 := (HK0.out.below HB.out HK0.out.lt).lt
                go_wp2_with fail
                refine (awake_yes _).mono ?_
                rintro r wz ⟨rfl, hbn⟩
                have HB := Lib.hid (HB.out.trans (hbn.mono HB.out.size))
                clear hbn
                go_wp2
                go_ret
                exact ⟨rfl, HB0.out.trans (HB.out.mono HB0.out.size)⟩

              · have h1 : 1 ≤ a3 := by omega
                have hn6 : ¬ a3 ≤ 6 := by omega
                have d6 : decide (a3 ≤ 6) = false := decide_eq_false hn6
                have d1 : decide (1 ≤ a3) = true := decide_eq_true h1
                go_wp2_with fail
                refine (HMY.out).mono ?_
                rintro r w6 ⟨rfl, hbn⟩
                have HB := Lib.hid (HB.out.trans (hbn.mono HB.out.size))
                clear hbn
                have c0a := bx0 (HK0.out.below HB.out HK0.out.lt)
                have c0b := bx1 (HK0.out.below HB.out HK0.out.lt)
                have z0 := (HK0.out.below HB.out HK0.out.lt).lt
                go_wp2_with fail
                refine (awake_yes _).mono ?_
                rintro r wz ⟨rfl, hbn⟩
                have HB := Lib.hid (HB.out.trans (hbn.mono HB.out.size))
                clear hbn
                go_wp2
                go_ret
                exact ⟨rfl, HB0.out.trans (HB.out.mono HB0.out.size)⟩

            · have hbf : bd = true := by rw [hbe]; rfl
              have hua : 1 ≤ a3 ∧ a3 ≤ 6 := by
                by_cases h : a3 < 1 ∨ 6 < a3
                · have := harg.2 h; omega
                · omega
              have h1u := hua.1
              have h6u := hua.2
              subst hbf
              clear hbe harg
              go_wp2_with fail
              refine (HMY.out).mono ?_
              rintro r w6 ⟨rfl, hbn⟩
              have HB := Lib.hid (HB.out.trans (hbn.mono HB.out.size))
              clear hbn
              have c0a := bx0 (HK0.out.below HB.out HK0.out.lt)
              have c0b := bx1 (HK0.out.below HB.out HK0.out.lt)
              have z0 := (HK0.out.below HB.out HK0.out.lt).lt
              go_wp2_with fail
              refine (awake_yes _).mono ?_
              rintro r wz ⟨rfl, hbn⟩
              have HB := Lib.hid (HB.out.trans (hbn.mono HB.out.size))
              clear hbn
              go_wp2
              go_ret
              exact ⟨rfl, HB0.out.trans (HB.out.mono HB0.out.size)⟩

end Go.Proofs.Ytfbhmamdckkimaa
