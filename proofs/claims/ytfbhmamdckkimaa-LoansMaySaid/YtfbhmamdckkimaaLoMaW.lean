/- LoansMay: the walk. -/
import Derived.Test.YtfbhmamdckkimaaLoH
import Derived.Test.YtfbhmamdckkimaaLoO
import Derived.Deep.DeepCutAuto
import Derived.IntWalk
namespace Go.Proofs.Ytfbhmamdckkimaa
open Go.RowKit
set_option linter.unusedVariables false
set_option linter.unusedSimpArgs false

def Old (w0 W : World) : Prop := Below w0.heap.size w0 W
def Sb (w0 : World) (g : Nat) (x : Pl) (W : World) : Prop := W.cell? ⟨g, 0, none⟩ = some (.string x.name) ∧ W.cell? ⟨g, 1, none⟩ = some (.slice x.pa x.path.length x.pc) ∧ Old w0 W
theorem Sb.old {w0 W : World} {g : Nat} {x : Pl} (h : Sb w0 g x W) : Below w0.heap.size w0 W := h.2.2
theorem Sb.step {w0 W W' : World} {g : Nat} {x : Pl} (hg : g < w0.heap.size) (h : Sb w0 g x W) (hb : Below W.heap.size W W') : Sb w0 g x W' := by
  have hs := h.old.size
  exact ⟨cell_of_below hb (by omega) h.1, cell_of_below hb (by omega) h.2.1, Below.trans h.old (hb.mono hs)⟩
set_option maxHeartbeats 6400000 in
set_option maxRecDepth 100000 in
theorem loansMay_walk (A0 : Option Addr) (c0 : Nat) (L0 : List Lo) (x1 : Pl) (a2 : Int) (w : World) (rd0 : Rd w w.heap.size 4 loC A0 L0) (g0 : ∀ x ∈ L0, LoOk w x) (hc0 : L0.length ≤ c0) (hm0 : c0 ≤ maxLen) (g1 : PlOk w w.heap.size x1) (i2 : (Lit.int .u8 a2).wf = true) :
    Calls Try.prog 3 #[.slice A0 L0.length c0, .agg #[.string x1.name, .slice x1.pa x1.path.length x1.pc], .int .u8 a2] w fun r w' => r = .returned (.bool true) ∧ Below w.heap.size w w' := by
  have hu : 0 ≤ a2 ∧ a2 ≤ 255 := bounds_u8 i2
  obtain ⟨W0, hW0⟩ : ∃ W0, W0 = w.alloc (.cells #[.string x1.name, .slice x1.pa x1.path.length x1.pc] 25) := ⟨_, rfl⟩
  have hb0 : Below w.heap.size w W0 := by rw [hW0]; exact (Below.refl _ _).alloc (Nat.le_refl _) _
  have hk0 : Blk W0 w.heap.size 25 #[.string x1.name, .slice x1.pa x1.path.length x1.pc] := by rw [hW0]; exact Blk.new w _ _
  have HB0 := Lib.hid hb0
  have HW := Lib.hid hW0
  have HK0 := Lib.hid hk0
  have HB := Lib.hid (Below.refl W0.heap.size W0)

  obtain ⟨m0, hmb0⟩ : ∃ b, manyB L0 = b := ⟨_, rfl⟩
  obtain ⟨l1, hl1⟩ : ∃ b, longB x1 = b := ⟨_, rfl⟩
  have HM0 := Lib.hid (many_any A0 _ c0 L0 W0 rfl ((rd0.below hb0).more hb0.size) (fun x hx => (g0 x hx).next hb0) hc0 hm0 m0 hmb0)
  have HX := Lib.hid (fun W (h : Below W0.heap.size W0 W) => (g1.next hb0).next h)
  have HL1 := Lib.hid (fun W (h : Below W0.heap.size W0 W) => long_bool x1 hl1 W (HX.out W h))
  have c0a := bx0 (HK0.out.below HB.out HK0.out.lt)
  have c0b := bx1 (HK0.out.below HB.out HK0.out.lt)
  have z0 := (HK0.out.below HB.out HK0.out.lt).lt

  cases m0 with
  | true =>
    clear rd0 g0 g1 hmb0 hl1 hb0 hk0
    go_enter Try.func3, Try.ntmps3
    go_wp2_with fail
    rw [← HW.out]
    clear hW0
    go_wp2_with fail
    refine (HM0.out).mono ?_
    rintro r w1 ⟨rfl, hbn⟩
    have HB := Lib.hid (HB.out.trans (hbn.mono HB.out.size))
    clear hbn
    have c0a := bx0 (HK0.out.below HB.out HK0.out.lt)
    have c0b := bx1 (HK0.out.below HB.out HK0.out.lt)
    have z0 := (HK0.out.below HB.out HK0.out.lt).lt
    go_wp2
    go_ret
    exact ⟨rfl, HB0.out.trans (HB.out.mono HB0.out.size)⟩

  | false =>
    cases l1 with
    | true =>
      clear rd0 g0 g1 hmb0 hl1 hb0 hk0
      go_enter Try.func3, Try.ntmps3
      go_wp2_with fail
      rw [← HW.out]
      clear hW0
      go_wp2_with fail
      refine (HM0.out).mono ?_
      rintro r w1 ⟨rfl, hbn⟩
      have HB := Lib.hid (HB.out.trans (hbn.mono HB.out.size))
      clear hbn
      have c0a := bx0 (HK0.out.below HB.out HK0.out.lt)
      have c0b := bx1 (HK0.out.below HB.out HK0.out.lt)
      have z0 := (HK0.out.below HB.out HK0.out.lt).lt
      go_wp2_with fail
      refine (HL1.out _ HB.out).mono ?_
      rintro r w2 ⟨rfl, hbn⟩
      have HB := Lib.hid (HB.out.trans (hbn.mono HB.out.size))
      clear hbn
      have c0a := bx0 (HK0.out.below HB.out HK0.out.lt)
      have c0b := bx1 (HK0.out.below HB.out HK0.out.lt)
      have z0 := (HK0.out.below HB.out HK0.out.lt).lt
      go_wp2
      go_ret
      exact ⟨rfl, HB0.out.trans (HB.out.mono HB0.out.size)⟩

    | false =>
      obtain ⟨h0, h40, _⟩ := short_row rd0 g0 hc0 hmb0
      have H0 := Lib.hid (h0.below hb0)
      have HLL := Lib.hid (show L0.length ≤ 40 from h40)
      clear rd0 g0 g1 hmb0 hl1 hb0 hk0 h0 h40
      obtain ⟨n0, hn0⟩ : ∃ n, L0.length = n := ⟨_, rfl⟩
      have HN0 := Lib.hid hn0
      rw [hn0] at H0 HM0 HLL ⊢
      clear hn0
      go_enter Try.func3, Try.ntmps3
      go_wp2_with fail
      rw [← HW.out]
      clear hW0
      go_wp2_with fail
      refine (HM0.out).mono ?_
      rintro r w1 ⟨rfl, hbn⟩
      have HB := Lib.hid (HB.out.trans (hbn.mono HB.out.size))
      clear hbn
      have c0a := bx0 (HK0.out.below HB.out HK0.out.lt)
      have c0b := bx1 (HK0.out.below HB.out HK0.out.lt)
      have z0 := (HK0.out.below HB.out HK0.out.lt).lt
      go_wp2_with fail
      refine (HL1.out _ HB.out).mono ?_
      rintro r w2 ⟨rfl, hbn⟩
      have HB := Lib.hid (HB.out.trans (hbn.mono HB.out.size))
      clear hbn
      have c0a := bx0 (HK0.out.below HB.out HK0.out.lt)
      have c0b := bx1 (HK0.out.below HB.out HK0.out.lt)
      have z0 := (HK0.out.below HB.out HK0.out.lt).lt

      have HG := Lib.hid HK0.out.lt
      have hS0 : Sb W0 w.heap.size x1 w2.drew := ⟨c0a, c0b, HB.out.drew⟩
      unfold Sb at hS0
      obtain ⟨m, hm⟩ : ∃ m, mayL (L0.map Lo.key) x1.key a2 = m := ⟨_, rfl⟩
      have HMY := Lib.hid (fun W (h : Below W0.heap.size W0 W) => may_any A0 n0 c0 L0 x1 a2 W (H0.out.below h) (HX.out W h) hu.1 hu.2 m hm)
      have HTW := Lib.hid (fun W (h : Below W0.heap.size W0 W) => twin_any A0 n0 c0 L0 W (H0.out.below h))
      have HRM := Lib.hid (fun W (h : Below W0.heap.size W0 W) (A : Option Addr) (n c : Nat) (hr : LoRow W A n c L0) => hm ▸ rmay_any A n c L0 x1 a2 W hr (HX.out W h) hu.1 hu.2)
      have hu1 := hu.1
      have hu2 := hu.2
      have hwr : IntKind.i64.wrap a2 = a2 := IntWalk.i64_in a2 ⟨by omega, by omega⟩
      clear hm hu i2
      go_wp2_with fail
      go_region_held3 (fun W => W.cell? ⟨w.heap.size, 0, none⟩ = some (.string x1.name) ∧ W.cell? ⟨w.heap.size, 1, none⟩ = some (.slice x1.pa x1.path.length x1.pc) ∧ Old W0 W) (first | exact hS0 | exact hS1 | exact hS2 | exact hS3 | exact hS4)
        (first
          | (go_at_call 12; (with_reducible refine (HMY.out _ ?_).mono ?_); (exact Sb.old (g := w.heap.size) (x := x1) hS0); rintro r w3 ⟨rfl, h3⟩; have hS1 := Sb.step HG.out hS0 h3; unfold Sb at hS1)
          | (go_at_call 14; (with_reducible refine (HTW.out _ ?_).mono ?_); (exact Sb.old (g := w.heap.size) (x := x1) hS1); rintro r w4 ⟨At, nt, ct, rfl, hnt, hot, h4⟩; subst hnt; have hS2 := Sb.step HG.out hS1 h4; obtain ⟨_, _, e, hrt⟩ := row_own (w := w) hot rfl (fun x hx => ((H0.out.below (Sb.old hS2)).ok x hx)) (by rw [HN0.out]; have := HLL.out; omega); injection e with e1 e2 e3; subst e1 e3; unfold Sb at hS2; clear e2)
          | (go_at_call 13; (with_reducible refine (HRM.out _ ?_ _ _ _ hrt).mono ?_); (exact Sb.old (g := w.heap.size) (x := x1) hS2); rintro r w5 ⟨rfl, h5⟩; have hS3 := Sb.step HG.out hS2 h5; unfold Sb at hS3)
          | (go_at_call 15; (with_reducible refine (awake_yes _).mono ?_); rintro r w6 ⟨rfl, h6⟩; have hS4 := Sb.step HG.out hS3 h6; unfold Sb at hS4))
      have HB := Lib.hid (Sb.old (g := w.heap.size) (x := x1) hS4)
      clear hS0 hS1 hS2 hS3 hS4 hrt hot h3 h4 h5 h6
      go_wp2
      go_ret
      exact ⟨rfl, HB0.out.trans (HB.out.mono HB0.out.size)⟩

end Go.Proofs.Ytfbhmamdckkimaa
