/- LoansSame: the walk. -/
import Derived.Test.YtfbhmamdckkimaaLoH
import Derived.Test.YtfbhmamdckkimaaLoO
import Derived.Deep.DeepCutAuto
import Derived.IntWalk
namespace Go.Proofs.Ytfbhmamdckkimaa
open Go.RowKit
set_option linter.unusedVariables false
set_option linter.unusedSimpArgs false

set_option maxHeartbeats 6400000 in
set_option maxRecDepth 100000 in
theorem loansSame_walk (A0 : Option Addr) (c0 : Nat) (L0 : List Lo) (A1 : Option Addr) (c1 : Nat) (L1 : List Lo) (w : World) (rd0 : Rd w w.heap.size 4 loC A0 L0) (g0 : ∀ x ∈ L0, LoOk w x) (hc0 : L0.length ≤ c0) (hm0 : c0 ≤ maxLen) (rd1 : Rd w w.heap.size 4 loC A1 L1) (g1 : ∀ x ∈ L1, LoOk w x) (hc1 : L1.length ≤ c1) (hm1 : c1 ≤ maxLen) :
    Calls Try.prog 8 #[.slice A0 L0.length c0, .slice A1 L1.length c1] w fun r w' => r = .returned (.bool true) ∧ Below w.heap.size w w' := by
  obtain ⟨m0, hmb0⟩ : ∃ b, manyB L0 = b := ⟨_, rfl⟩
  obtain ⟨m1, hmb1⟩ : ∃ b, manyB L1 = b := ⟨_, rfl⟩
  have HM0 := Lib.hid (many_any A0 _ c0 L0 w rfl rd0 g0 hc0 hm0 m0 hmb0)
  have HM1 := Lib.hid (fun W (h : Below w.heap.size w W) => many_any A1 _ c1 L1 W rfl ((rd1.below h).more h.size) (fun x hx => (g1 x hx).next h) hc1 hm1 m1 hmb1)
  have HB := Lib.hid (Below.refl w.heap.size w)
  have HB0 := Lib.hid (Below.refl w.heap.size w)
  cases m0 with
  | true =>
    clear rd0 g0 rd1 g1 hmb0 hmb1
    go_enter Try.func8, Try.ntmps8
    go_wp2_with fail
    refine (HM0.out).mono ?_
    rintro r w1 ⟨rfl, hbn⟩
    have HB := Lib.hid (HB.out.trans (hbn.mono HB.out.size))
    clear hbn
    go_wp2
    go_ret
    exact ⟨rfl, HB0.out.trans (HB.out.mono HB0.out.size)⟩

  | false =>
    cases m1 with
    | true =>
      clear rd0 g0 rd1 g1 hmb0 hmb1
      go_enter Try.func8, Try.ntmps8
      go_wp2_with fail
      refine (HM0.out).mono ?_
      rintro r w1 ⟨rfl, hbn⟩
      have HB := Lib.hid (HB.out.trans (hbn.mono HB.out.size))
      clear hbn
      go_wp2_with fail
      refine (HM1.out _ HB.out).mono ?_
      rintro r w2 ⟨rfl, hbn⟩
      have HB := Lib.hid (HB.out.trans (hbn.mono HB.out.size))
      clear hbn
      go_wp2
      go_ret
      exact ⟨rfl, HB0.out.trans (HB.out.mono HB0.out.size)⟩

    | false =>
      obtain ⟨h0, h40, _⟩ := short_row rd0 g0 hc0 hmb0
      obtain ⟨h1, h41, _⟩ := short_row rd1 g1 hc1 hmb1
      have H0 := Lib.hid h0
      have H1 := Lib.hid h1
      clear rd0 g0 rd1 g1 hmb0 hmb1 h0 h1
      obtain ⟨n0, hn0⟩ : ∃ n, L0.length = n := ⟨_, rfl⟩
      obtain ⟨n1, hn1⟩ : ∃ n, L1.length = n := ⟨_, rfl⟩
      have HN0 := Lib.hid hn0
      have HN1 := Lib.hid hn1
      rw [hn0] at H0 HM0 h40 ⊢
      rw [hn1] at H1 HM1 h41 ⊢
      clear hn0 hn1
      go_enter Try.func8, Try.ntmps8
      go_wp2_with fail
      refine (HM0.out).mono ?_
      rintro r w1 ⟨rfl, hbn⟩
      have HB := Lib.hid (HB.out.trans (hbn.mono HB.out.size))
      clear hbn
      go_wp2_with fail
      refine (HM1.out _ HB.out).mono ?_
      rintro r w2 ⟨rfl, hbn⟩
      have HB := Lib.hid (HB.out.trans (hbn.mono HB.out.size))
      clear hbn
      go_wp2_with fail
      refine (sameBook_any A0 A1 n0 n1 c0 c1 L0 L1 _ (H0.out.below HB.out) (H1.out.below HB.out) _ rfl).mono ?_
      rintro r w3 ⟨rfl, hbn⟩
      have HB := Lib.hid (HB.out.trans (hbn.mono HB.out.size))
      clear hbn

      go_wp2_with fail
      refine (twin_any A0 n0 c0 L0 _ (H0.out.below HB.out)).mono ?_
      rintro r w4 ⟨At, nt, ct, rfl, hnt, hot, hbn⟩
      have HB := Lib.hid (HB.out.trans (hbn.mono HB.out.size))
      obtain ⟨_, _, e, hrt⟩ := row_own (w := w) hot hnt.symm (fun x hx => (H0.out.ok x hx).next HB.out) (by rw [hnt, HN0.out]; omega)
      injection e with e1 e2 e3
      subst e1 e3
      have HT := Lib.hid hrt
      have HBT := Lib.hid (Below.refl w4.heap.size w4)
      have HB4 := HB
      clear e2 hrt hot hbn hnt
      go_wp2_with fail
      refine (twin_any A1 n1 c1 L1 _ (H1.out.below HB.out)).mono ?_
      rintro r w5 ⟨Au, nu, cu, rfl, hnu, hou, hbn⟩
      have HB := Lib.hid (HB.out.trans (hbn.mono HB.out.size))
      obtain ⟨_, _, e, hru⟩ := row_own (w := w) hou hnu.symm (fun x hx => (H1.out.ok x hx).next HB.out) (by rw [hnu, HN1.out]; omega)
      injection e with e1 e2 e3
      subst e1 e3
      have HU := Lib.hid hru
      have HT5 := Lib.hid (HT.out.below hbn)
      clear e2 hru hou hbn hnu
      go_wp2_with fail
      refine (rsameBook_any _ _ _ _ _ _ L0 L1 _ HT5.out HU.out).mono ?_
      rintro r w6 ⟨rfl, hbn⟩
      have HB := Lib.hid (HB.out.trans (hbn.mono HB.out.size))
      clear hbn
      go_wp2_with fail
      refine (sameBook_any A0 A0 n0 n0 c0 c0 L0 L0 _ (H0.out.below HB.out) (H0.out.below HB.out) _ (sameBk_self _)).mono ?_
      rintro r w7 ⟨rfl, hbn⟩
      have HB := Lib.hid (HB.out.trans (hbn.mono HB.out.size))
      clear hbn
      go_wp2_with fail
      refine (awake_yes _).mono ?_
      rintro r wz ⟨rfl, hbn⟩
      have HB := Lib.hid (HB.out.trans (hbn.mono HB.out.size))
      clear hbn
      go_wp2
      go_ret
      exact ⟨rfl, HB0.out.trans (HB.out.mono HB0.out.size)⟩

end Go.Proofs.Ytfbhmamdckkimaa
