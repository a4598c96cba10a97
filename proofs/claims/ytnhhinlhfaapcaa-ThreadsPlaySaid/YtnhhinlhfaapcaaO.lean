/- Threads: awake, act. -/
import Derived.Test.YtnhhinlhfaapcaaN
namespace Go.Proofs.Ytnhhinlhfaapcaa
open Go.RowKit
set_option linter.unusedVariables false
set_option linter.unusedSimpArgs false

theorem end_ok {t : Tab} {W : World} {B g : Nat} (h : TabR W B g t) (n : Int) (p : Bool) : Calls Try.prog 19 #[.pointer (some ⟨g, 0, none⟩), .int .i64 n, .bool p] W fun r w' => r = .returned (.int .i64 (if endBad t n then 2 else 0)) ∧ Left W B g (endF t n p) w' := end_any g B t n p W h
theorem Safe.fresh {F : Nat → Prop} {w w' : World} {B g : Nat} {t : Tab} (h : TabR w B g t) (hb : Below w.heap.size w w') (hF : ∀ q, F q → w.heap.size ≤ q) : Safe F w' B g := by
  obtain ⟨v, S, C, hx⟩ := h
  intro t2 v2 S2 C2 hx2 i k q hi hk e hq
  obtain ⟨e1, e2⟩ := (hx.below hb).uniq hx2
  obtain ⟨e3, e4⟩ := e2 i (by omega)
  rw [← e4 k (by omega)] at e
  have h1 := ((hx.oi i k (by omega) (by omega)).lt q e).2
  have h2 := hF q hq
  omega
def aw0 : Tab := newT
theorem ak0 : Tok 0 aw0 := tok_new
def aw1 : Tab := spnF aw0 (0 : Int)
theorem ak1 : Tok 0 aw1 := ak0.spn 0
theorem ac1 {W : World} {B g : Nat} (h : TabR W B g aw0) : Calls Try.prog 21 #[.pointer (some ⟨g, 0, none⟩), .int .i64 0] W fun r w' => r = .returned (.tuple #[.int .i64 0, .int .i64 2]) ∧ Left W B g aw1 w' := by
  have h1 := spawn_ok (by omega) h ak0 0
  rw [show spnN aw0 0 = 0 by kernel_rfl, show spnE aw0 0 = 2 by kernel_rfl] at h1
  exact h1
def aw2 : Tab := opnF aw1 (0 : Int)
theorem ak2 : Tok 1 aw2 := ak1.opn 0
theorem ac2 {W : World} {B g : Nat} (h : TabR W B g aw1) : Calls Try.prog 20 #[.pointer (some ⟨g, 0, none⟩), .int .i64 0] W fun r w' => r = .returned (.int .i64 0) ∧ Left W B g aw2 w' := by
  have h1 := open_ok (by omega) h ak1 0
  rw [show (if refB aw1 0 0 then (2 : Int) else 0) = 0 by kernel_rfl] at h1
  exact h1
def aw3 : Tab := spnF aw2 (0 : Int)
theorem ak3 : Tok 1 aw3 := ak2.spn 0
theorem ac3 {W : World} {B g : Nat} (h : TabR W B g aw2) : Calls Try.prog 21 #[.pointer (some ⟨g, 0, none⟩), .int .i64 0] W fun r w' => r = .returned (.tuple #[.int .i64 1, .int .i64 0]) ∧ Left W B g aw3 w' := by
  have h1 := spawn_ok (by omega) h ak2 0
  rw [show spnN aw2 0 = 1 by kernel_rfl, show spnE aw2 0 = 0 by kernel_rfl] at h1
  exact h1
def aw4 : Tab := spnF aw3 (0 : Int)
theorem ak4 : Tok 1 aw4 := ak3.spn 0
theorem ac4 {W : World} {B g : Nat} (h : TabR W B g aw3) : Calls Try.prog 21 #[.pointer (some ⟨g, 0, none⟩), .int .i64 0] W fun r w' => r = .returned (.tuple #[.int .i64 2, .int .i64 0]) ∧ Left W B g aw4 w' := by
  have h1 := spawn_ok (by omega) h ak3 0
  rw [show spnN aw3 0 = 2 by kernel_rfl, show spnE aw3 0 = 0 by kernel_rfl] at h1
  exact h1
def aw5 : Tab := opnF aw4 (1 : Int)
theorem ak5 : Tok 2 aw5 := ak4.opn 1
theorem ac5 {W : World} {B g : Nat} (h : TabR W B g aw4) : Calls Try.prog 20 #[.pointer (some ⟨g, 0, none⟩), .int .i64 1] W fun r w' => r = .returned (.int .i64 0) ∧ Left W B g aw5 w' := by
  have h1 := open_ok (by omega) h ak4 1
  rw [show (if refB aw4 1 0 then (2 : Int) else 0) = 0 by kernel_rfl] at h1
  exact h1
def aw6 : Tab := spnF aw5 (1 : Int)
theorem ak6 : Tok 2 aw6 := ak5.spn 1
theorem ac6 {W : World} {B g : Nat} (h : TabR W B g aw5) : Calls Try.prog 21 #[.pointer (some ⟨g, 0, none⟩), .int .i64 1] W fun r w' => r = .returned (.tuple #[.int .i64 3, .int .i64 0]) ∧ Left W B g aw6 w' := by
  have h1 := spawn_ok (by omega) h ak5 1
  rw [show spnN aw5 1 = 3 by kernel_rfl, show spnE aw5 1 = 0 by kernel_rfl] at h1
  exact h1
def aw7 : Tab := clsF aw6 (0 : Int)
theorem ak7 : Tok 2 aw7 := ak6.cls 0
theorem ac7 {W : World} {B g : Nat} (h : TabR W B g aw6) : Calls Try.prog 17 #[.pointer (some ⟨g, 0, none⟩), .int .i64 0] W fun r w' => r = .returned (.tuple #[.bool false, .int .i64 2]) ∧ Left W B g aw7 w' := by
  have h1 := close_ok h ak6 0
  rw [show clsP aw6 0 = false by kernel_rfl, show clsE aw6 0 = 2 by kernel_rfl] at h1
  exact h1
def aw8 : Tab := endF aw7 (1 : Int) false
theorem ak8 : Tok 2 aw8 := ak7.end_ 1 false
theorem ac8 {W : World} {B g : Nat} (h : TabR W B g aw7) : Calls Try.prog 19 #[.pointer (some ⟨g, 0, none⟩), .int .i64 1, .bool false] W fun r w' => r = .returned (.int .i64 2) ∧ Left W B g aw8 w' := by
  have h1 := end_ok h 1 false
  rw [show (if endBad aw7 1 then (2 : Int) else 0) = 2 by kernel_rfl] at h1
  exact h1
def aw9 : Tab := endF aw8 (3 : Int) true
theorem ak9 : Tok 2 aw9 := ak8.end_ 3 true
theorem ac9 {W : World} {B g : Nat} (h : TabR W B g aw8) : Calls Try.prog 19 #[.pointer (some ⟨g, 0, none⟩), .int .i64 3, .bool true] W fun r w' => r = .returned (.int .i64 0) ∧ Left W B g aw9 w' := by
  have h1 := end_ok h 3 true
  rw [show (if endBad aw8 3 then (2 : Int) else 0) = 0 by kernel_rfl] at h1
  exact h1
def aw10 : Tab := clsF aw9 (1 : Int)
theorem ak10 : Tok 2 aw10 := ak9.cls 1
theorem ac10 {W : World} {B g : Nat} (h : TabR W B g aw9) : Calls Try.prog 17 #[.pointer (some ⟨g, 0, none⟩), .int .i64 1] W fun r w' => r = .returned (.tuple #[.bool true, .int .i64 0]) ∧ Left W B g aw10 w' := by
  have h1 := close_ok h ak9 1
  rw [show clsP aw9 1 = true by kernel_rfl, show clsE aw9 1 = 0 by kernel_rfl] at h1
  exact h1
def aw11 : Tab := endF aw10 (1 : Int) false
theorem ak11 : Tok 2 aw11 := ak10.end_ 1 false
theorem ac11 {W : World} {B g : Nat} (h : TabR W B g aw10) : Calls Try.prog 19 #[.pointer (some ⟨g, 0, none⟩), .int .i64 1, .bool false] W fun r w' => r = .returned (.int .i64 0) ∧ Left W B g aw11 w' := by
  have h1 := end_ok h 1 false
  rw [show (if endBad aw10 1 then (2 : Int) else 0) = 0 by kernel_rfl] at h1
  exact h1
def aw12 : Tab := endF aw11 (2 : Int) false
theorem ak12 : Tok 2 aw12 := ak11.end_ 2 false
theorem ac12 {W : World} {B g : Nat} (h : TabR W B g aw11) : Calls Try.prog 19 #[.pointer (some ⟨g, 0, none⟩), .int .i64 2, .bool false] W fun r w' => r = .returned (.int .i64 0) ∧ Left W B g aw12 w' := by
  have h1 := end_ok h 2 false
  rw [show (if endBad aw11 2 then (2 : Int) else 0) = 0 by kernel_rfl] at h1
  exact h1
def aw13 : Tab := clsF aw12 (0 : Int)
theorem ak13 : Tok 2 aw13 := ak12.cls 0
theorem ac13 {W : World} {B g : Nat} (h : TabR W B g aw12) : Calls Try.prog 17 #[.pointer (some ⟨g, 0, none⟩), .int .i64 0] W fun r w' => r = .returned (.tuple #[.bool false, .int .i64 0]) ∧ Left W B g aw13 w' := by
  have h1 := close_ok h ak12 0
  rw [show clsP aw12 0 = false by kernel_rfl, show clsE aw12 0 = 0 by kernel_rfl] at h1
  exact h1
def aw14 : Tab := endF aw13 (0 : Int) false
theorem ak14 : Tok 2 aw14 := ak13.end_ 0 false
theorem ac14 {W : World} {B g : Nat} (h : TabR W B g aw13) : Calls Try.prog 19 #[.pointer (some ⟨g, 0, none⟩), .int .i64 0, .bool false] W fun r w' => r = .returned (.int .i64 0) ∧ Left W B g aw14 w' := by
  have h1 := end_ok h 0 false
  rw [show (if endBad aw13 0 then (2 : Int) else 0) = 0 by kernel_rfl] at h1
  exact h1
set_option maxRecDepth 100000 in
set_option maxHeartbeats 4000000 in
theorem awake_any (w : World) : Calls Try.prog 9 #[] w fun r w' => r = .returned (.bool true) ∧ Below w.heap.size w w' := by
  have HN := Lib.hid (new_any w)
  go_enter Try.func9, Try.ntmps9
  go_wp2_with fail
  refine HN.out.mono ?_
  rintro r w0 ⟨rfl, hT, hB⟩
  have HT0 := Lib.hid hT
  have HB0 := Lib.hid hB
  clear hT hB HN
  go_wp2_with fail
  refine (ac1 HT0.out).mono ?_
  rintro r w1 ⟨rfl, hT, hB, hK⟩
  have HT1 := Lib.hid hT
  have HB1 := Lib.hid (HB0.out.trans hB)
  clear hT hB hK HT0 HB0
  go_wp2_with fail
  refine (ac2 HT1.out).mono ?_
  rintro r w2 ⟨rfl, hT, hB, hK⟩
  have HT2 := Lib.hid hT
  have HB2 := Lib.hid (HB1.out.trans hB)
  clear hT hB hK HT1 HB1
  go_wp2_with fail
  refine (ac3 HT2.out).mono ?_
  rintro r w3 ⟨rfl, hT, hB, hK⟩
  have HT3 := Lib.hid hT
  have HB3 := Lib.hid (HB2.out.trans hB)
  clear hT hB hK HT2 HB2
  go_wp2_with fail
  refine (ac4 HT3.out).mono ?_
  rintro r w4 ⟨rfl, hT, hB, hK⟩
  have HT4 := Lib.hid hT
  have HB4 := Lib.hid (HB3.out.trans hB)
  clear hT hB hK HT3 HB3
  go_wp2_with fail
  refine (members_ok HT4.out ak4 0).mono ?_
  rintro r w5 ⟨v, rfl, ho, hB⟩
  have ho' := own_base ho HB4.out.size
  rw [show memL aw4 0 = [1, 2] by kernel_rfl] at ho'
  have HT5 := Lib.hid (HT4.out.below hB)
  have HB5 := Lib.hid (HB4.out.trans (hB.mono HB4.out.size))
  obtain ⟨An, cn, rfl⟩ := own_slice ho'
  obtain ⟨gm, rfl⟩ : ∃ gm, An = some ⟨gm, 0, none⟩ := by
    rcases ho'.2 with ⟨h1, h2⟩ | ⟨gm, cap, cur, h1, _⟩
    · cases h2
    · rw [Value.slice.injEq] at h1; exact ⟨gm, h1.1⟩
  have hlm := (ho.lt gm rfl).1
  have hcm : w5.cell? ⟨gm, 1, none⟩ = some (.int .i64 2) := ho'.cellAt 1 (by decide)
  have HM5 := Lib.hid (show (W : World) → Kpt w5 w.heap.size (w.heap.size + 1) W → W.cell? ⟨gm, 1, none⟩ = some (.int .i64 2) from fun W h => (World.cell?_of_block ((h (fun q => q = gm) (fun q hq => by rw [hq]; exact ⟨3, own_ty ho' rfl, by decide, by decide, by decide⟩) (Safe.fresh HT4.out hB (fun q hq => by rw [hq]; exact hlm))).1 gm rfl)).trans hcm)
  have HK5 := Lib.hid (Kpt.same HT5.out (Below.refl _ _))
  clear ho ho' hB hcm hlm
  go_wp2_with fail
  refine (ac5 HT5.out).mono ?_
  rintro r w6 ⟨rfl, hT, hB, hK⟩
  have HT6 := Lib.hid hT
  have HB6 := Lib.hid (HB5.out.trans hB)
  have HK6 := Lib.hid (HK5.out.trans hK)
  clear hT hB hK HT5 HB5
  go_wp2_with fail
  refine (ac6 HT6.out).mono ?_
  rintro r w7 ⟨rfl, hT, hB, hK⟩
  have HT7 := Lib.hid hT
  have HB7 := Lib.hid (HB6.out.trans hB)
  have HK7 := Lib.hid (HK6.out.trans hK)
  clear hT hB hK HT6 HB6
  go_wp2_with fail
  refine (ac7 HT7.out).mono ?_
  rintro r w8 ⟨rfl, hT, hB, hK⟩
  have HT8 := Lib.hid hT
  have HB8 := Lib.hid (HB7.out.trans hB)
  have HK8 := Lib.hid (HK7.out.trans hK)
  clear hT hB hK HT7 HB7
  go_wp2_with fail
  refine (ac8 HT8.out).mono ?_
  rintro r w9 ⟨rfl, hT, hB, hK⟩
  have HT9 := Lib.hid hT
  have HB9 := Lib.hid (HB8.out.trans hB)
  have HK9 := Lib.hid (HK8.out.trans hK)
  clear hT hB hK HT8 HB8
  go_wp2_with fail
  refine (ac9 HT9.out).mono ?_
  rintro r w10 ⟨rfl, hT, hB, hK⟩
  have HT10 := Lib.hid hT
  have HB10 := Lib.hid (HB9.out.trans hB)
  have HK10 := Lib.hid (HK9.out.trans hK)
  clear hT hB hK HT9 HB9
  go_wp2_with fail
  refine (ac10 HT10.out).mono ?_
  rintro r w11 ⟨rfl, hT, hB, hK⟩
  have HT11 := Lib.hid hT
  have HB11 := Lib.hid (HB10.out.trans hB)
  have HK11 := Lib.hid (HK10.out.trans hK)
  clear hT hB hK HT10 HB10
  go_wp2_with fail
  refine (ac11 HT11.out).mono ?_
  rintro r w12 ⟨rfl, hT, hB, hK⟩
  have HT12 := Lib.hid hT
  have HB12 := Lib.hid (HB11.out.trans hB)
  have HK12 := Lib.hid (HK11.out.trans hK)
  clear hT hB hK HT11 HB11
  go_wp2_with fail
  refine (ac12 HT12.out).mono ?_
  rintro r w13 ⟨rfl, hT, hB, hK⟩
  have HT13 := Lib.hid hT
  have HB13 := Lib.hid (HB12.out.trans hB)
  have HK13 := Lib.hid (HK12.out.trans hK)
  clear hT hB hK HT12 HB12
  go_wp2_with fail
  refine (ac13 HT13.out).mono ?_
  rintro r w14 ⟨rfl, hT, hB, hK⟩
  have HT14 := Lib.hid hT
  have HB14 := Lib.hid (HB13.out.trans hB)
  have HK14 := Lib.hid (HK13.out.trans hK)
  clear hT hB hK HT13 HB13
  have hcm := HM5.out _ HK14.out
  go_wp2_with fail
  refine (ac14 HT14.out).mono ?_
  rintro r w15 ⟨rfl, hT, hB, hK⟩
  have HT15 := Lib.hid hT
  have HB15 := Lib.hid (HB14.out.trans hB)
  clear hT hB hK HT14 HB14
  go_wp2
  go_ret
  exact ⟨rfl, HB15.out⟩
end Go.Proofs.Ytnhhinlhfaapcaa

