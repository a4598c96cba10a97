/- NumNumerals: the walk. -/
import Derived.Test.YtbkliomiboekhaaRp
import Derived.Test.YtbkliomiboekhaaRq
namespace Go.Proofs.Ytbkliomiboekhaa
open Go.RowKit
set_option linter.unusedVariables false

theorem same_ok (a e : Int) (w : World) : Calls Try.prog 23 #[.int .i64 a, .int .i64 e, .int .i64 a, .int .i64 e] w fun r w' => r = .returned (.bool true) ∧ w = w' := by
  go_enter Try.func23, Try.ntmps23
  go_wp2
  go_ret
  exact ⟨rfl, rfl⟩

set_option maxHeartbeats 4000000 in
set_option maxRecDepth 100000 in
theorem numerals_walk (s : ByteArray) (a : Int) (w : World) (is : s.size ≤ maxLen) (i1 : (Lit.int .i64 a).wf = true) :
    Calls Try.prog 4 #[.string s, .int .i64 a] w fun e w' => e = .returned (.bool true) ∧ Below w.heap.size w w' := by
  have A := Lib.hid (show -9223372036854775808 ≤ a ∧ a ≤ 9223372036854775807 from bounds_i64 i1)
  clear i1
  have HB := Lib.hid (Below.refl w.heap.size w)
  by_cases hlong : 2000 < s.size
  · have d1 : decide (2000 < (s.size : Int)) = true := decide_eq_true (by omega)
    have d2 : (2000 : Int) < (s.size : Int) := by omega
    clear is
    go_enter Try.func4, Try.ntmps4
    go_wp2
    go_ret
    exact ⟨rfl, HB.out⟩
  have hl : s.size ≤ 2000 := by omega
  have d1 : ¬ (2000 : Int) < (s.size : Int) := by omega
  have HP := Lib.hid (fun W => parse_any s W is)
  have HQ := Lib.hid (fun W => refParse_any s W hl)
  have HS := Lib.hid (fun W => same_ok (parN s.data.toList) (parE s.data.toList) W)
  obtain ⟨pn, hpn⟩ : ∃ n, n = parN s.data.toList := ⟨_, rfl⟩
  obtain ⟨pe, hpe⟩ : ∃ n, n = parE s.data.toList := ⟨_, rfl⟩
  rw [← hpn, ← hpe] at HP HQ HS
  have HPP := Lib.hid (fun W => print_any a W A.out.1 A.out.2)
  have HPQ := Lib.hid (fun W => refPrint_any a W A.out.1 A.out.2)
  obtain ⟨t, ht⟩ : ∃ t : ByteArray, t = txt (priL a) := ⟨_, rfl⟩
  rw [← ht] at HPQ
  rw [show (⟨(priL a).toArray⟩ : ByteArray) = t from ht.symm] at HPP
  have ett : (t.toList == t.toList) = true := by simp
  clear ht hpn hpe is hl hlong
  go_enter Try.func4, Try.ntmps4
  go_wp2_with fail
  refine (HP.out _).mono ?_
  rintro r w1 ⟨rfl, hb⟩
  have HB1 := Lib.hid hb
  clear hb
  go_wp2_with fail
  refine (HQ.out _).mono ?_
  rintro r w2 ⟨rfl, hb⟩
  have HB2 := Lib.hid (HB1.out.trans (hb.mono HB1.out.size))
  clear hb
  go_wp2_with fail
  refine (HS.out _).mono ?_
  rintro r w3 ⟨rfl, rfl⟩
  go_wp2_with fail
  refine (HPP.out _).mono ?_
  rintro r w3 ⟨rfl, hb⟩
  have HB3 := Lib.hid (HB2.out.trans (hb.mono HB2.out.size))
  clear hb
  go_wp2_with fail
  refine (HPQ.out _).mono ?_
  rintro r w4 ⟨rfl, hb⟩
  have HB4 := Lib.hid (HB3.out.trans (hb.mono HB3.out.size))
  clear hb
  go_wp2
  go_ret
  exact ⟨rfl, HB4.out⟩
end Go.Proofs.Ytbkliomiboekhaa
