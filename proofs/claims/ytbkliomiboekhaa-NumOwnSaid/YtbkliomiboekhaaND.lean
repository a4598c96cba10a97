/- Numbers: contracts of into, rest, both, unless, and the six ways. -/
import Derived.Test.YtbkliomiboekhaaNC
namespace Go.Proofs.Ytbkliomiboekhaa
open Go.RowKit
set_option linter.unusedVariables false

theorem into_val (l m : Bool) (s t : Int) (hs : 0 ≤ s) (ht : 0 < t) : (sv l s).tdiv (sv m t) = sv (l != m) (s / t) := by
  have e : s.tdiv t = s / t := Int.tdiv_eq_ediv_of_nonneg hs
  cases l <;> cases m <;> simp [sv, Int.neg_tdiv, Int.tdiv_neg, e]
theorem rest_val (l m : Bool) (s t : Int) (hs : 0 ≤ s) (ht : 0 < t) : (sv l s).tmod (sv m t) = sv l (s % t) := by
  have e : s.tmod t = s % t := Int.tmod_eq_emod_of_nonneg hs
  cases l <;> cases m <;> simp [sv, Int.neg_tmod, Int.tmod_neg, e]

set_option maxHeartbeats 1000000 in
/-- into -/
theorem into_any (l m : Bool) (s t : Int) (w : World) (hs : Sz s) (ht : Sz t) (ht0 : 0 < t) :
    Calls Try.prog 36 #[.agg #[.bool l, .int .u64 s], .agg #[.bool m, .int .u64 t]] w (Outc ((sv l s).tdiv (sv m t)) w) := by
  rw [into_val l m s t hs.1 ht0]
  have hle : s / t ≤ s := Int.ediv_le_self t hs.1
  have hge : 0 ≤ s / t := Int.ediv_nonneg hs.1 (Int.le_of_lt ht0)
  have SZ := Lib.hid (show Sz (s / t) from ⟨hge, Int.le_trans hle hs.2⟩)
  have htd : s.tdiv t = s / t := Int.tdiv_eq_ediv_of_nonneg hs.1
  have hw : IntKind.u64.wrap (s / t) = s / t := by rw [IntKind.wrap_u64]; have := SZ.out.2; omega
  have hne : (t == 0) = false := by rw [beq_eq_false_iff_ne]; omega
  have hne' : (t = 0) = False := eq_false (by omega)
  by_cases h0 : s / t = 0
  · have V := Lib.hid (show sv false 0 = sv (l != m) (s / t) by rw [h0, sv_zero, sv_zero])
    rw [h0] at htd hw
    have Z := Lib.hid (show Sz 0 from ⟨by omega, by omega⟩)
    have H0 := Lib.hid h0
    clear hs ht hle hge
    go_enter Try.func36, Try.ntmps36
    cases l <;> cases m
    all_goals
      go_wp2
      refine bodyPost_ret (v := .tuple #[.agg #[.bool false, .int .u64 0], .bool true]) (by simp [results, Try.results36, go_sem]) rfl ?_
      exact Outc.yes _ _ rfl Z.out V.out (by go_simp; exact bel3 _ _ _ _)
  · have d1 : decide (0 < s / t) = true := decide_eq_true (by omega)
    clear hs ht hle hge h0
    go_enter Try.func36, Try.ntmps36
    cases l <;> cases m
    all_goals
      go_wp2
      refine bodyPost_ret (v := .tuple #[.agg #[.bool _, .int .u64 (s / t)], .bool true]) (by simp [results, Try.results36, go_sem]; rfl) rfl ?_
      exact Outc.yes _ _ rfl SZ.out rfl (by go_simp; exact bel3 _ _ _ _)

set_option maxHeartbeats 1000000 in
/-- rest -/
theorem rest_any (l m : Bool) (s t : Int) (w : World) (hs : Sz s) (ht : Sz t) (ht0 : 0 < t) :
    Calls Try.prog 37 #[.agg #[.bool l, .int .u64 s], .agg #[.bool m, .int .u64 t]] w (Outc ((sv l s).tmod (sv m t)) w) := by
  rw [rest_val l m s t hs.1 ht0]
  have hlt : s % t < t := Int.emod_lt_of_pos s ht0
  have hge : 0 ≤ s % t := Int.emod_nonneg s (by omega)
  have SZ := Lib.hid (show Sz (s % t) from ⟨hge, Int.le_trans (Int.le_of_lt hlt) ht.2⟩)
  have htd : s.tmod t = s % t := Int.tmod_eq_emod_of_nonneg hs.1
  have hw : IntKind.u64.wrap (s % t) = s % t := by rw [IntKind.wrap_u64]; have := SZ.out.2; omega
  have hne : (t == 0) = false := by rw [beq_eq_false_iff_ne]; omega
  have hne' : (t = 0) = False := eq_false (by omega)
  by_cases h0 : s % t = 0
  · have V := Lib.hid (show sv false 0 = sv l (s % t) by rw [h0, sv_zero, sv_zero])
    rw [h0] at htd hw
    have Z := Lib.hid (show Sz 0 from ⟨by omega, by omega⟩)
    have H0 := Lib.hid h0
    clear hs ht hlt hge
    go_enter Try.func37, Try.ntmps37
    cases l <;> cases m
    all_goals
      go_wp2
      refine bodyPost_ret (v := .tuple #[.agg #[.bool false, .int .u64 0], .bool true]) (by simp [results, Try.results37, go_sem]) rfl ?_
      exact Outc.yes _ _ rfl Z.out V.out (by go_simp; exact bel3 _ _ _ _)
  · have d1 : decide (0 < s % t) = true := decide_eq_true (by omega)
    clear hs ht hlt hge h0
    go_enter Try.func37, Try.ntmps37
    cases l <;> cases m
    all_goals
      go_wp2
      refine bodyPost_ret (v := .tuple #[.agg #[.bool _, .int .u64 (s % t)], .bool true]) (by simp [results, Try.results37, go_sem]; rfl) rfl ?_
      exact Outc.yes _ _ rfl SZ.out rfl (by go_simp; exact bel3 _ _ _ _)

/-! ### both -/
theorem magn_sz {a : Int} (h1 : -9223372036854775808 ≤ a) (h2 : a ≤ 9223372036854775807) : Sz (magn a) := by
  unfold magn; split <;> exact ⟨by omega, by omega⟩
theorem number_any {l f : Bool} {s V : Int} (w : World) (hs : Sz s) (hv : f = true → sv l s = V) (hn : f = false → Far V) :
    Calls Try.prog 39 #[.agg #[.bool l, .int .u64 s], .bool f] w fun r w' => r = .returned (.tuple #[.int .i64 (numR V), .int .i64 (errR V)]) ∧ Below w.heap.size w w' := by
  cases f
  · rw [numR_out (far_out (hn rfl)), errR_out (far_out (hn rfl))]
    exact number_no l s w
  · rw [← hv rfl]
    exact number_yes l s w hs
def Told (n e : Int) (w : World) (r : Ending) (w' : World) : Prop := r = .returned (.tuple #[.int .i64 n, .int .i64 e]) ∧ Below w.heap.size w w'

set_option maxHeartbeats 400000 in
theorem both_plus (a b : Int) (w : World) (a1 : -9223372036854775808 ≤ a) (a2 : a ≤ 9223372036854775807) (b1 : -9223372036854775808 ≤ b) (b2 : b ≤ 9223372036854775807) :
    Calls Try.prog 30 #[.int .i64 a, .int .i64 b, .func (.func 31) #[] #[]] w (Told (numR (a + b)) (errR (a + b)) w) := by
  have A := Lib.hid (And.intro a1 a2)
  have B := Lib.hid (And.intro b1 b2)
  have VA := Lib.hid (magn_sv a)
  have VB := Lib.hid (magn_sv b)
  clear a1 a2 b1 b2
  go_enter Try.func30, Try.ntmps30
  go_wp2_with fail
  refine (of_any a _ A.out.1 A.out.2).mono ?_
  rintro r w1 ⟨rfl, hb1⟩
  go_wp2_with fail
  refine (of_any b _ B.out.1 B.out.2).mono ?_
  rintro r w2 ⟨rfl, hb2⟩
  go_wp2_with fail
  refine (plus_any _ _ _ _ _ (magn_sz A.out.1 A.out.2) (magn_sz B.out.1 B.out.2)).mono ?_
  rintro r w3 ⟨l, s, f, rfl, hs, hv, hn, hb3⟩
  rw [VA.out, VB.out] at hv hn
  have HS := Lib.hid hs
  have HV := Lib.hid hv
  have HN := Lib.hid hn
  have HB := Lib.hid (((hb1.trans (hb2.mono hb1.size)).trans (hb3.mono (Nat.le_trans hb1.size hb2.size))))
  clear hs hv hn hb1 hb2 hb3
  go_wp2_with fail
  refine (number_any _ HS.out HV.out HN.out).mono ?_
  rintro r w4 ⟨rfl, hb4⟩
  have HB4 := Lib.hid hb4
  clear hb4
  go_wp2
  go_ret2
  exact ⟨rfl, (HB.out.alloc HB.out.size _).trans (HB4.out.mono (by simp; have := HB.out.size; omega))⟩

set_option maxHeartbeats 400000 in
theorem both_less (a b : Int) (w : World) (a1 : -9223372036854775808 ≤ a) (a2 : a ≤ 9223372036854775807) (b1 : -9223372036854775808 ≤ b) (b2 : b ≤ 9223372036854775807) :
    Calls Try.prog 30 #[.int .i64 a, .int .i64 b, .func (.func 32) #[] #[]] w (Told (numR (a - b)) (errR (a - b)) w) := by
  have A := Lib.hid (And.intro a1 a2)
  have B := Lib.hid (And.intro b1 b2)
  have VA := Lib.hid (magn_sv a)
  have VB := Lib.hid (magn_sv b)
  clear a1 a2 b1 b2
  go_enter Try.func30, Try.ntmps30
  go_wp2_with fail
  refine (of_any a _ A.out.1 A.out.2).mono ?_
  rintro r w1 ⟨rfl, hb1⟩
  go_wp2_with fail
  refine (of_any b _ B.out.1 B.out.2).mono ?_
  rintro r w2 ⟨rfl, hb2⟩
  go_wp2_with fail
  refine (less_any _ _ _ _ _ (magn_sz A.out.1 A.out.2) (magn_sz B.out.1 B.out.2)).mono ?_
  rintro r w3 ⟨l, s, f, rfl, hs, hv, hn, hb3⟩
  rw [VA.out, VB.out] at hv hn
  have HS := Lib.hid hs
  have HV := Lib.hid hv
  have HN := Lib.hid hn
  have HB := Lib.hid (((hb1.trans (hb2.mono hb1.size)).trans (hb3.mono (Nat.le_trans hb1.size hb2.size))))
  clear hs hv hn hb1 hb2 hb3
  go_wp2_with fail
  refine (number_any _ HS.out HV.out HN.out).mono ?_
  rintro r w4 ⟨rfl, hb4⟩
  have HB4 := Lib.hid hb4
  clear hb4
  go_wp2
  go_ret2
  exact ⟨rfl, (HB.out.alloc HB.out.size _).trans (HB4.out.mono (by simp; have := HB.out.size; omega))⟩

set_option maxHeartbeats 400000 in
theorem both_times (a b : Int) (w : World) (a1 : -9223372036854775808 ≤ a) (a2 : a ≤ 9223372036854775807) (b1 : -9223372036854775808 ≤ b) (b2 : b ≤ 9223372036854775807) :
    Calls Try.prog 30 #[.int .i64 a, .int .i64 b, .func (.func 33) #[] #[]] w (Told (numR (a * b)) (errR (a * b)) w) := by
  have A := Lib.hid (And.intro a1 a2)
  have B := Lib.hid (And.intro b1 b2)
  have VA := Lib.hid (magn_sv a)
  have VB := Lib.hid (magn_sv b)
  clear a1 a2 b1 b2
  go_enter Try.func30, Try.ntmps30
  go_wp2_with fail
  refine (of_any a _ A.out.1 A.out.2).mono ?_
  rintro r w1 ⟨rfl, hb1⟩
  go_wp2_with fail
  refine (of_any b _ B.out.1 B.out.2).mono ?_
  rintro r w2 ⟨rfl, hb2⟩
  go_wp2_with fail
  refine (times_any _ _ _ _ _ (magn_sz A.out.1 A.out.2) (magn_sz B.out.1 B.out.2)).mono ?_
  rintro r w3 ⟨l, s, f, rfl, hs, hv, hn, hb3⟩
  rw [VA.out, VB.out] at hv hn
  have HS := Lib.hid hs
  have HV := Lib.hid hv
  have HN := Lib.hid hn
  have HB := Lib.hid (((hb1.trans (hb2.mono hb1.size)).trans (hb3.mono (Nat.le_trans hb1.size hb2.size))))
  clear hs hv hn hb1 hb2 hb3
  go_wp2_with fail
  refine (number_any _ HS.out HV.out HN.out).mono ?_
  rintro r w4 ⟨rfl, hb4⟩
  have HB4 := Lib.hid hb4
  clear hb4
  go_wp2
  go_ret2
  exact ⟨rfl, (HB.out.alloc HB.out.size _).trans (HB4.out.mono (by simp; have := HB.out.size; omega))⟩

set_option maxHeartbeats 400000 in
theorem both_into (a b : Int) (w : World) (a1 : -9223372036854775808 ≤ a) (a2 : a ≤ 9223372036854775807) (b1 : -9223372036854775808 ≤ b) (b2 : b ≤ 9223372036854775807) (b0 : b ≠ 0) :
    Calls Try.prog 30 #[.int .i64 a, .int .i64 b, .func (.func 36) #[] #[]] w (Told (numR (a.tdiv b)) (errR (a.tdiv b)) w) := by
  have A := Lib.hid (And.intro a1 a2)
  have B := Lib.hid (And.intro b1 b2)
  have M := Lib.hid (show 0 < magn b by unfold magn; split <;> omega)
  have VA := Lib.hid (magn_sv a)
  have VB := Lib.hid (magn_sv b)
  clear a1 a2 b1 b2 b0
  go_enter Try.func30, Try.ntmps30
  go_wp2_with fail
  refine (of_any a _ A.out.1 A.out.2).mono ?_
  rintro r w1 ⟨rfl, hb1⟩
  go_wp2_with fail
  refine (of_any b _ B.out.1 B.out.2).mono ?_
  rintro r w2 ⟨rfl, hb2⟩
  go_wp2_with fail
  refine (into_any _ _ _ _ _ (magn_sz A.out.1 A.out.2) (magn_sz B.out.1 B.out.2) M.out).mono ?_
  rintro r w3 ⟨l, s, f, rfl, hs, hv, hn, hb3⟩
  rw [VA.out, VB.out] at hv hn
  have HS := Lib.hid hs
  have HV := Lib.hid hv
  have HN := Lib.hid hn
  have HB := Lib.hid (((hb1.trans (hb2.mono hb1.size)).trans (hb3.mono (Nat.le_trans hb1.size hb2.size))))
  clear hs hv hn hb1 hb2 hb3
  go_wp2_with fail
  refine (number_any _ HS.out HV.out HN.out).mono ?_
  rintro r w4 ⟨rfl, hb4⟩
  have HB4 := Lib.hid hb4
  clear hb4
  go_wp2
  go_ret2
  exact ⟨rfl, (HB.out.alloc HB.out.size _).trans (HB4.out.mono (by simp; have := HB.out.size; omega))⟩

set_option maxHeartbeats 400000 in
theorem both_rest (a b : Int) (w : World) (a1 : -9223372036854775808 ≤ a) (a2 : a ≤ 9223372036854775807) (b1 : -9223372036854775808 ≤ b) (b2 : b ≤ 9223372036854775807) (b0 : b ≠ 0) :
    Calls Try.prog 30 #[.int .i64 a, .int .i64 b, .func (.func 37) #[] #[]] w (Told (numR (a.tmod b)) (errR (a.tmod b)) w) := by
  have A := Lib.hid (And.intro a1 a2)
  have B := Lib.hid (And.intro b1 b2)
  have M := Lib.hid (show 0 < magn b by unfold magn; split <;> omega)
  have VA := Lib.hid (magn_sv a)
  have VB := Lib.hid (magn_sv b)
  clear a1 a2 b1 b2 b0
  go_enter Try.func30, Try.ntmps30
  go_wp2_with fail
  refine (of_any a _ A.out.1 A.out.2).mono ?_
  rintro r w1 ⟨rfl, hb1⟩
  go_wp2_with fail
  refine (of_any b _ B.out.1 B.out.2).mono ?_
  rintro r w2 ⟨rfl, hb2⟩
  go_wp2_with fail
  refine (rest_any _ _ _ _ _ (magn_sz A.out.1 A.out.2) (magn_sz B.out.1 B.out.2) M.out).mono ?_
  rintro r w3 ⟨l, s, f, rfl, hs, hv, hn, hb3⟩
  rw [VA.out, VB.out] at hv hn
  have HS := Lib.hid hs
  have HV := Lib.hid hv
  have HN := Lib.hid hn
  have HB := Lib.hid (((hb1.trans (hb2.mono hb1.size)).trans (hb3.mono (Nat.le_trans hb1.size hb2.size))))
  clear hs hv hn hb1 hb2 hb3
  go_wp2_with fail
  refine (number_any _ HS.out HV.out HN.out).mono ?_
  rintro r w4 ⟨rfl, hb4⟩
  have HB4 := Lib.hid hb4
  clear hb4
  go_wp2
  go_ret2
  exact ⟨rfl, (HB.out.alloc HB.out.size _).trans (HB4.out.mono (by simp; have := HB.out.size; omega))⟩

def Six (F : FuncId) (n e : Int → Int → Int) : Prop := ∀ (a b : Int) (w : World) (a1 : -9223372036854775808 ≤ a) (a2 : a ≤ 9223372036854775807) (b1 : -9223372036854775808 ≤ b) (b2 : b ≤ 9223372036854775807), Calls Try.prog F #[.int .i64 a, .int .i64 b] w (Told (n a b) (e a b) w)
theorem Add_any : Six 11 (fun a b => numR (a + b)) (fun a b => errR (a + b)) := by
  intro a b w a1 a2 b1 b2
  have A := Lib.hid (And.intro a1 a2)
  have B := Lib.hid (And.intro b1 b2)
  clear a1 a2 b1 b2
  go_enter Try.func11, Try.ntmps11
  go_wp2_with fail
  refine (both_plus a b _ A.out.1 A.out.2 B.out.1 B.out.2).mono ?_
  rintro r w1 ⟨rfl, hb1⟩
  have HB := Lib.hid hb1
  clear hb1
  go_wp2
  go_ret2
  exact ⟨rfl, HB.out⟩
theorem Sub_any : Six 13 (fun a b => numR (a - b)) (fun a b => errR (a - b)) := by
  intro a b w a1 a2 b1 b2
  have A := Lib.hid (And.intro a1 a2)
  have B := Lib.hid (And.intro b1 b2)
  clear a1 a2 b1 b2
  go_enter Try.func13, Try.ntmps13
  go_wp2_with fail
  refine (both_less a b _ A.out.1 A.out.2 B.out.1 B.out.2).mono ?_
  rintro r w1 ⟨rfl, hb1⟩
  have HB := Lib.hid hb1
  clear hb1
  go_wp2
  go_ret2
  exact ⟨rfl, HB.out⟩
theorem Mul_any : Six 15 (fun a b => numR (a * b)) (fun a b => errR (a * b)) := by
  intro a b w a1 a2 b1 b2
  have A := Lib.hid (And.intro a1 a2)
  have B := Lib.hid (And.intro b1 b2)
  clear a1 a2 b1 b2
  go_enter Try.func15, Try.ntmps15
  go_wp2_with fail
  refine (both_times a b _ A.out.1 A.out.2 B.out.1 B.out.2).mono ?_
  rintro r w1 ⟨rfl, hb1⟩
  have HB := Lib.hid hb1
  clear hb1
  go_wp2
  go_ret2
  exact ⟨rfl, HB.out⟩
theorem Neg_any (a : Int) (w : World) (a1 : -9223372036854775808 ≤ a) (a2 : a ≤ 9223372036854775807) : Calls Try.prog 21 #[.int .i64 a] w (Told (numR (-a)) (errR (-a)) w) := by
  have A := Lib.hid (And.intro a1 a2)
  clear a1 a2
  have H := both_less 0 a w (by omega) (by omega) A.out.1 A.out.2
  rw [Int.zero_sub] at H
  have H2 := Lib.hid H
  clear H
  go_enter Try.func21, Try.ntmps21
  go_wp2_with fail
  refine H2.out.mono ?_
  rintro r w1 ⟨rfl, hb1⟩
  have HB := Lib.hid hb1
  clear hb1
  go_wp2
  go_ret2
  exact ⟨rfl, HB.out⟩
theorem divN_ne {a b : Int} (h : b ≠ 0) : divN a b = numR (a.tdiv b) := if_neg h
theorem divE_ne {a b : Int} (h : b ≠ 0) : divE a b = errR (a.tdiv b) := if_neg h
theorem modN_ne {a b : Int} (h : b ≠ 0) : modN a b = a.tmod b := if_neg h
theorem modE_ne {b : Int} (h : b ≠ 0) : modE b = 0 := if_neg h
theorem rest_in {a b : Int} (a1 : -9223372036854775808 ≤ a) (a2 : a ≤ 9223372036854775807) (h : b ≠ 0) : inR (a.tmod b) = true := by
  rw [inR_iff]
  have h3 : (a.tmod b).natAbs = a.natAbs % b.natAbs := Int.natAbs_tmod a b
  have h4 : a.natAbs % b.natAbs ≤ a.natAbs := Nat.mod_le _ _
  obtain ⟨h1, h2, _⟩ := share_rest (a := a) h
  by_cases h0 : 0 ≤ a
  · have := h1 h0; omega
  · have := h2 (by omega); omega
theorem unless_into (a b : Int) (w : World) (a1 : -9223372036854775808 ≤ a) (a2 : a ≤ 9223372036854775807) (b1 : -9223372036854775808 ≤ b) (b2 : b ≤ 9223372036854775807) : Calls Try.prog 35 #[.int .i64 a, .int .i64 b, .func (.func 36) #[] #[]] w (Told (divN a b) (divE a b) w) := by
  by_cases b0 : b = 0
  · subst b0
    go_enter Try.func35, Try.ntmps35
    go_wp2
    go_ret2
    exact ⟨rfl, Below.refl _ _⟩
  · have A := Lib.hid (And.intro a1 a2)
    have B := Lib.hid (And.intro b1 b2)
    have H := Lib.hid (show Calls Try.prog 30 #[.int .i64 a, .int .i64 b, .func (.func 36) #[] #[]] w (Told (divN a b) (divE a b) w) from by rw [divN_ne b0, divE_ne b0]; exact (both_into a b _ A.out.1 A.out.2 B.out.1 B.out.2 b0))
    have hne : (b == 0) = false := by rw [beq_eq_false_iff_ne]; exact b0
    clear a1 a2 b1 b2 b0
    go_enter Try.func35, Try.ntmps35
    go_wp2_with fail
    refine H.out.mono ?_
    rintro r w1 ⟨rfl, hb1⟩
    have HB := Lib.hid hb1
    clear hb1
    go_wp2
    go_ret2
    exact ⟨rfl, HB.out⟩
theorem Div_any : Six 17 (fun a b => divN a b) (fun a b => divE a b) := by
  intro a b w a1 a2 b1 b2
  have A := Lib.hid (And.intro a1 a2)
  have B := Lib.hid (And.intro b1 b2)
  clear a1 a2 b1 b2
  go_enter Try.func17, Try.ntmps17
  go_wp2_with fail
  refine (unless_into a b _ A.out.1 A.out.2 B.out.1 B.out.2).mono ?_
  rintro r w1 ⟨rfl, hb1⟩
  have HB := Lib.hid hb1
  clear hb1
  go_wp2
  go_ret2
  exact ⟨rfl, HB.out⟩
theorem unless_rest (a b : Int) (w : World) (a1 : -9223372036854775808 ≤ a) (a2 : a ≤ 9223372036854775807) (b1 : -9223372036854775808 ≤ b) (b2 : b ≤ 9223372036854775807) : Calls Try.prog 35 #[.int .i64 a, .int .i64 b, .func (.func 37) #[] #[]] w (Told (modN a b) (modE b) w) := by
  by_cases b0 : b = 0
  · subst b0
    go_enter Try.func35, Try.ntmps35
    go_wp2
    go_ret2
    exact ⟨rfl, Below.refl _ _⟩
  · have A := Lib.hid (And.intro a1 a2)
    have B := Lib.hid (And.intro b1 b2)
    have H := Lib.hid (show Calls Try.prog 30 #[.int .i64 a, .int .i64 b, .func (.func 37) #[] #[]] w (Told (modN a b) (modE b) w) from by rw [modN_ne b0, modE_ne b0]; have h := both_rest a b w A.out.1 A.out.2 B.out.1 B.out.2 b0; rwa [numR_in (rest_in a1 a2 b0), errR_in (rest_in a1 a2 b0)] at h)
    have hne : (b == 0) = false := by rw [beq_eq_false_iff_ne]; exact b0
    clear a1 a2 b1 b2 b0
    go_enter Try.func35, Try.ntmps35
    go_wp2_with fail
    refine H.out.mono ?_
    rintro r w1 ⟨rfl, hb1⟩
    have HB := Lib.hid hb1
    clear hb1
    go_wp2
    go_ret2
    exact ⟨rfl, HB.out⟩
theorem Mod_any : Six 19 (fun a b => modN a b) (fun a b => modE b) := by
  intro a b w a1 a2 b1 b2
  have A := Lib.hid (And.intro a1 a2)
  have B := Lib.hid (And.intro b1 b2)
  clear a1 a2 b1 b2
  go_enter Try.func19, Try.ntmps19
  go_wp2_with fail
  refine (unless_rest a b _ A.out.1 A.out.2 B.out.1 B.out.2).mono ?_
  rintro r w1 ⟨rfl, hb1⟩
  have HB := Lib.hid hb1
  clear hb1
  go_wp2
  go_ret2
  exact ⟨rfl, HB.out⟩
end Go.Proofs.Ytbkliomiboekhaa
