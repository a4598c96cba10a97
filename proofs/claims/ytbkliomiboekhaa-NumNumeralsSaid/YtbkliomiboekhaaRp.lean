/- Numbers: the contract of the document's Parse. -/
import Derived.Test.YtbkliomiboekhaaPB
import Derived.Test.YtbkliomiboekhaaNF
namespace Go.Proofs.Ytbkliomiboekhaa
open Go.RowKit
set_option linter.unusedVariables false

/-- what the loop keeps: the number so far is 0 less what the digits say -/
def RN (T : List UInt8) (k : Nat) (n : Int) : Prop := n = -(valL (T.take k) : Int) ∧ valL (T.take k) ≤ 9223372036854775808
theorem RN.bd {T : List UInt8} {k : Nat} {n : Int} (h : RN T k n) : -9223372036854775808 ≤ n ∧ n ≤ 9223372036854775807 := by obtain ⟨h1, h2⟩ := h; omega
theorem RN.start (T : List UInt8) : RN T 0 0 := ⟨by simp [valL_nil], by simp [valL_nil]⟩
theorem RN.over {T : List UInt8} {k : Nat} {n d : Int} {c : UInt8} (h : RN T k n) (hc : T[k]? = some c) (hd : dig c = true) (hn : d = (c.toNat : Int) - 48) (ho : inR (n * 10) = false ∨ inR (n * 10 - d) = false) : 9223372036854775808 < (valL T : Int) := by
  obtain ⟨h1, h2⟩ := h
  have h3 := valL_take_succ T hc
  have h4 := valL_take_le T (k + 1)
  have h5 := dig_bd hd
  rcases ho with ho | ho
  · rw [inR_no] at ho; omega
  · rw [inR_no] at ho; omega
theorem RN.step {T : List UInt8} {k : Nat} {n d : Int} {c : UInt8} (h : RN T k n) (hc : T[k]? = some c) (hd : dig c = true) (hn : d = (c.toNat : Int) - 48) (ho : inR (n * 10 - d) = true) : RN T (k + 1) (n * 10 - d) := by
  obtain ⟨h1, h2⟩ := h
  have h3 := valL_take_succ T hc
  have h5 := dig_bd hd
  rw [inR_iff] at ho
  constructor <;> omega
theorem far_par {l : List UInt8} (hk : okL l = true) (h : 9223372036854775808 < (valL (bodyL l) : Int)) : parN l = 0 ∧ parE l = 10 := by
  have : inR (sval l) = false := by
    rw [inR_no]; unfold sval; split <;> omega
  rw [parN_ok hk, parE_ok hk]
  exact ⟨numR_out this, errR_out this⟩
theorem low_par {l : List UInt8} {n : Int} (hk : okL l = true) (hm : minus l = true) (h : RN (bodyL l) (bodyL l).length n) : parN l = n ∧ parE l = 0 := by
  obtain ⟨h1, h2⟩ := h
  rw [List.take_of_length_le (Nat.le_refl _)] at h1 h2
  have e : sval l = n := by unfold sval; rw [if_pos hm, h1]
  rw [parN_ok hk, parE_ok hk, e]
  have : inR n = true := by rw [inR_iff]; omega
  exact ⟨numR_in this, errR_in this⟩
theorem up_par {l : List UInt8} {n : Int} (hk : okL l = true) (hm : minus l = false) (h : RN (bodyL l) (bodyL l).length n) : parN l = numR (-n) ∧ parE l = errR (-n) := by
  obtain ⟨h1, h2⟩ := h
  rw [List.take_of_length_le (Nat.le_refl _)] at h1 h2
  have e : sval l = -n := by unfold sval; rw [if_neg (by rw [hm]; decide), h1]; omega
  rw [parN_ok hk, parE_ok hk, e]
  exact ⟨rfl, rfl⟩
theorem body_at {l : List UInt8} {o : Nat} (ho : o = if minus l then 1 else 0) (k : Nat) : (bodyL l)[k]? = l[k + o]? := by
  unfold bodyL
  split at ho
  · rename_i h; rw [if_pos h, ho, List.getElem?_tail]
  · rename_i h; rw [if_neg h, ho]; rfl
theorem body_len {l : List UInt8} {o : Nat} (ho : o = if minus l then 1 else 0) : (bodyL l).length = l.length - o := by
  unfold bodyL
  split at ho
  · rename_i h; rw [if_pos h, ho, List.length_tail]
  · rename_i h; rw [if_neg h, ho]; rfl
theorem ok_of {l : List UInt8} (h : okL l = true) : (bodyL l).all dig = true := by
  unfold okL at h; simp only [Bool.and_eq_true] at h; exact h.1.1
theorem ok_iff_digits {l : List UInt8} (h1 : (bodyL l).isEmpty = false) (h2 : (minus l && (bodyL l).head? == some 48) = false) : okL l = (bodyL l).all dig := by
  unfold okL; rw [h1, h2]; simp
theorem refNeg_at (n : Int) (w : World) (h : -9223372036854775808 ≤ n ∧ n ≤ 9223372036854775807) : Calls Try.prog 22 #[.int .i64 n] w (Told (numR (-n)) (errR (-n)) w) := refNeg_any n w h.1 h.2
theorem refMul_ten (n : Int) (w : World) (h : -9223372036854775808 ≤ n ∧ n ≤ 9223372036854775807) : Calls Try.prog 16 #[.int .i64 n, .int .i64 10] w (Told (numR (n * 10)) (errR (n * 10)) w) := refMul_any n 10 w h.1 h.2 (by omega) (by omega)
theorem refSub_at (n d : Int) (w : World) (h : -9223372036854775808 ≤ n ∧ n ≤ 9223372036854775807) (hd : 0 ≤ d ∧ d ≤ 9) : Calls Try.prog 14 #[.int .i64 n, .int .i64 d] w (Told (numR (n - d)) (errR (n - d)) w) := refSub_any n d w h.1 h.2 (by omega) (by omega)
theorem wrap_d {n : Nat} (h1 : 48 ≤ (n : Int)) (h2 : (n : Int) ≤ 57) : wrap64 (IntKind.u8.wrap ((n : Int) - 48)) = (n : Int) - 48 := by
  have h := wrap_dig h1 h2
  unfold wrap64 IntKind.wrap at *
  simp [IntKind.signed, IntKind.bits] at *
  omega

set_option maxHeartbeats 4000000 in
set_option maxRecDepth 100000 in
theorem refParse_any (s : ByteArray) (w : World) (hs : s.size ≤ 2000) :
    Calls Try.prog 25 #[.string s] w (Told (parN s.data.toList) (parE s.data.toList) w) := by
  have HB := Lib.hid (Below.refl w.heap.size w)
  have hsl : s.data.toList.length = s.size := by simp
  by_cases h0 : s.size = 0
  · obtain rfl : s = ByteArray.empty := ByteArray.ext (Array.eq_empty_of_size_eq_zero h0)
    have PN := Lib.hid (show parN ByteArray.empty.data.toList = 0 by decide)
    have PE := Lib.hid (show parE ByteArray.empty.data.toList = 2 by decide)
    clear hs h0 hsl
    go_enter Try.func25, Try.ntmps25
    go_wp2
    go_ret2
    exact ⟨ret2 PN.out.symm PE.out.symm, HB.out⟩
  have hpos : 0 < s.size := by omega
  cases hm : minus s.data.toList
  · have HM := Lib.hid hm
    have ho : 0 = if minus s.data.toList then 1 else 0 := by rw [hm]; rfl
    have HBA := Lib.hid (body_at ho)
    have HBL := Lib.hid (show (bodyL s.data.toList).length = s.size - 0 by rw [body_len ho, hsl])
    have HOK := Lib.hid (show okL s.data.toList = (bodyL s.data.toList).all dig from ok_iff_digits (by
      cases h : (bodyL s.data.toList).isEmpty
      · rfl
      · rw [List.isEmpty_iff] at h
        have := HBL.out
        rw [h] at this
        simp at this; omega) (by rw [hm]; rfl))
    have d : ((s[0].toNat : Int) == 45) = false := byte_ne (n := 45) (by omega) (by show (s[0] == 45) = false; rw [← minus_get hpos]; exact hm)
    have hz : ¬ (s.size : Int) = 0 := by omega
    have hz2 : ((s.size : Int) == 0) = false := beq_eq_false_iff_ne.2 (by omega)
    have hz3 : ¬ s = ByteArray.empty := by intro h; rw [h] at h0; exact h0 rfl
    have hz4 : ¬ s.size = 0 := h0
    clear hm ho hsl h0
    go_enter Try.func25, Try.ntmps25
    go_wp2
    go_wp2
    go_loop [5] (fun i => ∃ k : Nat, 0 ≤ k ∧ k ≤ s.size ∧ i = .int .i64 k ∧ ((bodyL s.data.toList).take (k - 0)).all dig = true) (fun i => s.size - (intOf i).toNat)
    case atStart => exact ⟨0, by omega, by omega, rfl, by simp⟩
    case round =>
      obtain ⟨k, hok, hk, rfl, hall⟩ := hrel
      have HALL := Lib.hid hall
      clear hall
      by_cases hlt : k < s.size
      · have HG := Lib.hid (show (bodyL s.data.toList)[k - 0]? = some s[k] by rw [HBA.out (k - 0), show k - 0 + 0 = k by omega]; exact get_list hlt)
        cases hd : dig s[k]
        · have hno : okL s.data.toList = false := by rw [HOK.out]; exact all_bad HG.out hd
          have PN := Lib.hid (parN_no hno)
          have PE := Lib.hid (parE_no hno)
          simp only [dig, decide_eq_false_iff_not] at hd
          clear hno
          by_cases h48 : s[k].toNat < 48
          · have d1 : decide ((s[k].toNat : Int) < 48) = true := decide_eq_true (by omega)
            clear hd
            go_wp2
            go_ret2
            exact ⟨ret2 PN.out.symm PE.out.symm, HB.out⟩
          · have d1 : decide ((s[k].toNat : Int) < 48) = false := decide_eq_false (by omega)
            have d2 : decide (57 < (s[k].toNat : Int)) = true := decide_eq_true (by omega)
            clear hd
            go_wp2
            go_ret2
            exact ⟨ret2 PN.out.symm PE.out.symm, HB.out⟩
        · have HD := Lib.hid hd
          simp only [dig, decide_eq_true_eq] at hd
          have d1 : decide ((s[k].toNat : Int) < 48) = false := decide_eq_false (by omega)
          have d2 : decide (57 < (s[k].toNat : Int)) = false := decide_eq_false (by omega)
          clear hd
          go_wp2
          go_round
          case rel => exact ⟨k + 1, by omega, by omega, by go_num, by rw [show k + 1 - 0 = k - 0 + 1 by omega]; exact all_take_succ HG.out HD.out HALL.out⟩
          case measure => simp [intOf]; omega
      · obtain rfl : k = s.size := by omega
        have hall : (bodyL s.data.toList).all dig = true := by
          have := HALL.out
          rwa [List.take_of_length_le (by rw [HBL.out]; exact Nat.le_refl _)] at this
        have HK := Lib.hid (show okL s.data.toList = true by rw [HOK.out]; exact hall)
        have HAD := Lib.hid hall
        clear hall
        go_wp2
        go_loopw [6, 7] (fun a b wr => ∃ (k : Nat) (n : Int), 0 ≤ k ∧ k ≤ s.size ∧ a = .int .i64 n ∧ b = .int .i64 k ∧ RN (bodyL s.data.toList) (k - 0) n ∧ Below w.heap.size w wr) (fun a b _ => s.size - (intOf b).toNat)
        case atStart => exact ⟨0, 0, by omega, by omega, rfl, rfl, by rw [Nat.sub_self]; exact RN.start _, HB.out⟩
        case round =>
          obtain ⟨k, n, hok, hk, rfl, rfl, hrn, hbel⟩ := hrel
          have HRN := Lib.hid hrn
          have HBE := Lib.hid hbel
          obtain ⟨hn1, hn2⟩ := hrn.bd
          clear hrn hbel
          by_cases hlt : k < s.size
          · have HG := Lib.hid (show (bodyL s.data.toList)[k - 0]? = some s[k] by rw [HBA.out (k - 0), show k - 0 + 0 = k by omega]; exact get_list hlt)
            have HD := Lib.hid (show dig s[k] = true from List.all_eq_true.1 HAD.out _ (List.mem_of_getElem? HG.out))
            obtain ⟨hd1, hd2⟩ := dig_bd HD.out
            have HWD := Lib.hid (wrap_d hd1 hd2)
            obtain ⟨d, hdd⟩ : ∃ d : Int, d = (s[k].toNat : Int) - 48 := ⟨_, rfl⟩
            have HDD := Lib.hid hdd
            have hd10 : 0 ≤ d ∧ d ≤ 9 := by omega
            clear hd1 hd2 hdd
            go_wp2_with fail
            refine (refMul_ten n wr (And.intro hn1 hn2)).mono ?_
            rintro r w2 ⟨rfl, hb2⟩
            have HB2 := Lib.hid (HBE.out.trans (hb2.mono HBE.out.size))
            clear hb2
            cases hin : inR (n * 10)
            · have hpar := far_par HK.out (HRN.out.over HG.out HD.out HDD.out (.inl hin))
              have PN := Lib.hid hpar.1
              have PE := Lib.hid hpar.2
              rw [numR_out hin, errR_out hin]
              clear hpar hin
              go_wp2
              go_ret2
              exact ⟨ret2 PN.out.symm PE.out.symm, HB2.out⟩
            · rw [numR_in hin, errR_in hin]
              rw [inR_iff] at hin
              obtain ⟨m, hm⟩ : ∃ m, m = n * 10 := ⟨_, rfl⟩
              have HMM := Lib.hid hm
              rw [← hm] at hin ⊢
              have hin1 := hin.1
              have hin2 := hin.2
              clear hin hm
              go_wp2_with fail
              rw [show ((s[k].toNat : Int) - 48) % 256 = d by have := HDD.out; omega]
              refine (refSub_at m d w2 (And.intro hin1 hin2) hd10).mono ?_
              rintro r w3 ⟨rfl, hb3⟩
              have HB3 := Lib.hid (HB2.out.trans (hb3.mono HB2.out.size))
              clear hb3
              cases hin : inR (m - d)
              · have hpar := far_par HK.out (HRN.out.over HG.out HD.out HDD.out (.inr (by rw [← HMM.out]; exact hin)))
                have PN := Lib.hid hpar.1
                have PE := Lib.hid hpar.2
                rw [numR_out hin, errR_out hin]
                clear hpar hin
                go_wp2
                go_ret2
                exact ⟨ret2 PN.out.symm PE.out.symm, HB3.out⟩
              · rw [numR_in hin, errR_in hin]
                have hst := HRN.out.step HG.out HD.out HDD.out (by rw [← HMM.out]; exact hin)
                rw [← HMM.out] at hst
                have HST := Lib.hid hst
                clear hst hin
                go_wp2
                go_roundw
                case rel => exact ⟨k + 1, m - d, by omega, by omega, rfl, by go_num, by rw [show k + 1 - 0 = k - 0 + 1 by omega]; exact HST.out, HB3.out⟩
                case measure => simp [intOf]; omega
          · obtain rfl : k = s.size := by omega
            have hpar := up_par HK.out HM.out (by rw [HBL.out]; exact HRN.out)
            have PN := Lib.hid hpar.1
            have PE := Lib.hid hpar.2
            clear hpar
            go_wp2_with fail
            refine (refNeg_at n wr (And.intro hn1 hn2)).mono ?_
            rintro r w2 ⟨rfl, hb2⟩
            have HB2 := Lib.hid (HBE.out.trans (hb2.mono HBE.out.size))
            clear hb2
            go_wp2
            go_ret2
            exact ⟨ret2 PN.out.symm PE.out.symm, HB2.out⟩

  · have HM := Lib.hid hm
    have ho : 1 = if minus s.data.toList then 1 else 0 := by rw [hm]; rfl
    have HBA := Lib.hid (body_at ho)
    have HBL := Lib.hid (show (bodyL s.data.toList).length = s.size - 1 by rw [body_len ho, hsl])
    have d : ((s[0].toNat : Int) == 45) = true := byte_eq (n := 45) (by omega) (by show (s[0] == 45) = true; rw [← minus_get hpos]; exact hm)
    by_cases h1 : s.size = 1
    · have hno : okL s.data.toList = false := by
        have : bodyL s.data.toList = [] := List.eq_nil_of_length_eq_zero (by rw [HBL.out]; omega)
        unfold okL; rw [this]; rfl
      have PN := Lib.hid (parN_no hno)
      have PE := Lib.hid (parE_no hno)
      have hz : (s.size : Int) = 1 := by omega
      clear hno hm ho hsl h0
      go_enter Try.func25, Try.ntmps25
      go_wp2
      go_ret2
      exact ⟨ret2 PN.out.symm PE.out.symm, HB.out⟩
    have h1' : 1 < s.size := by omega
    have hb0 : (bodyL s.data.toList).head? = some s[1] := by rw [List.head?_eq_getElem?, HBA.out 0]; exact get_list h1'
    by_cases h48 : s[1] = 48
    · have hno : okL s.data.toList = false := by unfold okL; rw [hb0, h48, hm]; simp
      have PN := Lib.hid (parN_no hno)
      have PE := Lib.hid (parE_no hno)
      have d8 : ((s[1].toNat : Int) == 48) = true := by rw [h48]; rfl
      have hz : ¬ (s.size : Int) = 1 := by omega
      clear hno hm ho hsl h0 hb0 h48
      go_enter Try.func25, Try.ntmps25
      go_wp2
      go_ret2
      exact ⟨ret2 PN.out.symm PE.out.symm, HB.out⟩
    have HOK := Lib.hid (show okL s.data.toList = (bodyL s.data.toList).all dig from ok_iff_digits (by
      cases h : (bodyL s.data.toList).isEmpty
      · rfl
      · rw [List.isEmpty_iff] at h
        rw [h] at hb0; cases hb0) (by rw [hm, hb0]; simp [h48]))
    have d8 : ((s[1].toNat : Int) == 48) = false := byte_ne (n := 48) (by omega) (by show (s[1] == 48) = false; simp [h48])
    have hz : ¬ (s.size : Int) = 1 := by omega
    clear hm ho hsl h0 hb0 h48 h1
    go_enter Try.func25, Try.ntmps25
    go_wp2
    go_loop [5] (fun i => ∃ k : Nat, 1 ≤ k ∧ k ≤ s.size ∧ i = .int .i64 k ∧ ((bodyL s.data.toList).take (k - 1)).all dig = true) (fun i => s.size - (intOf i).toNat)
    case atStart => exact ⟨1, by omega, by omega, rfl, by simp⟩
    case round =>
      obtain ⟨k, hok, hk, rfl, hall⟩ := hrel
      have HALL := Lib.hid hall
      clear hall
      by_cases hlt : k < s.size
      · have HG := Lib.hid (show (bodyL s.data.toList)[k - 1]? = some s[k] by rw [HBA.out (k - 1), show k - 1 + 1 = k by omega]; exact get_list hlt)
        cases hd : dig s[k]
        · have hno : okL s.data.toList = false := by rw [HOK.out]; exact all_bad HG.out hd
          have PN := Lib.hid (parN_no hno)
          have PE := Lib.hid (parE_no hno)
          simp only [dig, decide_eq_false_iff_not] at hd
          clear hno
          by_cases h48 : s[k].toNat < 48
          · have d1 : decide ((s[k].toNat : Int) < 48) = true := decide_eq_true (by omega)
            clear hd
            go_wp2
            go_ret2
            exact ⟨ret2 PN.out.symm PE.out.symm, HB.out⟩
          · have d1 : decide ((s[k].toNat : Int) < 48) = false := decide_eq_false (by omega)
            have d2 : decide (57 < (s[k].toNat : Int)) = true := decide_eq_true (by omega)
            clear hd
            go_wp2
            go_ret2
            exact ⟨ret2 PN.out.symm PE.out.symm, HB.out⟩
        · have HD := Lib.hid hd
          simp only [dig, decide_eq_true_eq] at hd
          have d1 : decide ((s[k].toNat : Int) < 48) = false := decide_eq_false (by omega)
          have d2 : decide (57 < (s[k].toNat : Int)) = false := decide_eq_false (by omega)
          clear hd
          go_wp2
          go_round
          case rel => exact ⟨k + 1, by omega, by omega, by go_num, by rw [show k + 1 - 1 = k - 1 + 1 by omega]; exact all_take_succ HG.out HD.out HALL.out⟩
          case measure => simp [intOf]; omega
      · obtain rfl : k = s.size := by omega
        have hall : (bodyL s.data.toList).all dig = true := by
          have := HALL.out
          rwa [List.take_of_length_le (by rw [HBL.out]; exact Nat.le_refl _)] at this
        have HK := Lib.hid (show okL s.data.toList = true by rw [HOK.out]; exact hall)
        have HAD := Lib.hid hall
        clear hall
        go_wp2
        go_loopw [6, 7] (fun a b wr => ∃ (k : Nat) (n : Int), 1 ≤ k ∧ k ≤ s.size ∧ a = .int .i64 n ∧ b = .int .i64 k ∧ RN (bodyL s.data.toList) (k - 1) n ∧ Below w.heap.size w wr) (fun a b _ => s.size - (intOf b).toNat)
        case atStart => exact ⟨1, 0, by omega, by omega, rfl, rfl, by rw [Nat.sub_self]; exact RN.start _, HB.out⟩
        case round =>
          obtain ⟨k, n, hok, hk, rfl, rfl, hrn, hbel⟩ := hrel
          have HRN := Lib.hid hrn
          have HBE := Lib.hid hbel
          obtain ⟨hn1, hn2⟩ := hrn.bd
          clear hrn hbel
          by_cases hlt : k < s.size
          · have HG := Lib.hid (show (bodyL s.data.toList)[k - 1]? = some s[k] by rw [HBA.out (k - 1), show k - 1 + 1 = k by omega]; exact get_list hlt)
            have HD := Lib.hid (show dig s[k] = true from List.all_eq_true.1 HAD.out _ (List.mem_of_getElem? HG.out))
            obtain ⟨hd1, hd2⟩ := dig_bd HD.out
            have HWD := Lib.hid (wrap_d hd1 hd2)
            obtain ⟨d, hdd⟩ : ∃ d : Int, d = (s[k].toNat : Int) - 48 := ⟨_, rfl⟩
            have HDD := Lib.hid hdd
            have hd10 : 0 ≤ d ∧ d ≤ 9 := by omega
            clear hd1 hd2 hdd
            go_wp2_with fail
            refine (refMul_ten n wr (And.intro hn1 hn2)).mono ?_
            rintro r w2 ⟨rfl, hb2⟩
            have HB2 := Lib.hid (HBE.out.trans (hb2.mono HBE.out.size))
            clear hb2
            cases hin : inR (n * 10)
            · have hpar := far_par HK.out (HRN.out.over HG.out HD.out HDD.out (.inl hin))
              have PN := Lib.hid hpar.1
              have PE := Lib.hid hpar.2
              rw [numR_out hin, errR_out hin]
              clear hpar hin
              go_wp2
              go_ret2
              exact ⟨ret2 PN.out.symm PE.out.symm, HB2.out⟩
            · rw [numR_in hin, errR_in hin]
              rw [inR_iff] at hin
              obtain ⟨m, hm⟩ : ∃ m, m = n * 10 := ⟨_, rfl⟩
              have HMM := Lib.hid hm
              rw [← hm] at hin ⊢
              have hin1 := hin.1
              have hin2 := hin.2
              clear hin hm
              go_wp2_with fail
              rw [show ((s[k].toNat : Int) - 48) % 256 = d by have := HDD.out; omega]
              refine (refSub_at m d w2 (And.intro hin1 hin2) hd10).mono ?_
              rintro r w3 ⟨rfl, hb3⟩
              have HB3 := Lib.hid (HB2.out.trans (hb3.mono HB2.out.size))
              clear hb3
              cases hin : inR (m - d)
              · have hpar := far_par HK.out (HRN.out.over HG.out HD.out HDD.out (.inr (by rw [← HMM.out]; exact hin)))
                have PN := Lib.hid hpar.1
                have PE := Lib.hid hpar.2
                rw [numR_out hin, errR_out hin]
                clear hpar hin
                go_wp2
                go_ret2
                exact ⟨ret2 PN.out.symm PE.out.symm, HB3.out⟩
              · rw [numR_in hin, errR_in hin]
                have hst := HRN.out.step HG.out HD.out HDD.out (by rw [← HMM.out]; exact hin)
                rw [← HMM.out] at hst
                have HST := Lib.hid hst
                clear hst hin
                go_wp2
                go_roundw
                case rel => exact ⟨k + 1, m - d, by omega, by omega, rfl, by go_num, by rw [show k + 1 - 1 = k - 1 + 1 by omega]; exact HST.out, HB3.out⟩
                case measure => simp [intOf]; omega
          · obtain rfl : k = s.size := by omega
            have hpar := low_par HK.out HM.out (by rw [HBL.out]; exact HRN.out)
            have PN := Lib.hid hpar.1
            have PE := Lib.hid hpar.2
            clear hpar
            go_wp2
            go_ret2
            exact ⟨ret2 PN.out.symm PE.out.symm, HBE.out⟩

end Go.Proofs.Ytbkliomiboekhaa

