/- NumDigit: the walk. -/
import Derived.Test.YtbkliomiboekhaaAw
import Derived.OpenShut
import Derived.Laws.BytesArg
namespace Go.Proofs.Ytbkliomiboekhaa
open Go.RowKit
set_option linter.unusedVariables false

theorem run_one (W : World) (x : Int) : (convert 37 9 (.slice (some ⟨W.heap.size, 0, none⟩) 1 1)).run Try.prog (W.alloc (.cells #[.int .u8 x] 5)) = .ok (.string ⟨#[UInt8.ofNat x.toNat]⟩) (W.alloc (.cells #[.int .u8 x] 5)) :=
  run_convert_bytes_arg (P := Try.prog) (W.alloc (.cells #[.int .u8 x] 5)) 37 5 Try.underlying37 Try.underlying5 W.heap.size 0 1 1 [x] rfl (fun i hi => by
    obtain rfl : i = 0 := by omega
    exact (Blk.new W 5 #[.int .u8 x]).cell 0) 9 Try.underlying9

theorem data_append (a b : ByteArray) : (a ++ b).data.toList = a.data.toList ++ b.data.toList := by simp
theorem size_of (s : ByteArray) : s.size = s.data.toList.length := by simp

set_option maxHeartbeats 4000000 in
set_option maxRecDepth 100000 in
theorem digit_walk (s : ByteArray) (dg : Int) (w : World) (is : s.size ≤ maxLen) (i1 : (Lit.int .u8 dg).wf = true) :
    Calls Try.prog 9 #[.string s, .int .u8 dg] w fun e w' => e = .returned (.bool true) ∧ Below w.heap.size w w' := by
  have hu : 0 ≤ dg ∧ dg ≤ 255 := bounds_u8 i1
  by_cases hlong : 100 < s.size
  · have d1 : decide (100 < (s.size : Int)) = true := decide_eq_true (by omega)
    clear i1 is
    go_enter Try.func9, Try.ntmps9
    go_wp2_with fail
    refine (awake_yes _).mono ?_
    rintro r w0 ⟨rfl, hb⟩
    have HB := Lib.hid hb
    clear hb
    go_wp2
    go_ret
    exact ⟨rfl, HB.out⟩
  have d1 : decide (100 < (s.size : Int)) = false := decide_eq_false (by omega)
  have d1' : decide (100 < s.size) = false := decide_eq_false hlong
  by_cases hdg : 9 < dg
  · have d2 : decide (9 < dg) = true := decide_eq_true (by omega)
    clear i1 is hlong
    go_enter Try.func9, Try.ntmps9
    go_wp2_with fail
    refine (awake_yes _).mono ?_
    rintro r w0 ⟨rfl, hb⟩
    have HB := Lib.hid hb
    clear hb
    go_wp2
    go_ret
    exact ⟨rfl, HB.out⟩
  have d2 : decide (9 < dg) = false := decide_eq_false hdg
  obtain ⟨d, rfl⟩ := Int.eq_ofNat_of_zero_le hu.1
  have hd : d < 10 := by omega
  have HD := Lib.hid hd
  have hd1 : (d : Int) ≤ 9 := by omega
  have HP1 := Lib.hid (fun w => parse_any s w is)
  obtain ⟨one, hone⟩ : ∃ one : ByteArray, one = ⟨#[UInt8.ofNat (48 + (d : Int)).toNat]⟩ := ⟨_, rfl⟩
  have hcv : ∀ W : World, (convert 37 9 (.slice (some ⟨W.heap.size, 0, none⟩) 1 1)).run Try.prog (W.alloc (.cells #[.int .u8 (48 + (d : Int))] 5)) = .ok (.string one) (W.alloc (.cells #[.int .u8 (48 + (d : Int))] 5)) := by
    rw [hone]; exact fun W => run_one W _
  obtain ⟨sd, hsd⟩ : ∃ sd : ByteArray, sd = s ++ one := ⟨_, rfl⟩
  have h2 : sd.data.toList = s.data.toList ++ [dch d] := by
    rw [hsd, data_append, hone]
    have e : (48 + (d : Int)).toNat = 48 + d := by omega
    rw [e]; rfl
  have h1 : one.size = 1 := by rw [hone]; rfl
  have hcat : ∀ W : World, (Op.stringOp .add s one).run Try.prog W = .ok (.string sd) W := fun W => by
    rw [hsd]; exact run_string_add_sum (P := Try.prog) W s one (by omega)
  have h3 : sd.size ≤ maxLen := by
    rw [size_of, h2]
    simp [maxLen]
    omega
  have HP2 := Lib.hid (fun w => h2 ▸ parse_any sd w h3)
  clear hone hsd h1
  have hE := parE_eq (s.data.toList ++ [dch d])
  obtain ⟨m, hm⟩ : ∃ m, m = parN (s.data.toList ++ [dch d]) := ⟨_, rfl⟩
  obtain ⟨f, hf⟩ : ∃ f, f = parE (s.data.toList ++ [dch d]) := ⟨_, rfl⟩
  obtain ⟨n, hn⟩ : ∃ n, n = parN s.data.toList := ⟨_, rfl⟩
  have hq2 := HP2.out
  simp only [← hm, ← hf] at hq2
  clear HP2
  have HP2 := Lib.hid hq2
  clear hq2
  clear i1 hu hlong hdg h2 h3
  rcases parE_eq s.data.toList with he | he | he
  · -- the text says a number
    have hq1 := HP1.out
    simp only [he, ← hn] at hq1
    clear HP1
    have HP1 := Lib.hid hq1
    clear hq1
    have hok := digit_okL (l := s.data.toList) (by rw [he]; decide)
    have hpos : 0 < s.size := by
      rcases Nat.eq_zero_or_pos s.size with h | h
      · exfalso
        obtain rfl : s = ByteArray.empty := ByteArray.ext (Array.eq_empty_of_size_eq_zero h)
        exact absurd hok (by decide)
      · exact h
    have hnb := parN_bd s.data.toList
    rw [← hn] at hnb
    have HM10 := Lib.hid (fun w => Mul_any n 10 w hnb.1 hnb.2 (by omega) (by omega))
    rcases errR_eq (n * 10) with hg | hg
    · obtain ⟨hs1, hs2⟩ := digit_sum he d HD.out (by rw [← hn]; exact hg)
      rw [← hf, ← hn] at hs1
      rw [← hm, ← hn] at hs2
      have HM := HM10.out
      simp only [hg] at HM
      have HM := Lib.hid HM
      cases hmi : minus s.data.toList
      · have hd0 : ((s[0].toNat : Int) == 45) = false := byte_ne (n := 45) (by omega) (by show (s[0] == 45) = false; rw [← minus_get hpos]; exact hmi)
        rw [hmi] at hs1 hs2
        simp only [Bool.false_eq_true, if_false] at hs1 hs2
        have HA := Lib.hid (fun w => Add_any (numR (n * 10)) (d : Int) w (numR_bd _).1 (numR_bd _).2 (by omega) (by omega))
        have HA := HA.out
        simp only [← hs1, ← hs2] at HA
        have HA := Lib.hid HA
        clear hm hf hn hE he hok hnb hg hs1 hs2 hmi HM10
        go_enter Try.func9, Try.ntmps9
        go_wp2_with fail
        refine (awake_yes _).mono ?_
        rintro r w0 ⟨rfl, hb⟩
        have HB0 := Lib.hid hb
        clear hb
        go_wp2_with fail
        refine (HP1.out _).mono ?_
        rintro r w1 ⟨rfl, hb⟩
        have HB1 := Lib.hid (HB0.out.trans (hb.mono HB0.out.size))
        clear hb
        go_wp2_with fail
        refine (HP2.out _).mono ?_
        rintro r w2 ⟨rfl, hb⟩
        have HB2 := Lib.hid ((HB1.out.alloc HB1.out.size _).trans (hb.mono (by simp; have := HB1.out.size; omega)))
        clear hb
        go_wp2_with fail
        refine (HM.out _).mono ?_
        rintro r w3 ⟨rfl, hb⟩
        have HB3 := Lib.hid (HB2.out.trans (hb.mono HB2.out.size))
        clear hb
        go_wp2_with fail
        refine (HA.out _).mono ?_
        rintro r w4 ⟨rfl, hb⟩
        have HB4 := Lib.hid (HB3.out.trans (hb.mono HB3.out.size))
        clear hb
        go_wp2
        go_ret
        exact ⟨rfl, HB4.out⟩
      · have hd0 : ((s[0].toNat : Int) == 45) = true := byte_eq (n := 45) (by omega) (by show (s[0] == 45) = true; rw [← minus_get hpos]; exact hmi)
        rw [hmi] at hs1 hs2
        simp only [if_true] at hs1 hs2
        have HA := Lib.hid (fun w => Add_any (numR (n * 10)) (-(d : Int)) w (numR_bd _).1 (numR_bd _).2 (by omega) (by omega))
        have HA := HA.out
        simp only [← hs1, ← hs2] at HA
        have HA := Lib.hid HA
        clear hm hf hn hE he hok hnb hg hs1 hs2 hmi HM10
        go_enter Try.func9, Try.ntmps9
        go_wp2_with fail
        refine (awake_yes _).mono ?_
        rintro r w0 ⟨rfl, hb⟩
        have HB0 := Lib.hid hb
        clear hb
        go_wp2_with fail
        refine (HP1.out _).mono ?_
        rintro r w1 ⟨rfl, hb⟩
        have HB1 := Lib.hid (HB0.out.trans (hb.mono HB0.out.size))
        clear hb
        go_wp2_with fail
        refine (HP2.out _).mono ?_
        rintro r w2 ⟨rfl, hb⟩
        have HB2 := Lib.hid ((HB1.out.alloc HB1.out.size _).trans (hb.mono (by simp; have := HB1.out.size; omega)))
        clear hb
        go_wp2_with fail
        refine (HM.out _).mono ?_
        rintro r w3 ⟨rfl, hb⟩
        have HB3 := Lib.hid (HB2.out.trans (hb.mono HB2.out.size))
        clear hb
        go_wp2_with fail
        refine (HA.out _).mono ?_
        rintro r w4 ⟨rfl, hb⟩
        have HB4 := Lib.hid (HB3.out.trans (hb.mono HB3.out.size))
        clear hb
        go_wp2
        go_ret
        exact ⟨rfl, HB4.out⟩
    · have hf10 := digit_tens he d HD.out (by rw [← hn]; exact hg)
      rw [← hf] at hf10
      subst hf10
      have HM := HM10.out
      simp only [hg] at HM
      have HM := Lib.hid HM
      clear hm hf hn hE he hok hnb hg HM10 hpos
      go_enter Try.func9, Try.ntmps9
      go_wp2_with fail
      refine (awake_yes _).mono ?_
      rintro r w0 ⟨rfl, hb⟩
      have HB0 := Lib.hid hb
      clear hb
      go_wp2_with fail
      refine (HP1.out _).mono ?_
      rintro r w1 ⟨rfl, hb⟩
      have HB1 := Lib.hid (HB0.out.trans (hb.mono HB0.out.size))
      clear hb
      go_wp2_with fail
      refine (HP2.out _).mono ?_
      rintro r w2 ⟨rfl, hb⟩
      have HB2 := Lib.hid ((HB1.out.alloc HB1.out.size _).trans (hb.mono (by simp; have := HB1.out.size; omega)))
      clear hb
      go_wp2_with fail
      refine (HM.out _).mono ?_
      rintro r w3 ⟨rfl, hb⟩
      have HB3 := Lib.hid (HB2.out.trans (hb.mono HB2.out.size))
      clear hb
      go_wp2
      go_ret
      exact ⟨rfl, HB3.out⟩
  · -- it goes over
    have hf10 := digit_over he d HD.out
    rw [← hf] at hf10
    subst hf10
    have hq1 := HP1.out
    simp only [he, ← hn] at hq1
    clear HP1
    have HP1 := Lib.hid hq1
    clear hq1
    clear hm hf hn hE he
    go_enter Try.func9, Try.ntmps9
    go_wp2_with fail
    refine (awake_yes _).mono ?_
    rintro r w0 ⟨rfl, hb⟩
    have HB0 := Lib.hid hb
    clear hb
    go_wp2_with fail
    refine (HP1.out _).mono ?_
    rintro r w1 ⟨rfl, hb⟩
    have HB1 := Lib.hid (HB0.out.trans (hb.mono HB0.out.size))
    clear hb
    go_wp2_with fail
    refine (HP2.out _).mono ?_
    rintro r w2 ⟨rfl, hb⟩
    have HB2 := Lib.hid ((HB1.out.alloc HB1.out.size _).trans (hb.mono (by simp; have := HB1.out.size; omega)))
    clear hb
    go_wp2
    go_ret
    exact ⟨rfl, HB2.out⟩
  · -- it is none
    have hc := digit_arg he d HD.out
    rw [← hf] at hc
    have hq1 := HP1.out
    simp only [he, ← hn] at hq1
    clear HP1
    have HP1 := Lib.hid hq1
    clear hq1
    have hf2 : f = 2 ∨ (f == 2) = false := by
      by_cases h : f = 2
      · exact .inl h
      · exact .inr (beq_eq_false_iff_ne.2 h)
    rcases hf2 with hf2 | hf2
    · subst hf2
      clear hm hf hn hE he hc
      go_enter Try.func9, Try.ntmps9
      go_wp2_with fail
      refine (awake_yes _).mono ?_
      rintro r w0 ⟨rfl, hb⟩
      have HB0 := Lib.hid hb
      clear hb
      go_wp2_with fail
      refine (HP1.out _).mono ?_
      rintro r w1 ⟨rfl, hb⟩
      have HB1 := Lib.hid (HB0.out.trans (hb.mono HB0.out.size))
      clear hb
      go_wp2_with fail
      refine (HP2.out _).mono ?_
      rintro r w2 ⟨rfl, hb⟩
      have HB2 := Lib.hid ((HB1.out.alloc HB1.out.size _).trans (hb.mono (by simp; have := HB1.out.size; omega)))
      clear hb
      go_wp2
      go_ret
      exact ⟨rfl, HB2.out⟩
    · rcases hc with hc | hc | ⟨hc, h0⟩
      · exfalso; rw [hc] at hf2; cases hf2
      · obtain rfl : s = ByteArray.empty := ByteArray.ext (Array.toList_inj.1 hc)
        clear hm hf hn hE he hc
        go_enter Try.func9, Try.ntmps9
        go_wp2_with fail
        refine (awake_yes _).mono ?_
        rintro r w0 ⟨rfl, hb⟩
        have HB0 := Lib.hid hb
        clear hb
        go_wp2_with fail
        refine (HP1.out _).mono ?_
        rintro r w1 ⟨rfl, hb⟩
        have HB1 := Lib.hid (HB0.out.trans (hb.mono HB0.out.size))
        clear hb
        go_wp2_with fail
        refine (HP2.out _).mono ?_
        rintro r w2 ⟨rfl, hb⟩
        have HB2 := Lib.hid ((HB1.out.alloc HB1.out.size _).trans (hb.mono (by simp; have := HB1.out.size; omega)))
        clear hb
        go_wp2
        go_ret
        exact ⟨rfl, HB2.out⟩
      · obtain rfl : s = ⟨#[45]⟩ := ByteArray.ext (Array.toList_inj.1 hc)
        have hd0 : decide (0 < d) = true := decide_eq_true h0
        clear hm hf hn hE he hc h0
        go_enter Try.func9, Try.ntmps9
        go_wp2_with fail
        refine (awake_yes _).mono ?_
        rintro r w0 ⟨rfl, hb⟩
        have HB0 := Lib.hid hb
        clear hb
        go_wp2_with fail
        refine (HP1.out _).mono ?_
        rintro r w1 ⟨rfl, hb⟩
        have HB1 := Lib.hid (HB0.out.trans (hb.mono HB0.out.size))
        clear hb
        go_wp2_with fail
        refine (HP2.out _).mono ?_
        rintro r w2 ⟨rfl, hb⟩
        have HB2 := Lib.hid ((HB1.out.alloc HB1.out.size _).trans (hb.mono (by simp; have := HB1.out.size; omega)))
        clear hb
        go_wp2
        go_ret
        exact ⟨rfl, HB2.out⟩
end Go.Proofs.Ytbkliomiboekhaa
