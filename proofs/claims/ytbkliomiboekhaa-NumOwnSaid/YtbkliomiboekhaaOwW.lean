/- NumOwn: the walk. -/
import Derived.Test.YtbkliomiboekhaaAw
import Derived.Test.YtbkliomiboekhaaRq
import Derived.Deep.DeepCutAuto
namespace Go.Proofs.Ytbkliomiboekhaa
open Go.RowKit
set_option linter.unusedVariables false

theorem txt_list (l : List UInt8) : (txt l).data.toList = l := rfl
theorem txt_take (l : List UInt8) (n : Nat) : (txt l).extract 0 n = txt (l.take n) := by
  apply ByteArray.ext
  apply Array.toList_inj.1
  rw [Lib.extract_data, txt_list, txt_list]; simp
theorem txt_drop (l : List UInt8) (n : Nat) : (txt l).extract n l.length = txt (l.drop n) := by
  apply ByteArray.ext
  apply Array.toList_inj.1
  rw [Lib.extract_data, txt_list, txt_list, List.take_of_length_le (by simp)]
theorem says_ok (a : Int) (l : List UInt8) (w : World) (hs : l.length ≤ 1000) (h : parN l = a ∧ parE l = 0) :
    Calls Try.prog 29 #[.string (txt l), .int .i64 a, .int .i64 0] w fun r w' => r = .returned (.bool true) ∧ Below w.heap.size w w' :=
  says_yes (txt l) a 0 w (by rw [txt_size]; simp [maxLen]; omega) h.1 h.2
theorem says_bad (l m : List UInt8) (x : UInt8) (w : World) (hs : (l ++ x :: m).length ≤ 1000) (hx : dig x = false) (h : l = [] → x ≠ 45) :
    Calls Try.prog 29 #[.string (txt (l ++ x :: m)), .int .i64 0, .int .i64 2] w fun r w' => r = .returned (.bool true) ∧ Below w.heap.size w w' :=
  says_yes (txt (l ++ x :: m)) 0 2 w (by rw [txt_size]; simp [maxLen] at *; omega) (parN_no (okL_bad l m x hx h)) (parE_no (okL_bad l m x hx h))
/-- the text with noughts ahead -/
def lngL (a : Int) (k : Nat) : List UInt8 := List.replicate k 48 ++ priL a
theorem lng_par {a : Int} (h : inR a = true) (k : Nat) (hk : 0 ≤ a ∨ k = 0) : parN (lngL a k) = a ∧ parE (lngL a k) = 0 := by
  rcases hk with h0 | rfl
  · exact par_noughts h h0 k
  · exact par_pri h
theorem lng_len {a : Int} (h : (priL a).length ≤ 20) {k : Nat} (hk : k ≤ 50) : (lngL a k).length ≤ 70 := by
  unfold lngL; rw [List.length_append, List.length_replicate]; omega
theorem lng_succ (a : Int) (k : Nat) : (⟨#[48]⟩ : ByteArray) ++ txt (lngL a k) = txt (lngL a (k + 1)) := by
  have h := txt_app [48] (lngL a k)
  have e : (⟨#[48]⟩ : ByteArray) = txt [48] := rfl
  rw [e, h]
  unfold lngL
  rw [List.replicate_succ]; rfl

set_option maxHeartbeats 8000000 in
set_option maxRecDepth 100000 in
theorem own_walk (a nn at_ x : Int) (w : World) (i0 : (Lit.int .i64 a).wf = true) (i1 : (Lit.int .i64 nn).wf = true) (i2 : (Lit.int .i64 at_).wf = true) (i3 : (Lit.int .u8 x).wf = true) :
    Calls Try.prog 10 #[.int .i64 a, .int .i64 nn, .int .i64 at_, .int .u8 x] w fun e w' => e = .returned (.bool true) ∧ Below w.heap.size w w' := by
  have A := Lib.hid (show -9223372036854775808 ≤ a ∧ a ≤ 9223372036854775807 from bounds_i64 i0)
  have hx : 0 ≤ x ∧ x ≤ 255 := bounds_u8 i3
  have HIN := Lib.hid (inR_iff.2 A.out)
  have hlen := pri_len A.out.1 A.out.2
  have HP := Lib.hid (fun W => print_any a W A.out.1 A.out.2)
  have HS := Lib.hid (fun W => says_ok a (priL a) W (by omega) (par_pri HIN.out))
  have HSK := Lib.hid (fun W (k : Nat) (hk : k ≤ 50) (h0 : 0 ≤ a ∨ k = 0) => says_ok a (lngL a k) W (Nat.le_trans (lng_len hlen hk) (by omega)) (lng_par HIN.out k h0))
  have HLEN := Lib.hid hlen
  obtain ⟨sx, hsx⟩ : ∃ sx, sx = txt (priL a) := ⟨_, rfl⟩
  rw [← hsx] at HS
  rw [show (⟨(priL a).toArray⟩ : ByteArray) = sx from hsx.symm] at HP
  have HSX := Lib.hid hsx
  clear hlen hsx i0 i1 i2 i3
  by_cases hn0 : nn < 0
  · go_enter Try.func10, Try.ntmps10
    go_wp2_with fail
    refine (awake_yes _).mono ?_
    rintro r w1 ⟨rfl, hb⟩
    have HB1 := Lib.hid hb
    clear hb
    go_wp2_with fail
    refine (HP.out _).mono ?_
    rintro r w2 ⟨rfl, hb⟩
    have HB2 := Lib.hid (HB1.out.trans (hb.mono HB1.out.size))
    clear hb
    go_wp2_with fail
    refine (HS.out _).mono ?_
    rintro r w3 ⟨rfl, hb⟩
    have HB3 := Lib.hid (HB2.out.trans (hb.mono HB2.out.size))
    clear hb
    go_wp2_with fail
    refine (HS.out _).mono ?_
    rintro r w4 ⟨rfl, hb⟩
    have HB4 := Lib.hid (HB3.out.trans (hb.mono HB3.out.size))
    clear hb
    go_wp2
    go_ret
    exact ⟨rfl, HB4.out⟩
  by_cases hn5 : 50 < nn
  · go_enter Try.func10, Try.ntmps10
    go_wp2_with fail
    refine (awake_yes _).mono ?_
    rintro r w1 ⟨rfl, hb⟩
    have HB1 := Lib.hid hb
    clear hb
    go_wp2_with fail
    refine (HP.out _).mono ?_
    rintro r w2 ⟨rfl, hb⟩
    have HB2 := Lib.hid (HB1.out.trans (hb.mono HB1.out.size))
    clear hb
    go_wp2_with fail
    refine (HS.out _).mono ?_
    rintro r w3 ⟨rfl, hb⟩
    have HB3 := Lib.hid (HB2.out.trans (hb.mono HB2.out.size))
    clear hb
    go_wp2_with fail
    refine (HS.out _).mono ?_
    rintro r w4 ⟨rfl, hb⟩
    have HB4 := Lib.hid (HB3.out.trans (hb.mono HB3.out.size))
    clear hb
    go_wp2
    go_ret
    exact ⟨rfl, HB4.out⟩
  obtain ⟨N, hN⟩ : ∃ N : Nat, nn = (N : Int) := ⟨nn.toNat, by omega⟩
  subst hN
  have hN50 : N ≤ 50 := by omega
  obtain ⟨M, hM⟩ : ∃ M : Nat, M = if 0 ≤ a then N else 0 := ⟨_, rfl⟩
  have HM := Lib.hid hM
  clear hM
  go_enter Try.func10, Try.ntmps10
  go_wp2_with fail
  refine (awake_yes _).mono ?_
  rintro r w1 ⟨rfl, hb⟩
  have HB1 := Lib.hid hb
  clear hb
  go_wp2_with fail
  refine (HP.out _).mono ?_
  rintro r w2 ⟨rfl, hb⟩
  have HB2 := Lib.hid (HB1.out.trans (hb.mono HB1.out.size))
  clear hb
  go_wp2_with fail
  refine (HS.out _).mono ?_
  rintro r w3 ⟨rfl, hb⟩
  have HB3 := Lib.hid (HB2.out.trans (hb.mono HB2.out.size))
  clear hb
  go_wp2
  go_loop [10, 11] (fun l i => ∃ k : Nat, k ≤ M ∧ i = .int .i64 k ∧ l = .string (txt (lngL a k))) (fun _ i => N - (intOf i).toNat)
  case atStart => exact ⟨0, by omega, rfl, by rw [HSX.out]; rfl⟩
  case round =>
    obtain ⟨k, hk, rfl, rfl⟩ := hrel
    have hMN : M ≤ N := by have := HM.out; split at this <;> omega
    by_cases hlt : k < M
    · have ha : 0 ≤ a := by
        rcases Int.lt_or_le a 0 with h | h
        · have := HM.out; rw [if_neg (by omega)] at this; omega
        · exact h
      have hkN : (k : Int) < (N : Int) := by omega
      have HLK := Lib.hid (lng_len HLEN.out (k := k) (by omega))
      have hcat : ∀ W : World, (Op.stringOp .add ⟨#[48]⟩ (txt (lngL a k))).run Try.prog W = .ok (.string (txt (lngL a (k + 1)))) W := fun W => by
        rw [← lng_succ]
        refine run_string_add_sum (P := Try.prog) W _ _ ?_
        rw [txt_size]
        show 1 + (lngL a k).length ≤ _
        have := HLK.out
        omega
      go_wp2
      go_round
      case rel => exact ⟨k + 1, by omega, by go_num, rfl⟩
      case measure => simp [intOf]; omega
    · obtain rfl : k = M := by omega
      have hend : ¬ ((k : Int) < (N : Int) ∧ 0 ≤ a) := by
        intro ⟨h1, h2⟩
        have := HM.out; rw [if_pos h2] at this; omega
      have HK := Lib.hid (show 0 ≤ a ∨ k = 0 by
        rcases Int.lt_or_le a 0 with h | h
        · right; have := HM.out; rw [if_neg (by omega)] at this; exact this
        · exact .inl h)
      have hsay := fun W => HSK.out W k (by omega) HK.out
      have HSY := Lib.hid hsay
      have HLK := Lib.hid (lng_len HLEN.out (k := k) (by omega))
      clear hsay
      have hor : ¬ (k : Int) < (N : Int) ∨ ((k : Int) < (N : Int) ∧ ¬ 0 ≤ a) := by
        by_cases h : (k : Int) < (N : Int)
        · exact .inr ⟨h, fun h2 => hend ⟨h, h2⟩⟩
        · exact .inl h
      clear hend hlt
      obtain ⟨tk, htk⟩ : ∃ t, t = txt (lngL a k) := ⟨_, rfl⟩
      rw [← htk] at HSY ⊢
      have HTK := Lib.hid htk
      clear htk
      rcases hor with hor | ⟨hor1, hor2⟩
      all_goals
        go_upto_region 11 with fail
        go_cut [66] (fun v wx => v = .bool false ∧ Below w.heap.size w wx)
        case first =>
          by_cases hs1 : sx.size ≤ 1
          · have hs1' : ¬ (1 : Int) < (sx.size : Int) := by omega
            go_wp2_with fail
            refine (HSY.out _).mono ?_
            rintro r w4 ⟨rfl, hb⟩
            have HB4 := Lib.hid (HB3.out.trans (hb.mono HB3.out.size))
            clear hb
            go_wp2
            go_meet
            case rel => exact ⟨rfl, HB4.out⟩
          · have hs1' : (1 : Int) < (sx.size : Int) := by omega
            have hlist : sx.data.toList = priL a := by rw [HSX.out]; rfl
            have hz0 : 0 < sx.size := by omega
            have hz1 : 1 < sx.size := by omega
            have g0 := get_list hz0
            have g1 := get_list hz1
            rw [hlist] at g0 g1
            have hff := (pri_form a).resolve_left (by rw [← hlist]; simp; omega)
            rw [g0, g1] at hff
            have n48 : sx[0] ≠ 48 := fun h => hff.1 (by rw [h])
            have d0 : ((sx[0].toNat : Int) == 48) = false := byte_ne (n := 48) (by omega) (by show (sx[0] == 48) = false; simp [n48])
            by_cases h45 : sx[0] = 45
            · have n481 : sx[1] ≠ 48 := fun h => hff.2 (by rw [h45]) (by rw [h])
              have d1 : ((sx[0].toNat : Int) == 45) = true := byte_eq (n := 45) (by omega) (by show (sx[0] == 45) = true; simp [h45])
              have d2 : ((sx[1].toNat : Int) == 48) = false := byte_ne (n := 48) (by omega) (by show (sx[1] == 48) = false; simp [n481])
              clear hff h45 n48 n481 g0 g1 hlist
              go_wp2_with fail
              refine (HSY.out _).mono ?_
              rintro r w4 ⟨rfl, hb⟩
              have HB4 := Lib.hid (HB3.out.trans (hb.mono HB3.out.size))
              clear hb
              go_wp2
              go_meet
              case rel => exact ⟨rfl, HB4.out⟩
            · have d1 : ((sx[0].toNat : Int) == 45) = false := byte_ne (n := 45) (by omega) (by show (sx[0] == 45) = false; simp [h45])
              clear hff h45 n48 g0 g1 hlist
              go_wp2_with fail
              refine (HSY.out _).mono ?_
              rintro r w4 ⟨rfl, hb⟩
              have HB4 := Lib.hid (HB3.out.trans (hb.mono HB3.out.size))
              clear hb
              go_wp2
              go_meet
              case rel => exact ⟨rfl, HB4.out⟩
        case rest =>
        obtain ⟨rfl, hb4⟩ := hcut
        have HB4 := Lib.hid hb4
        clear hb4
        go_upto_region 13 with fail
        go_cut [90] (fun v wx => (v = .bool true ∨ (v = .bool false ∧ ¬ (48 ≤ x ∧ x ≤ 57) ∧ 0 ≤ at_ ∧ at_ ≤ (tk.size : Int) ∧ ¬ (x = 45 ∧ at_ = 0))) ∧ Below w.heap.size w wx)
        case first =>
          by_cases c1 : 48 ≤ x
          · by_cases c2 : x ≤ 57
            · go_wp2
              go_meet
              case rel => exact ⟨.inl rfl, HB4.out⟩
            · by_cases c3 : at_ < 0
              · go_wp2
                go_meet
                case rel => exact ⟨.inl rfl, HB4.out⟩
              · by_cases c4 : (tk.size : Int) < at_
                · go_wp2
                  go_meet
                  case rel => exact ⟨.inl rfl, HB4.out⟩
                · have c5 : (x == 45) = false := beq_eq_false_iff_ne.2 (by omega)
                  have CC := Lib.hid (show ¬ (48 ≤ x ∧ x ≤ 57) ∧ 0 ≤ at_ ∧ at_ ≤ (tk.size : Int) ∧ ¬ (x = 45 ∧ at_ = 0) from ⟨by omega, by omega, by omega, by omega⟩)
                  go_wp2
                  go_meet
                  case rel => exact ⟨.inr ⟨rfl, CC.out⟩, HB4.out⟩
          · by_cases c3 : at_ < 0
            · go_wp2
              go_meet
              case rel => exact ⟨.inl rfl, HB4.out⟩
            · by_cases c4 : (tk.size : Int) < at_
              · go_wp2
                go_meet
                case rel => exact ⟨.inl rfl, HB4.out⟩
              · by_cases c5 : x = 45
                · by_cases c6 : at_ = 0
                  · have c5' : (x == 45) = true := beq_iff_eq.2 c5
                    have c6' : (at_ == 0) = true := beq_iff_eq.2 c6
                    clear c5 c6
                    go_wp2
                    go_meet
                    case rel => exact ⟨.inl rfl, HB4.out⟩
                  · have c5' : (x == 45) = true := beq_iff_eq.2 c5
                    have c6' : (at_ == 0) = false := beq_eq_false_iff_ne.2 c6
                    have CC := Lib.hid (show ¬ (48 ≤ x ∧ x ≤ 57) ∧ 0 ≤ at_ ∧ at_ ≤ (tk.size : Int) ∧ ¬ (x = 45 ∧ at_ = 0) from ⟨by omega, by omega, by omega, by omega⟩)
                    clear c5 c6
                    go_wp2
                    go_meet
                    case rel => exact ⟨.inr ⟨rfl, CC.out⟩, HB4.out⟩
                · have c5' : (x == 45) = false := beq_eq_false_iff_ne.2 c5
                  have CC := Lib.hid (show ¬ (48 ≤ x ∧ x ≤ 57) ∧ 0 ≤ at_ ∧ at_ ≤ (tk.size : Int) ∧ ¬ (x = 45 ∧ at_ = 0) from ⟨by omega, by omega, by omega, by omega⟩)
                  clear c5
                  go_wp2
                  go_meet
                  case rel => exact ⟨.inr ⟨rfl, CC.out⟩, HB4.out⟩
        case rest =>
        obtain ⟨hv, hb4⟩ := hcut
        have HB5 := Lib.hid hb4
        clear hb4
        rcases hv with rfl | ⟨rfl, e1, e2, e3, e4⟩
        · go_wp2
          go_ret
          exact ⟨rfl, HB5.out⟩
        · obtain ⟨n, rfl⟩ := Int.eq_ofNat_of_zero_le e2
          have hts : tk.size = (lngL a k).length := by rw [HTK.out]; rfl
          have hnl : n ≤ (lngL a k).length := by rw [← hts]; omega
          obtain ⟨c, hc⟩ : ∃ c : UInt8, UInt8.ofNat x.toNat = c := ⟨_, rfl⟩
          have hcn : (c.toNat : Int) = x := by rw [← hc, UInt8.toNat_ofNat']; omega
          have hdig : dig c = false := by unfold dig; rw [decide_eq_false_iff_not]; omega
          have h45 : (lngL a k).take n = [] → c ≠ 45 := by
            intro h hc45
            have h0 : n = 0 ∨ lngL a k = [] := by
              rcases Nat.eq_zero_or_pos n with h' | h'
              · exact .inl h'
              · right; rw [List.take_eq_nil_iff] at h; exact h.resolve_left (by omega)
            rcases h0 with h0 | h0
            · rw [hc45] at hcn
              exact e4 ⟨by rw [← hcn]; rfl, by omega⟩
            · unfold lngL at h0
              exact pri_ne a (List.append_eq_nil_iff.1 h0).2
          have HY := Lib.hid (fun W => says_bad ((lngL a k).take n) ((lngL a k).drop n) c W (by
            rw [List.length_append, List.length_cons, List.length_take, List.length_drop]
            have := HLK.out
            omega) hdig h45)
          have t1 : tk.extract 0 n = txt ((lngL a k).take n) := by rw [HTK.out]; exact txt_take _ _
          have t2 : tk.extract n tk.size = txt ((lngL a k).drop n) := by rw [hts, HTK.out]; exact txt_drop _ _
          have hcv : ∀ W : World, (convert 37 9 (.slice (some ⟨W.heap.size, 0, none⟩) 1 1)).run Try.prog (W.alloc (.cells #[.int .u8 x] 5)) = .ok (.string ⟨#[c]⟩) (W.alloc (.cells #[.int .u8 x] 5)) := fun W => run_oneq W x c hc
          have hcd : ∀ W : World, (convert 37 9 (.slice (some ⟨W.heap.size, 0, none⟩) 1 1)).run Try.prog (W.alloc (.cells #[.int .u8 x] 5)).drew = .ok (.string ⟨#[c]⟩) (W.alloc (.cells #[.int .u8 x] 5)).drew := fun W => by
            rw [← hc]
            exact run_convert_bytes_arg (P := Try.prog) (W.alloc (.cells #[.int .u8 x] 5)).drew 37 5 Try.underlying37 Try.underlying5 W.heap.size 0 1 1 [x] rfl (fun i hi => by
              obtain rfl : i = 0 := by omega
              exact (Blk.new W 5 #[.int .u8 x]).cell 0) 9 Try.underlying9
          have hc1 : ∀ W : World, (Op.stringOp .add (txt ((lngL a k).take n)) ⟨#[c]⟩).run Try.prog W = .ok (.string (txt ((lngL a k).take n ++ [c]))) W := fun W => by
            rw [← txt_app]
            refine run_string_add_sum (P := Try.prog) W _ _ ?_
            rw [txt_size, List.length_take]
            show _ + 1 ≤ _
            have := HLK.out
            omega
          have hc2 : ∀ W : World, (Op.stringOp .add (txt ((lngL a k).take n ++ [c])) (txt ((lngL a k).drop n))).run Try.prog W = .ok (.string (txt ((lngL a k).take n ++ c :: (lngL a k).drop n))) W := fun W => by
            rw [show (lngL a k).take n ++ c :: (lngL a k).drop n = ((lngL a k).take n ++ [c]) ++ (lngL a k).drop n by simp, ← txt_app ((lngL a k).take n ++ [c]) ((lngL a k).drop n)]
            refine run_string_add_sum (P := Try.prog) W _ _ ?_
            rw [txt_size, txt_size, List.length_append, List.length_take, List.length_drop]
            simp only [List.length_cons, List.length_nil]
            have := HLK.out
            omega
          obtain ⟨b1, hb1⟩ : ∃ t, t = txt ((lngL a k).take n) := ⟨_, rfl⟩
          obtain ⟨b2, hb2⟩ : ∃ t, t = txt ((lngL a k).drop n) := ⟨_, rfl⟩
          obtain ⟨b3, hb3⟩ : ∃ t, t = txt ((lngL a k).take n ++ [c]) := ⟨_, rfl⟩
          obtain ⟨b4, hb4⟩ : ∃ t, t = txt ((lngL a k).take n ++ c :: (lngL a k).drop n) := ⟨_, rfl⟩
          rw [← hb1] at t1 hc1
          rw [← hb2] at t2 hc2
          rw [← hb3] at hc1 hc2
          rw [← hb4] at hc2 HY
          clear hb1 hb2 hb3 hb4 hts hnl hc hcn hdig h45 e1 e4
          go_upto_region 15 with fail
          go_region_with (go_at_call 29; with_reducible refine (HY.out _).mono ?_; rintro r w6 ⟨rfl, hb⟩; have HB6 := Lib.hid hb; clear hb)
          all_goals
            go_wp2
            go_ret
            first
              | exact ⟨rfl, ((HB5.out.drew.alloc HB5.out.size _)).trans (HB6.out.mono (Nat.le_trans HB5.out.size (by simp)))⟩
              | exact ⟨rfl, ((HB5.out.alloc HB5.out.size _).drew).trans (HB6.out.mono (Nat.le_trans HB5.out.size (by simp)))⟩
end Go.Proofs.Ytbkliomiboekhaa
