/- Numbers: the contract of Parse. -/
import Derived.Test.YtbkliomiboekhaaPA
import Derived.Deep.RegionWith
namespace Go.Proofs.Ytbkliomiboekhaa
open Go.RowKit
set_option linter.unusedVariables false

theorem okL_num (l : List UInt8) : okL l = numB (bodyL l) (minus l) := rfl
theorem cut_body {s : ByteArray} (h : minus s.data.toList = true) : (s.extract 1 s.size).data.toList = bodyL s.data.toList := by
  rw [Lib.extract_data, bodyL, if_pos h, List.take_of_length_le (by simp), List.drop_one]
theorem minus_get {s : ByteArray} (h : 0 < s.size) : minus s.data.toList = (s[0] == 45) := by
  unfold minus
  rw [List.head?_eq_getElem?, get_list h]
  rfl
theorem minus_nil {s : ByteArray} (h : s.size = 0) : minus s.data.toList = false := by
  obtain rfl : s = ByteArray.empty := ByteArray.ext (Array.eq_empty_of_size_eq_zero h)
  rfl
theorem byte_eq {c : UInt8} {n : Nat} (hn : n < 256) (h : (c == UInt8.ofNat n) = true) : ((c.toNat : Int) == (n : Int)) = true := by
  rw [beq_iff_eq] at h ⊢
  subst h
  rw [UInt8.toNat_ofNat']
  omega
theorem byte_ne {c : UInt8} {n : Nat} (hn : n < 256) (h : (c == UInt8.ofNat n) = false) : ((c.toNat : Int) == (n : Int)) = false := by
  rw [beq_eq_false_iff_ne] at h ⊢
  intro e
  apply h
  apply UInt8.toNat_inj.1
  rw [UInt8.toNat_ofNat']
  omega
theorem Blk.cell' {w : World} {g : Nat} {t : TypeId} {cs : Array Value} (h : Blk w g t cs) (i : Nat) (v : Value) (hv : cs[i]? = some v) : w.cell? ⟨g, i, none⟩ = some v := (h.cell i).trans hv

theorem dig_bd {c : UInt8} (h : dig c = true) : 48 ≤ (c.toNat : Int) ∧ (c.toNat : Int) ≤ 57 := by
  simp only [dig, decide_eq_true_eq] at h
  omega
theorem sz10 : Sz 10 := ⟨by omega, by omega⟩
theorem wrap_dig {n : Nat} (h1 : 48 ≤ (n : Int)) (h2 : (n : Int) ≤ 57) : IntKind.u64.wrap (IntKind.u8.wrap ((n : Int) - 48)) = (n : Int) - 48 := by
  rw [IntKind.wrap_u64, IntKind.wrap_u8]; omega
/-- what the loop of Parse keeps, behind k bytes -/
def PS (T : List UInt8) (k : Nat) (f : Bool) (l : Bool) (z : Int) : Prop := Sz z ∧ (f = true → sv l z = (valL (T.take k) : Int)) ∧ (f = false → 18446744073709551616 ≤ (valL T : Int))
theorem PS.start (T : List UInt8) : PS T 0 true false 0 := ⟨⟨by omega, by omega⟩, fun _ => rfl, fun h => by cases h⟩
theorem PS.tens {T : List UInt8} {k : Nat} {l l2 f2 : Bool} {z z2 : Int} {c : UInt8} (h : PS T k true l z) (hc : T[k]? = some c) (h2 : Sz z2) (hv : f2 = true → sv l2 z2 = sv l z * sv false 10) (hn : f2 = false → Far (sv l z * sv false 10)) :
    (f2 = true → sv l2 z2 = (valL (T.take k) * 10 : Nat)) ∧ (f2 = false → PS T (k + 1) false l2 z2) := by
  have e : sv l z * sv false 10 = ((valL (T.take k) * 10 : Nat) : Int) := by rw [h.2.1 rfl]; simp [sv]
  rw [e] at hv hn
  refine ⟨hv, fun hf => ⟨h2, fun h => (by cases h), fun _ => ?_⟩⟩
  have h1 := hn hf
  have h3 := valL_take_succ T hc
  have h4 := valL_take_le T (k + 1)
  unfold Far at h1
  omega
theorem PS.unit {T : List UInt8} {k : Nat} {l l2 f2 : Bool} {z z2 : Int} {c : UInt8} (hz : sv l z = (valL (T.take k) * 10 : Nat)) (hc : T[k]? = some c) (hd : dig c = true) (h2 : Sz z2)
    (hv : f2 = true → sv l2 z2 = sv l z + sv false ((c.toNat : Int) - 48)) (hn : f2 = false → Far (sv l z + sv false ((c.toNat : Int) - 48))) : PS T (k + 1) f2 l2 z2 := by
  simp only [dig, decide_eq_true_eq] at hd
  have h3 := valL_take_succ T hc
  have h4 := valL_take_le T (k + 1)
  have e : sv l z + sv false ((c.toNat : Int) - 48) = (valL (T.take (k + 1)) : Int) := by
    rw [hz, h3]; simp only [sv]; simp only [Bool.false_eq_true, if_false]; omega
  rw [e] at hv hn
  refine ⟨h2, hv, fun hf => ?_⟩
  have h1 := hn hf
  unfold Far at h1
  omega
/-- what is told in the end -/
theorem PS.done {l : List UInt8} {lo : Bool} {f lz : Bool} {z : Int} {k : Nat} (hk : okL l = true) (hm : minus l = lo) (h : PS (bodyL l) k f lz z) (hf : f = true → k = (bodyL l).length) :
    (f = true → sv lo z = sval l) ∧ (f = false → Far (sval l)) := by
  obtain ⟨⟨h1, h2⟩, h3, h4⟩ := h
  have hs : sval l = sv lo (valL (bodyL l) : Int) := by subst hm; unfold sval sv; cases minus l <;> rfl
  rw [hs]
  constructor
  · intro e
    have h5 := h3 e
    rw [hf e, List.take_length] at h5
    have : z = (valL (bodyL l) : Int) := by cases lz <;> simp [sv] at h5 <;> omega
    rw [this]
  · intro e
    have := h4 e
    unfold Far
    cases lo <;> simp [sv] <;> omega
theorem par_far {l : List UInt8} (h : okL l = true) : parN l = numR (sval l) ∧ parE l = errR (sval l) := ⟨parN_ok h, parE_ok h⟩

theorem ps_blk {w : World} {g : Nat} {l : Bool} {z : Int} (h : Blk w g 46 #[.bool l, .int .u64 z]) (l2 : Bool) (z2 : Int) : Blk ((w.setCell ⟨g, 0, none⟩ (.bool l2)).setCell ⟨g, 1, none⟩ (.int .u64 z2)) g 46 #[.bool l2, .int .u64 z2] := (h.set_ 0 _).set_ 1 _

set_option maxHeartbeats 4000000 in
theorem parse_any (s : ByteArray) (w : World) (hs : s.size ≤ maxLen) :
    Calls Try.prog 24 #[.string s] w fun r w' => r = .returned (.tuple #[.int .i64 (parN s.data.toList), .int .i64 (parE s.data.toList)]) ∧ Below w.heap.size w w' := by
  have HS := Lib.hid hs
  unfold maxLen at hs
  by_cases hm : minus s.data.toList = true
  · have hpos : 0 < s.size := by
      rcases Nat.eq_zero_or_pos s.size with h | h
      · rw [minus_nil h] at hm; cases hm
      · exact h
    have d : ((s[0].toNat : Int) == 45) = true := byte_eq (n := 45) (by omega) (by show (s[0] == 45) = true; rw [← minus_get hpos]; exact hm)
    have ht := cut_body hm
    have HM := Lib.hid hm
    have hsz : (s.extract 1 s.size).size ≤ s.size := by rw [ByteArray.size_extract]; omega
    clear hm
    go_enter Try.func24, Try.ntmps24
    go_wp2_with fail
    obtain ⟨t, ht'⟩ : ∃ t, t = s.extract 1 s.size := ⟨_, rfl⟩
    rw [← ht'] at ht hsz ⊢
    have HT := Lib.hid ht
    have hts : t.size ≤ 2 ^ 63 - 1 := Nat.le_trans hsz hs
    have HTS := Lib.hid (show t.size ≤ maxLen from hts)
    clear ht ht' hsz hs d HS
    refine (numeral_any t true _ HTS.out).mono ?_
    rintro r w' ⟨rfl, rfl⟩
    rw [show numB t.data.toList true = okL s.data.toList by rw [okL_num, HT.out, HM.out]]
    cases hk : okL s.data.toList
    · have PN := Lib.hid (parN_no hk)
      have PE := Lib.hid (parE_no hk)
      clear hk
      go_wp2
      go_ret2
      exact ⟨ret2 PN.out.symm PE.out.symm, Below.refl _ _⟩
    · have PN := Lib.hid (parN_ok hk)
      have PE := Lib.hid (parE_ok hk)
      have HK := Lib.hid hk
      have HALL := Lib.hid (show t.data.toList.all dig = true by
        have h := hk
        rw [okL_num, ← HT.out] at h
        unfold numB at h
        simp only [Bool.and_eq_true] at h
        exact h.1.1)
      clear hk
      go_wp2
      go_loopw [6, 7] (fun f i wr => ∃ (k : Nat) (fb lz : Bool) (z : Int), k ≤ t.size ∧ i = .int .i64 k ∧ f = .bool fb ∧ Blk wr w.heap.size 46 #[.bool lz, .int .u64 z] ∧ PS t.data.toList k fb lz z ∧ Below w.heap.size w wr) (fun _ i _ => t.size - (intOf i).toNat)
      case atStart => exact ⟨0, true, false, 0, Nat.zero_le _, rfl, rfl, Blk.new _ _ _, PS.start _, (Below.refl _ _).alloc (Nat.le_refl _) _⟩
      case round =>
        obtain ⟨k, fb, lz, z, hk, rfl, rfl, hblk, hps, hbel⟩ := hrel
        have c0 := hblk.cell' 0 _ rfl
        have c1 := hblk.cell' 1 _ rfl
        have f0 := hblk.frozen 0
        have f1 := hblk.frozen 1
        have hlb := hblk.lt
        have HBK := Lib.hid hblk
        have HBE := Lib.hid hbel
        clear hblk hbel
        have hcase : (k < t.size ∧ fb = true) ∨ (k < t.size ∧ fb = false) ∨ k = t.size := by
          rcases Nat.lt_or_ge k t.size with h | h
          · cases fb
            · exact .inr (.inl ⟨h, rfl⟩)
            · exact .inl ⟨h, rfl⟩
          · exact .inr (.inr (by omega))
        rcases hcase with ⟨hlt, rfl⟩ | hcase
        · have HG := Lib.hid (get_list hlt)
          have HD := Lib.hid (show dig t[k] = true from List.all_eq_true.1 HALL.out _ (List.mem_of_getElem? (get_list hlt)))
          have HDB := Lib.hid (dig_bd HD.out)
          have HPS := Lib.hid hps
          clear hps
          go_wp2_with fail
          refine (times_any lz false z 10 _ HPS.out.1 sz10).mono ?_
          rintro r w2 ⟨l2, z2, f2, rfl, hz2, hv2, hn2, hb2⟩
          have ht2 := PS.tens HPS.out HG.out hz2 hv2 hn2
          have hblk2 := HBK.out.below hb2 HBK.out.lt
          have HB2 := Lib.hid (HBE.out.trans (hb2.mono HBE.out.size))
          have HZ2 := Lib.hid hz2
          have HT2 := Lib.hid ht2
          have e0 := hblk2.cell' 0 _ rfl
          have e1 := hblk2.cell' 1 _ rfl
          have g0 := hblk2.frozen 0
          have g1 := hblk2.frozen 1
          have hlb2 := hblk2.lt
          have HBK2 := Lib.hid (ps_blk hblk2 l2 z2)
          clear hz2 hv2 hn2 hb2 ht2 hblk2
          cases f2
          · have HP2 := Lib.hid (HT2.out.2 rfl)
            clear HT2
            go_wp2
            go_roundw
            case rel => exact ⟨k + 1, false, l2, z2, by omega, by go_num, rfl, HBK2.out, HP2.out, (HB2.out.setCell (by simp) _).setCell (by simp) _⟩
            case measure => simp [intOf]; omega
          · have HV2 := Lib.hid (HT2.out.1 rfl)
            have hb48 := HDB.out
            obtain ⟨hb1, hb2⟩ := hb48
            clear HT2
            have HW8 := Lib.hid (wrap_dig hb1 hb2)
            have SW := Lib.hid (show Sz (IntKind.u64.wrap (IntKind.u8.wrap ((t[k].toNat : Int) - 48))) by rw [HW8.out]; exact ⟨by omega, by omega⟩)
            clear hb1 hb2
            have q0 := HBK2.out.cell' 0 _ rfl
            have q1 := HBK2.out.cell' 1 _ rfl
            have q2 := HBK2.out.frozen 0
            have q3 := HBK2.out.frozen 1
            have q4 := HBK2.out.lt
            have HW := Lib.hid (show Below w.heap.size w ((w2.setCell ⟨w.heap.size, 0, none⟩ (.bool l2)).setCell ⟨w.heap.size, 1, none⟩ (.int .u64 z2)) from (HB2.out.setCell (by simp) _).setCell (by simp) _)
            go_wp2_with fail
            obtain ⟨W2, hW2⟩ : ∃ W2, W2 = ((w2.setCell ⟨w.heap.size, 0, none⟩ (.bool l2)).setCell ⟨w.heap.size, 1, none⟩ (.int .u64 z2)) := ⟨_, rfl⟩
            rw [← hW2] at q0 q1 q2 q3 q4 HW HBK2 ⊢
            clear hW2 e0 e1 g0 g1 hlb2
            go_region_with (go_at_call 31; refine (plus_any l2 false z2 _ _ HZ2.out SW.out).mono ?_; rintro r w3 ⟨l3, z3, f3, rfl, hz3, hv3, hn3, hb3⟩; rw [HW8.out] at hv3 hn3; have hblk3 := HBK2.out.drew.below hb3 HBK2.out.lt; have p0 := hblk3.cell' 0 _ rfl; have p1 := hblk3.cell' 1 _ rfl; have p2 := hblk3.frozen 0; have p3 := hblk3.frozen 1; have p4 := hblk3.lt; have HBK3 := Lib.hid (ps_blk hblk3 l3 z3); have HPS3 := Lib.hid (PS.unit HV2.out HG.out HD.out hz3 hv3 hn3); have HB3 := Lib.hid (HW.out.drew.trans (hb3.mono HW.out.size)); clear hblk3 hz3 hv3 hn3 hb3)
            all_goals
              go_wp2
              go_roundw
              case rel => exact ⟨k + 1, f3, l3, z3, by omega, by go_num, rfl, HBK3.out, HPS3.out, (HB3.out.setCell (by simp) _).setCell (by simp) _⟩
              case measure => simp [intOf]; omega
        · have HPS := Lib.hid hps
          have HF := Lib.hid (show fb = true → k = (bodyL s.data.toList).length by
            intro h
            rcases hcase with ⟨_, h'⟩ | h'
            · rw [h] at h'; cases h'
            · rw [← HT.out]; simpa using h')
          have HPD := Lib.hid (PS.done HK.out HM.out (HT.out ▸ hps) HF.out)
          have HBE2 := Lib.hid (HBE.out.setCell (p := ⟨w.heap.size, 0, none⟩) (Nat.le_refl _) (.bool true))
          have SZZ := Lib.hid hps.1
          clear hps HPS HF
          rcases hcase with ⟨hlt, rfl⟩ | hke
          · have HNF := Lib.hid (HPD.out.2 rfl)
            clear HPD
            go_wp2_with fail
            refine (number_any (V := sval s.data.toList) _ SZZ.out (fun h => (by cases h)) (fun _ => HNF.out)).mono ?_
            rintro r w4 ⟨rfl, hb4⟩
            have HB4 := Lib.hid (HBE2.out.trans (hb4.mono HBE2.out.size))
            clear hb4
            go_wp2
            go_ret2
            exact ⟨ret2 PN.out.symm PE.out.symm, HB4.out⟩
          · subst hke
            go_wp2_with fail
            refine (number_any _ SZZ.out HPD.out.1 HPD.out.2).mono ?_
            rintro r w4 ⟨rfl, hb4⟩
            have HB4 := Lib.hid (HBE2.out.trans (hb4.mono HBE2.out.size))
            clear hb4
            go_wp2
            go_ret2
            exact ⟨ret2 PN.out.symm PE.out.symm, HB4.out⟩
  · have hmf : minus s.data.toList = false := by simpa using hm
    obtain ⟨t, ht'⟩ : ∃ t, t = s := ⟨_, rfl⟩
    have HM := Lib.hid hmf
    have HT := Lib.hid (show t.data.toList = bodyL s.data.toList by rw [ht', bodyL, hmf]; rfl)
    have HTS := Lib.hid (show t.size ≤ maxLen by rw [ht']; exact HS.out)
    have hts : t.size ≤ 2 ^ 63 - 1 := HTS.out
    have HBT := Lib.hid (show 0 < t.size → ∃ h : 0 < t.size, ((t[0].toNat : Int) == 45) = false from fun h => ⟨h, byte_ne (n := 45) (by omega) (by subst ht'; show (t[0] == 45) = false; rw [← minus_get h]; exact hmf)⟩)
    suffices hsuf : Calls Try.prog 24 #[.string t] w (fun r w' => r = .returned (.tuple #[.int .i64 (parN s.data.toList), .int .i64 (parE s.data.toList)]) ∧ Below w.heap.size w w') by
      rw [ht'] at hsuf; exact hsuf
    clear ht' hm hmf hs
    rcases Nat.eq_zero_or_pos t.size with h0 | h0
    · have hz0 : decide (0 < t.size) = false := decide_eq_false (by omega)
      have H0 := Lib.hid h0
      clear h0
      go_enter Try.func24, Try.ntmps24
      go_wp2_with fail
      refine (numeral_any t false _ HTS.out).mono ?_
      rintro r w' ⟨rfl, rfl⟩
      rw [show numB t.data.toList false = okL s.data.toList by rw [okL_num, HT.out, HM.out]]
      cases hk : okL s.data.toList
      · have PN := Lib.hid (parN_no hk)
        have PE := Lib.hid (parE_no hk)
        clear hk
        go_wp2
        go_ret2
        exact ⟨ret2 PN.out.symm PE.out.symm, Below.refl _ _⟩
      · have PN := Lib.hid (parN_ok hk)
        have PE := Lib.hid (parE_ok hk)
        have HK := Lib.hid hk
        have HALL := Lib.hid (show t.data.toList.all dig = true by
          have h := hk
          rw [okL_num, ← HT.out] at h
          unfold numB at h
          simp only [Bool.and_eq_true] at h
          exact h.1.1)
        clear hk
        go_wp2
        go_loopw [6, 7] (fun f i wr => ∃ (k : Nat) (fb lz : Bool) (z : Int), k ≤ t.size ∧ i = .int .i64 k ∧ f = .bool fb ∧ Blk wr w.heap.size 46 #[.bool lz, .int .u64 z] ∧ PS t.data.toList k fb lz z ∧ Below w.heap.size w wr) (fun _ i _ => t.size - (intOf i).toNat)
        case atStart => exact ⟨0, true, false, 0, Nat.zero_le _, rfl, rfl, Blk.new _ _ _, PS.start _, (Below.refl _ _).alloc (Nat.le_refl _) _⟩
        case round =>
          obtain ⟨k, fb, lz, z, hk, rfl, rfl, hblk, hps, hbel⟩ := hrel
          have c0 := hblk.cell' 0 _ rfl
          have c1 := hblk.cell' 1 _ rfl
          have f0 := hblk.frozen 0
          have f1 := hblk.frozen 1
          have hlb := hblk.lt
          have HBK := Lib.hid hblk
          have HBE := Lib.hid hbel
          clear hblk hbel
          have hcase : (k < t.size ∧ fb = true) ∨ (k < t.size ∧ fb = false) ∨ k = t.size := by
            rcases Nat.lt_or_ge k t.size with h | h
            · cases fb
              · exact .inr (.inl ⟨h, rfl⟩)
              · exact .inl ⟨h, rfl⟩
            · exact .inr (.inr (by omega))
          rcases hcase with ⟨hlt, rfl⟩ | hcase
          · have HG := Lib.hid (get_list hlt)
            have HD := Lib.hid (show dig t[k] = true from List.all_eq_true.1 HALL.out _ (List.mem_of_getElem? (get_list hlt)))
            have HDB := Lib.hid (dig_bd HD.out)
            have HPS := Lib.hid hps
            clear hps
            go_wp2_with fail
            refine (times_any lz false z 10 _ HPS.out.1 sz10).mono ?_
            rintro r w2 ⟨l2, z2, f2, rfl, hz2, hv2, hn2, hb2⟩
            have ht2 := PS.tens HPS.out HG.out hz2 hv2 hn2
            have hblk2 := HBK.out.below hb2 HBK.out.lt
            have HB2 := Lib.hid (HBE.out.trans (hb2.mono HBE.out.size))
            have HZ2 := Lib.hid hz2
            have HT2 := Lib.hid ht2
            have e0 := hblk2.cell' 0 _ rfl
            have e1 := hblk2.cell' 1 _ rfl
            have g0 := hblk2.frozen 0
            have g1 := hblk2.frozen 1
            have hlb2 := hblk2.lt
            have HBK2 := Lib.hid (ps_blk hblk2 l2 z2)
            clear hz2 hv2 hn2 hb2 ht2 hblk2
            cases f2
            · have HP2 := Lib.hid (HT2.out.2 rfl)
              clear HT2
              go_wp2
              go_roundw
              case rel => exact ⟨k + 1, false, l2, z2, by omega, by go_num, rfl, HBK2.out, HP2.out, (HB2.out.setCell (by simp) _).setCell (by simp) _⟩
              case measure => simp [intOf]; omega
            · have HV2 := Lib.hid (HT2.out.1 rfl)
              have hb48 := HDB.out
              obtain ⟨hb1, hb2⟩ := hb48
              clear HT2
              have HW8 := Lib.hid (wrap_dig hb1 hb2)
              have SW := Lib.hid (show Sz (IntKind.u64.wrap (IntKind.u8.wrap ((t[k].toNat : Int) - 48))) by rw [HW8.out]; exact ⟨by omega, by omega⟩)
              clear hb1 hb2
              have q0 := HBK2.out.cell' 0 _ rfl
              have q1 := HBK2.out.cell' 1 _ rfl
              have q2 := HBK2.out.frozen 0
              have q3 := HBK2.out.frozen 1
              have q4 := HBK2.out.lt
              have HW := Lib.hid (show Below w.heap.size w ((w2.setCell ⟨w.heap.size, 0, none⟩ (.bool l2)).setCell ⟨w.heap.size, 1, none⟩ (.int .u64 z2)) from (HB2.out.setCell (by simp) _).setCell (by simp) _)
              go_wp2_with fail
              obtain ⟨W2, hW2⟩ : ∃ W2, W2 = ((w2.setCell ⟨w.heap.size, 0, none⟩ (.bool l2)).setCell ⟨w.heap.size, 1, none⟩ (.int .u64 z2)) := ⟨_, rfl⟩
              rw [← hW2] at q0 q1 q2 q3 q4 HW HBK2 ⊢
              clear hW2 e0 e1 g0 g1 hlb2
              go_region_with (go_at_call 31; refine (plus_any l2 false z2 _ _ HZ2.out SW.out).mono ?_; rintro r w3 ⟨l3, z3, f3, rfl, hz3, hv3, hn3, hb3⟩; rw [HW8.out] at hv3 hn3; have hblk3 := HBK2.out.drew.below hb3 HBK2.out.lt; have p0 := hblk3.cell' 0 _ rfl; have p1 := hblk3.cell' 1 _ rfl; have p2 := hblk3.frozen 0; have p3 := hblk3.frozen 1; have p4 := hblk3.lt; have HBK3 := Lib.hid (ps_blk hblk3 l3 z3); have HPS3 := Lib.hid (PS.unit HV2.out HG.out HD.out hz3 hv3 hn3); have HB3 := Lib.hid (HW.out.drew.trans (hb3.mono HW.out.size)); clear hblk3 hz3 hv3 hn3 hb3)
              all_goals
                go_wp2
                go_roundw
                case rel => exact ⟨k + 1, f3, l3, z3, by omega, by go_num, rfl, HBK3.out, HPS3.out, (HB3.out.setCell (by simp) _).setCell (by simp) _⟩
                case measure => simp [intOf]; omega
          · have HPS := Lib.hid hps
            have HF := Lib.hid (show fb = true → k = (bodyL s.data.toList).length by
              intro h
              rcases hcase with ⟨_, h'⟩ | h'
              · rw [h] at h'; cases h'
              · rw [← HT.out]; simpa using h')
            have HPD := Lib.hid (PS.done HK.out HM.out (HT.out ▸ hps) HF.out)
            have HBE2 := Lib.hid (HBE.out.setCell (p := ⟨w.heap.size, 0, none⟩) (Nat.le_refl _) (.bool false))
            have SZZ := Lib.hid hps.1
            clear hps HPS HF
            rcases hcase with ⟨hlt, rfl⟩ | hke
            · have HNF := Lib.hid (HPD.out.2 rfl)
              clear HPD
              go_wp2_with fail
              refine (number_any (V := sval s.data.toList) _ SZZ.out (fun h => (by cases h)) (fun _ => HNF.out)).mono ?_
              rintro r w4 ⟨rfl, hb4⟩
              have HB4 := Lib.hid (HBE2.out.trans (hb4.mono HBE2.out.size))
              clear hb4
              go_wp2
              go_ret2
              exact ⟨ret2 PN.out.symm PE.out.symm, HB4.out⟩
            · subst hke
              go_wp2_with fail
              refine (number_any _ SZZ.out HPD.out.1 HPD.out.2).mono ?_
              rintro r w4 ⟨rfl, hb4⟩
              have HB4 := Lib.hid (HBE2.out.trans (hb4.mono HBE2.out.size))
              clear hb4
              go_wp2
              go_ret2
              exact ⟨ret2 PN.out.symm PE.out.symm, HB4.out⟩
    · obtain ⟨h00, hd0⟩ := HBT.out h0
      clear h0
      go_enter Try.func24, Try.ntmps24
      go_wp2_with fail
      refine (numeral_any t false _ HTS.out).mono ?_
      rintro r w' ⟨rfl, rfl⟩
      rw [show numB t.data.toList false = okL s.data.toList by rw [okL_num, HT.out, HM.out]]
      cases hk : okL s.data.toList
      · have PN := Lib.hid (parN_no hk)
        have PE := Lib.hid (parE_no hk)
        clear hk
        go_wp2
        go_ret2
        exact ⟨ret2 PN.out.symm PE.out.symm, Below.refl _ _⟩
      · have PN := Lib.hid (parN_ok hk)
        have PE := Lib.hid (parE_ok hk)
        have HK := Lib.hid hk
        have HALL := Lib.hid (show t.data.toList.all dig = true by
          have h := hk
          rw [okL_num, ← HT.out] at h
          unfold numB at h
          simp only [Bool.and_eq_true] at h
          exact h.1.1)
        clear hk
        go_wp2
        go_loopw [6, 7] (fun f i wr => ∃ (k : Nat) (fb lz : Bool) (z : Int), k ≤ t.size ∧ i = .int .i64 k ∧ f = .bool fb ∧ Blk wr w.heap.size 46 #[.bool lz, .int .u64 z] ∧ PS t.data.toList k fb lz z ∧ Below w.heap.size w wr) (fun _ i _ => t.size - (intOf i).toNat)
        case atStart => exact ⟨0, true, false, 0, Nat.zero_le _, rfl, rfl, Blk.new _ _ _, PS.start _, (Below.refl _ _).alloc (Nat.le_refl _) _⟩
        case round =>
          obtain ⟨k, fb, lz, z, hk, rfl, rfl, hblk, hps, hbel⟩ := hrel
          have c0 := hblk.cell' 0 _ rfl
          have c1 := hblk.cell' 1 _ rfl
          have f0 := hblk.frozen 0
          have f1 := hblk.frozen 1
          have hlb := hblk.lt
          have HBK := Lib.hid hblk
          have HBE := Lib.hid hbel
          clear hblk hbel
          have hcase : (k < t.size ∧ fb = true) ∨ (k < t.size ∧ fb = false) ∨ k = t.size := by
            rcases Nat.lt_or_ge k t.size with h | h
            · cases fb
              · exact .inr (.inl ⟨h, rfl⟩)
              · exact .inl ⟨h, rfl⟩
            · exact .inr (.inr (by omega))
          rcases hcase with ⟨hlt, rfl⟩ | hcase
          · have HG := Lib.hid (get_list hlt)
            have HD := Lib.hid (show dig t[k] = true from List.all_eq_true.1 HALL.out _ (List.mem_of_getElem? (get_list hlt)))
            have HDB := Lib.hid (dig_bd HD.out)
            have HPS := Lib.hid hps
            clear hps
            go_wp2_with fail
            refine (times_any lz false z 10 _ HPS.out.1 sz10).mono ?_
            rintro r w2 ⟨l2, z2, f2, rfl, hz2, hv2, hn2, hb2⟩
            have ht2 := PS.tens HPS.out HG.out hz2 hv2 hn2
            have hblk2 := HBK.out.below hb2 HBK.out.lt
            have HB2 := Lib.hid (HBE.out.trans (hb2.mono HBE.out.size))
            have HZ2 := Lib.hid hz2
            have HT2 := Lib.hid ht2
            have e0 := hblk2.cell' 0 _ rfl
            have e1 := hblk2.cell' 1 _ rfl
            have g0 := hblk2.frozen 0
            have g1 := hblk2.frozen 1
            have hlb2 := hblk2.lt
            have HBK2 := Lib.hid (ps_blk hblk2 l2 z2)
            clear hz2 hv2 hn2 hb2 ht2 hblk2
            cases f2
            · have HP2 := Lib.hid (HT2.out.2 rfl)
              clear HT2
              go_wp2
              go_roundw
              case rel => exact ⟨k + 1, false, l2, z2, by omega, by go_num, rfl, HBK2.out, HP2.out, (HB2.out.setCell (by simp) _).setCell (by simp) _⟩
              case measure => simp [intOf]; omega
            · have HV2 := Lib.hid (HT2.out.1 rfl)
              have hb48 := HDB.out
              obtain ⟨hb1, hb2⟩ := hb48
              clear HT2
              have HW8 := Lib.hid (wrap_dig hb1 hb2)
              have SW := Lib.hid (show Sz (IntKind.u64.wrap (IntKind.u8.wrap ((t[k].toNat : Int) - 48))) by rw [HW8.out]; exact ⟨by omega, by omega⟩)
              clear hb1 hb2
              have q0 := HBK2.out.cell' 0 _ rfl
              have q1 := HBK2.out.cell' 1 _ rfl
              have q2 := HBK2.out.frozen 0
              have q3 := HBK2.out.frozen 1
              have q4 := HBK2.out.lt
              have HW := Lib.hid (show Below w.heap.size w ((w2.setCell ⟨w.heap.size, 0, none⟩ (.bool l2)).setCell ⟨w.heap.size, 1, none⟩ (.int .u64 z2)) from (HB2.out.setCell (by simp) _).setCell (by simp) _)
              go_wp2_with fail
              obtain ⟨W2, hW2⟩ : ∃ W2, W2 = ((w2.setCell ⟨w.heap.size, 0, none⟩ (.bool l2)).setCell ⟨w.heap.size, 1, none⟩ (.int .u64 z2)) := ⟨_, rfl⟩
              rw [← hW2] at q0 q1 q2 q3 q4 HW HBK2 ⊢
              clear hW2 e0 e1 g0 g1 hlb2
              go_region_with (go_at_call 31; refine (plus_any l2 false z2 _ _ HZ2.out SW.out).mono ?_; rintro r w3 ⟨l3, z3, f3, rfl, hz3, hv3, hn3, hb3⟩; rw [HW8.out] at hv3 hn3; have hblk3 := HBK2.out.drew.below hb3 HBK2.out.lt; have p0 := hblk3.cell' 0 _ rfl; have p1 := hblk3.cell' 1 _ rfl; have p2 := hblk3.frozen 0; have p3 := hblk3.frozen 1; have p4 := hblk3.lt; have HBK3 := Lib.hid (ps_blk hblk3 l3 z3); have HPS3 := Lib.hid (PS.unit HV2.out HG.out HD.out hz3 hv3 hn3); have HB3 := Lib.hid (HW.out.drew.trans (hb3.mono HW.out.size)); clear hblk3 hz3 hv3 hn3 hb3)
              all_goals
                go_wp2
                go_roundw
                case rel => exact ⟨k + 1, f3, l3, z3, by omega, by go_num, rfl, HBK3.out, HPS3.out, (HB3.out.setCell (by simp) _).setCell (by simp) _⟩
                case measure => simp [intOf]; omega
          · have HPS := Lib.hid hps
            have HF := Lib.hid (show fb = true → k = (bodyL s.data.toList).length by
              intro h
              rcases hcase with ⟨_, h'⟩ | h'
              · rw [h] at h'; cases h'
              · rw [← HT.out]; simpa using h')
            have HPD := Lib.hid (PS.done HK.out HM.out (HT.out ▸ hps) HF.out)
            have HBE2 := Lib.hid (HBE.out.setCell (p := ⟨w.heap.size, 0, none⟩) (Nat.le_refl _) (.bool false))
            have SZZ := Lib.hid hps.1
            clear hps HPS HF
            rcases hcase with ⟨hlt, rfl⟩ | hke
            · have HNF := Lib.hid (HPD.out.2 rfl)
              clear HPD
              go_wp2_with fail
              refine (number_any (V := sval s.data.toList) _ SZZ.out (fun h => (by cases h)) (fun _ => HNF.out)).mono ?_
              rintro r w4 ⟨rfl, hb4⟩
              have HB4 := Lib.hid (HBE2.out.trans (hb4.mono HBE2.out.size))
              clear hb4
              go_wp2
              go_ret2
              exact ⟨ret2 PN.out.symm PE.out.symm, HB4.out⟩
            · subst hke
              go_wp2_with fail
              refine (number_any _ SZZ.out HPD.out.1 HPD.out.2).mono ?_
              rintro r w4 ⟨rfl, hb4⟩
              have HB4 := Lib.hid (HBE2.out.trans (hb4.mono HBE2.out.size))
              clear hb4
              go_wp2
              go_ret2
              exact ⟨ret2 PN.out.symm PE.out.symm, HB4.out⟩
end Go.Proofs.Ytbkliomiboekhaa
