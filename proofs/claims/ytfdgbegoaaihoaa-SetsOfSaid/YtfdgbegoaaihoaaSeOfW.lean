/- Sets: walk of SetsOf. -/
import Derived.Test.YtfdgbegoaaihoaaSeMaW
import Derived.Deep.DeepCutAuto
import Derived.Laws.OwnMore
import Derived.Test.YtfdgbegoaaihoaaSeO
namespace Go.Proofs.Ytfdgbegoaaihoaa
open Go.RowKit
set_option linter.unusedVariables false
set_option linter.unusedSimpArgs false

set_option maxHeartbeats 6400000 in
theorem setsOf_walk (x0 : Nm) (n0 : Nat) (a1 : ByteArray) (w : World) (g0 : NmOk w x0 n0) (s0 : ∀ s ∈ x0.row, s.length ≤ maxLen) (i1 : a1.size ≤ maxLen) :
    Calls Try.prog 6 #[.slice x0.pa n0 x0.pc, .string a1] w fun r w' => r = .returned (.bool true) ∧ Below w.heap.size w w' := by
  obtain ⟨i0, hi0, hz0, hz1, hz2⟩ := info_parts infoS
  obtain ⟨nm, hnm⟩ : ∃ s : Bs, a1 = enc s := ⟨_, (enc_of a1).symm⟩
  subst hnm
  clear i1
  obtain ⟨m0, hm0⟩ : ∃ b, manyB x0.row = b := ⟨_, rfl⟩
  have M0 := Lib.hid (many_any x0 n0 w g0 s0 m0 hm0)
  cases m0
  · have hn0 : n0 ≤ 60 := short_row g0 hm0
    have H0 := Lib.hid g0
    have HL := Lib.hid g0.ln
    have HRD := Lib.hid (g0.rd.alloc (Nat.le_refl _) (.cells #[] 9))
    have BL := Lib.hid (show x0.row.length ≤ 60 by rw [g0.ln]; exact hn0)
    have hown0 := World.ownsRow_lit (base := w.heap.size) (e := 9) (size := 1) w #[] 0 (Nat.le_refl _) (by unfold maxLen; omega) rfl
    have HO0 := Lib.hid hown0
    obtain ⟨hb, hhb⟩ : ∃ b, hasS x0.row nm = b := ⟨_, rfl⟩
    have HHB := Lib.hid hhb
    clear g0 s0 hm0 hown0 hhb
    go_enter Try.func6, Try.ntmps6
    go_wp2_with fail
    refine M0.out.mono ?_
    rintro r wq ⟨rfl, hwe⟩
    have hwe' := hwe.symm
    subst hwe'
    clear hwe
    go_upto_region 4 with (at_builtin; refine wpList_append_rd _ rfl _ _ 22 rfl w.heap.size 9 i0 (.string ByteArray.empty) 1 16 Try.underlying22 hi0 hz0 hz1 hz2 rfl (by decide) _ 0 _ rfl HO0.out _ _ n0 x0.pc sC sC_len sC_one x0.row HL.out rfl HRD.out (by unfold maxLen; omega) (by omega) (by simp) ?_; intro v1 w1 hown1 hg1 _)
    have hb1 : Below w.heap.size w w1 := ((Below.refl w.heap.size w).alloc (Nat.le_refl _) (.cells #[] 9)).grown hg1 (by simp) (fun k hk => by cases hk; exact Nat.le_refl _)
    obtain ⟨y, rfl, hy, hyo⟩ := NmOwn.of (show w1.ownsRow w.heap.size 9 1 v1 n0 (x0.row.flatMap sC) by simpa using hown1)
    have HY := Lib.hid hyo.ok
    have EY := Lib.hid hy
    have H1 := Lib.hid (H0.out.next hb1)
    have K1 := Lib.hid hb1
    have hs1 := hb1.size
    clear hown1 hg1 hb1 hy hyo
    go_wp2_with fail
    refine (of_any y n0 _ HY.out (by omega)).mono ?_
    rintro r w2 ⟨z, nu, rfl, ez, oz, q2⟩
    have EZ := Lib.hid (ez.trans (congrArg setS EY.out))
    have HZO2 := Lib.hid oz
    have HY2 := Lib.hid (HY.out.next q2)
    have H2 := Lib.hid (H1.out.next q2)
    have K2 := Lib.hid q2
    clear ez oz q2
    go_wp2_with fail
    refine (rof_any x0 n0 _ H2.out (by omega)).mono ?_
    rintro r w3 ⟨v, nv, rfl, ev, ov, q3⟩
    have EV := Lib.hid ev
    have HV := Lib.hid ov.ok
    have HZO3 := Lib.hid (HZO2.out.next q3)
    have HY3 := Lib.hid (HY2.out.next q3)
    have H3 := Lib.hid (H2.out.next q3)
    have K3 := Lib.hid (K2.out.trans (q3.mono K2.out.size))
    clear ev ov q3
    go_wp2_with fail
    refine (rsame_yes z v nu nv _ HZO3.out.ok HV.out (EZ.out.trans EV.out.symm)).mono ?_
    rintro r w4 ⟨rfl, q4⟩
    have HZO4 := Lib.hid (HZO3.out.next q4)
    have HY4 := Lib.hid (HY3.out.next q4)
    have H4 := Lib.hid (H3.out.next q4)
    have K4 := Lib.hid (K3.out.trans (q4.mono K3.out.size))
    clear q4
    go_wp2_with fail
    refine (has_bool y n0 nm (b := hb) (by rw [EY.out]; exact HHB.out) _ HY4.out (by omega)).mono ?_
    rintro r w5 ⟨rfl, q5⟩
    have HZO5 := Lib.hid (HZO4.out.next q5)
    have HY5 := Lib.hid (HY4.out.next q5)
    have H5 := Lib.hid (H4.out.next q5)
    have K5 := Lib.hid (K4.out.trans (q5.mono K4.out.size))
    clear q5
    go_wp2_with fail
    refine (rhas_bool x0 n0 nm HHB.out _ H5.out (by omega)).mono ?_
    rintro r w6 ⟨rfl, hwe⟩
    have hwe' := hwe.symm
    subst hwe'
    clear hwe
    have hnu : nu ≤ 60 := by
      have h1 := HZO5.out.ln
      rw [EZ.out] at h1
      have h2 := setS_len x0.row
      have h3 := BL.out
      omega
    obtain ⟨Az, cz, Z⟩ := z
    have HZO := Lib.hid (show w5.ownsRow w1.heap.size 9 1 (.slice Az nu cz) nu (Z.flatMap sC) from HZO5.out.own)
    clear HZO2 HZO3 HZO4 HZO5
    have hbb : (hb == hb) = true := by simp
    dsimp only at *
    go_wp2
    go_loopw [8] (fun i wr => ∃ (k : Nat) (xs : List Value), k ≤ nu ∧ i = .int .i64 k ∧ wr.ownsRow w1.heap.size 9 1 (.slice Az nu cz) nu xs ∧ Below w1.heap.size w1 wr) (fun i _ => nu - (intOf i).toNat)
    case atStart => exact ⟨0, _, by omega, rfl, HZO.out, K5.out⟩
    case round =>
      obtain ⟨k, xs, hk, rfl, hown, hbl⟩ := hrel
      have HO := Lib.hid hown
      have HB := Lib.hid hbl
      have hxl := hown.1
      by_cases hlt : k < nu
      · have hki : (k : Int) < (nu : Int) := by omega
        obtain ⟨u, hu⟩ : ∃ u, xs[k]? = some u := ⟨_, List.getElem?_eq_getElem (by omega)⟩
        obtain ⟨g, rfl⟩ : ∃ g, Az = some ⟨g, 0, none⟩ := by
          rcases hown.2 with ⟨h1, h2⟩ | ⟨g, cap, cur, h1, _⟩
          · omega
          · injection h1 with h1
            exact ⟨g, h1⟩
        have c0 := (hown.cellAt k (by omega)).trans hu
        have f0 := hown.frozenAt k
        have HO2 := Lib.hid (hown.stored k (.string ⟨#[63]⟩)).1
        have HB2 := Lib.hid (hbl.setCell (p := ⟨g, k, none⟩) (hown.lt g rfl).1 (.string ⟨#[63]⟩))
        clear hown hbl hxl hu
        go_wp2
        go_roundw
        case rel => exact ⟨k + 1, _, by omega, by go_num, HO2.out, HB2.out⟩
        case measure => simp [intOf] <;> omega
      · obtain rfl : k = nu := by omega
        have HYr := Lib.hid (show NmOk wr y n0 from ⟨(HY.out.rd.below hbl).more hbl.size, HY.out.ln, HY.out.cap, HY.out.big⟩)
        have Hr := Lib.hid (show NmOk wr x0 n0 from ⟨(H1.out.rd.below hbl).more hbl.size, H1.out.ln, H1.out.cap, H1.out.big⟩)
        have Kr := Lib.hid (K1.out.trans (hbl.mono hs1))
        clear hown hbl hxl
        go_wp2_with fail
        refine (rsame_yes y x0 n0 n0 _ HYr.out Hr.out EY.out).mono ?_
        rintro r w7 ⟨rfl, q7⟩
        have K7 := Lib.hid (Kr.out.trans (q7.mono Kr.out.size))
        clear q7
        go_wp2_with fail
        refine (awake_yes _).mono ?_
        rintro r w8 ⟨rfl, q8⟩
        have K8 := Lib.hid (K7.out.trans (q8.mono K7.out.size))
        clear q8
        go_wp2
        go_ret
        exact ⟨rfl, K8.out⟩
  · clear g0 s0 hm0
    go_enter Try.func6, Try.ntmps6
    go_wp2_with fail
    refine M0.out.mono ?_
    rintro r _ ⟨rfl, rfl⟩
    go_wp2
    go_ret
    exact ⟨rfl, Below.refl _ _⟩

end Go.Proofs.Ytfdgbegoaaihoaa
