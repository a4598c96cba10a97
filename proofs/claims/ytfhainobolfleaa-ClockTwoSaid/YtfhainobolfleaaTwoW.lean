/- ClockTwo: the walk. -/
import Derived.Test.YtfhainobolfleaaK
namespace Go.Proofs.Ytfhainobolfleaa
open Go.RowKit
set_option linter.unusedVariables false

theorem own_below {w w' : World} {B base : Nat} {e : TypeId} {size : Nat} {v : Value} {n : Nat} {xs : List Value} (h : w.ownsRow base e size v n xs) (hb : Below B w w') (hB : w.heap.size ≤ B) : w'.ownsRow base e size v n xs := by
  have hl := h.lt
  refine ⟨h.1, ?_⟩
  rcases h.2 with hn | ⟨g, cap, cur, rfl, hg, hh, rest⟩
  · exact .inl hn
  · exact .inr ⟨g, cap, cur, rfl, hg, (hb.block g (by have := (hl g rfl).2; omega)).trans hh, rest⟩

set_option maxRecDepth 100000 in
set_option maxHeartbeats 3200000 in
theorem clockTwoWalk (A0 : Option Addr) (c0 : Nat) (L0 : List Int) (A1 : Option Addr) (c1 : Nat) (L1 : List Int) (w : World) (rd0 : Rd w w.heap.size 1 intC A0 L0) (g0 : ∀ x ∈ L0, (Lit.int .i64 x).wf = true) (hc0 : L0.length ≤ c0) (hm0 : c0 ≤ maxLen) (rd1 : Rd w w.heap.size 1 intC A1 L1) (g1 : ∀ x ∈ L1, (Lit.int .i64 x).wf = true) (hc1 : L1.length ≤ c1) (hm1 : c1 ≤ maxLen) :
    Calls Try.prog 4 #[.slice A0 L0.length c0, .slice A1 L1.length c1] w fun e w' => e = .returned (.bool true) ∧ Below w.heap.size w w' := by
  obtain ⟨i0, hi0, hz0, hz1, hz2⟩ := info_parts info3
  obtain ⟨l0, hl0⟩ : ∃ l, l = L0.length := ⟨_, rfl⟩
  rw [← hl0] at hc0 ⊢
  have H0 := Lib.hid hl0
  have r0 := rd0
  obtain ⟨l1, hl1⟩ : ∃ l, l = L1.length := ⟨_, rfl⟩
  rw [← hl1] at hc1 ⊢
  have H1 := Lib.hid hl1
  have r1 := rd1
  have HC0 := Lib.hid hc0
  have HC1 := Lib.hid hc1
  have HM0 := Lib.hid hm0
  have HM1 := Lib.hid hm1
  clear hl0 rd0 hc0 hm0 hl1 rd1 hc1 hm1 g0 g1
  by_cases hb0 : 2000 < l0
  · have hb0i : (2000 : Int) < (l0 : Int) := by omega
    go_enter Try.func4, Try.ntmps4
    go_wp2
    go_ret
    exact ⟨rfl, Below.refl _ _⟩
  by_cases hb1 : 2000 < l1
  · have hb1i : (2000 : Int) < (l1 : Int) := by omega
    have hb0i : decide ((2000 : Int) < (l0 : Int)) = false := by simp; omega
    go_enter Try.func4, Try.ntmps4
    go_wp2
    go_ret
    exact ⟨rfl, Below.refl _ _⟩
  have hn0 : l0 ≤ 2000 := by omega
  have hn1 : l1 ≤ 2000 := by omega
  have HN0 := Lib.hid hn0
  have HN1 := Lib.hid hn1
  have hb0i : decide ((2000 : Int) < (l0 : Int)) = false := by simp; omega
  have hb1i : decide ((2000 : Int) < (l1 : Int)) = false := by simp; omega
  clear hb0 hb1
  go_enter Try.func4, Try.ntmps4
  go_wp2_with (first
    | (at_builtin; refine wpList_append_rd _ rfl (.tmp 18) (.tmp 19) 22 rfl w.heap.size 3 i0 (.int .i64 0) 1 8 Try.underlying22 hi0 hz0 hz1 hz2 rfl (by decide) (.slice none 0 0) 0 [] rfl (World.ownsRow_nil _ _ _ _) w.heap.size _ l0 _ intC intC_len intC_one L0 H0.out.symm rfl r0 (by unfold maxLen; omega) (by omega) (Nat.le_refl _) ?_; intro v1 w1 hown1 hg1 hx1; have hbx := (Below.refl w.heap.size w).grown hg1 (Nat.le_refl _) (by simp [Value.ownBlock]); clear hg1 hx1 hn0 hn1)
    | (at_builtin; refine wpList_append_rd _ rfl (.tmp 21) (.tmp 22) 22 rfl w1.heap.size 3 i0 (.int .i64 0) 1 8 Try.underlying22 hi0 hz0 hz1 hz2 rfl (by decide) (.slice none 0 0) 0 [] rfl (World.ownsRow_nil _ _ _ _) w.heap.size _ l1 _ intC intC_len intC_one L1 H1.out.symm rfl (r1.below hbx) (by have := HN1.out; unfold maxLen; omega) (by have := HN1.out; omega) (Nat.le_refl _) ?_; intro v2 w2 hown2 hg2 hx2; have hby := (Below.refl w1.heap.size w1).grown hg2 (Nat.le_refl _) (by simp [Value.ownBlock]); clear hg2 hx2))
  obtain ⟨Ax, cx, rfl, rx, hcx, hmx⟩ := own_rd intC_len (L := L0) (by rw [← H0.out]; simpa using hown1)
  obtain ⟨Ay, cy, rfl, ry, hcy, hmy⟩ := own_rd intC_len (L := L1) (by rw [← H1.out]; simpa using hown2)
  rw [← H0.out, ← H1.out]
  have hB2 : Below w.heap.size w w2 := hbx.trans (hby.mono hbx.size)
  have RX : Rd w2 w2.heap.size 1 intC Ax L0 := (rx.below hby).more hby.size
  have R0 : Rd w2 w2.heap.size 1 intC A0 L0 := (r0.below hB2).more hB2.size
  have R1 : Rd w2 w2.heap.size 1 intC A1 L1 := (r1.below hB2).more hB2.size
  obtain ⟨J, hJ⟩ : ∃ J, J = joinL L0 L1 := ⟨_, rfl⟩
  obtain ⟨m, hm⟩ : ∃ m, m = J.length := ⟨_, rfl⟩
  have hm9 : m ≤ 2000 := by
    rw [hm, hJ]
    exact Nat.le_trans (joinL_length _ _) (by rw [← H0.out, ← H1.out]; have := HN0.out; have := HN1.out; omega)
  obtain ⟨bw, hbw⟩ : ∃ b, b = leL L0 L1 := ⟨_, rfl⟩
  obtain ⟨bs, hbs⟩ : ∃ b, b = eqL L0 L1 := ⟨_, rfl⟩
  have HX := Lib.hid RX
  have HY := Lib.hid ry
  have HR0 := Lib.hid R0
  have HR1 := Lib.hid R1
  have HJ := Lib.hid hJ
  have HM := Lib.hid hm
  have HM9 := Lib.hid hm9
  have HBW := Lib.hid hbw
  have HBS := Lib.hid hbs
  have HB2 := Lib.hid hB2
  have hF : decide (formL (atN L0) L0.length = formL (atN L1) L1.length) = bs := (form_same L0 L1).trans hbs.symm
  have HF := Lib.hid hF
  clear hcx hmx hcy hmy hown1 hown2 rx ry hbx hby hB2 RX R0 R1 hJ hm hm9 hbw hbs r0 r1 hF
  go_wp2
  go_loopw [7] (fun i wr => ∃ t : Nat, t ≤ 2 ∧ i = .int .i64 t ∧ Below w2.heap.size w2 wr) (fun i _ => 2 - (intOf i).toNat)
  case atStart => exact ⟨0, by omega, rfl, Below.refl _ _⟩
  case round =>
    obtain ⟨t, ht, rfl, hB⟩ := hrel
    by_cases ht2 : t < 2
    · have ht2i : (t : Int) < 2 := by omega
      have HB := Lib.hid hB
      clear hB
      have tk : ∀ (A : Option Addr) (C : List Int) (W : World), Rd w2 w2.heap.size 1 intC A C → Below w2.heap.size w2 W → Rd W W.heap.size 1 intC A C := fun _ _ _ h hb => (h.below hb).more hb.size
      have HT := Lib.hid tk
      clear tk
      go_wp2_with fail
      refine (join_any Ax Ay l0 cx l1 cy L0 L1 wr H0.out.symm H1.out.symm (by have := HN0.out; omega) (by have := HN1.out; omega) (HT.out _ _ _ HX.out HB.out) (HT.out _ _ _ HY.out HB.out)).mono ?_
      rintro r w4 ⟨vo, rfl, hownO, hb4⟩
      rw [← HJ.out] at hownO
      have hB4 : Below w2.heap.size w2 w4 := HB.out.trans (hb4.mono HB.out.size)
      obtain ⟨Ao, co, rfl, hro, hxo⟩ := own_rd intC_len hownO
      rw [← HM.out] at hownO ⊢
      have HO := Lib.hid hownO
      have HRO := Lib.hid hro
      have HB4 := Lib.hid hB4
      clear hxo hownO hro hB4 hb4
      go_wp2_with fail
      refine (refJoin_any A0 A1 l0 c0 l1 c1 L0 L1 w4 H0.out.symm H1.out.symm (HT.out _ _ _ HR0.out HB4.out) (HT.out _ _ _ HR1.out HB4.out) (by have := HN0.out; omega) (by have := HN1.out; omega)).mono ?_
      rintro r w5 ⟨vo, rfl, hownP, hb5⟩
      rw [← HJ.out] at hownP
      have hB5 : Below w2.heap.size w2 w5 := HB4.out.trans (hb5.mono HB4.out.size)
      obtain ⟨Ap, cp, rfl, hrp, hxp⟩ := own_rd intC_len hownP
      rw [← HM.out]
      have HO5 := Lib.hid (own_below HO.out hb5 (Nat.le_refl _))
      have HRO5 := Lib.hid ((HRO.out.below hb5).more hb5.size)
      have HRP := Lib.hid hrp
      have HB5 := Lib.hid hB5
      clear hownP hb5 hB5 hrp hxp HO HRO HB4
      go_wp2_with fail
      have hs1 := refSame_any Ao Ap m co m cp w5.heap.size J J w5 HM.out.symm HM.out.symm HRO5.out HRP.out (by have := HM9.out; omega)
      rw [decide_eq_true rfl] at hs1
      refine hs1.mono ?_
      rintro r w' ⟨rfl, n1, rfl⟩
      clear hs1
      go_wp2_with fail
      refine (leL_any Ax Ay l0 cx l1 cy L0 L1 (w5.drewN n1) H0.out.symm H1.out.symm (by have := HN0.out; have := HN1.out; omega) (HT.out _ _ _ HX.out (below_drewN HB5.out n1)) (HT.out _ _ _ HY.out (below_drewN HB5.out n1))).mono ?_
      rintro r w6 ⟨rfl, hb6⟩
      rw [← HBW.out]
      have HO6 := Lib.hid (own_below (w := w5.drewN n1) HO5.out hb6 (Nat.le_refl _))
      have HB6 := Lib.hid ((below_drewN HB5.out n1).trans (hb6.mono (below_drewN HB5.out n1).size))
      clear hb6 HO5 HRO5 HRP HB5
      go_wp2_with fail
      refine (refWithin_any A0 A1 l0 c0 l1 c1 w6.heap.size L0 L1 w6 H0.out.symm H1.out.symm (HT.out _ _ _ HR0.out HB6.out) (HT.out _ _ _ HR1.out HB6.out) (by have := HN0.out; omega) (by have := HN1.out; omega)).mono ?_
      rintro r w' ⟨rfl, n2, rfl⟩
      rw [← HBW.out]
      have z1 : (bw != bw) = false := by simp
      go_wp2_with fail
      refine (eqL_any Ax Ay l0 cx l1 cy L0 L1 (w6.drewN n2) H0.out.symm H1.out.symm (by have := HN0.out; have := HN1.out; omega) (HT.out _ _ _ HX.out (below_drewN HB6.out n2)) (HT.out _ _ _ HY.out (below_drewN HB6.out n2))).mono ?_
      rintro r w7 ⟨rfl, hb7⟩
      rw [← HBS.out]
      have HO7 := Lib.hid (own_below (w := w6.drewN n2) HO6.out hb7 (Nat.le_refl _))
      have HB7 := Lib.hid ((below_drewN HB6.out n2).trans (hb7.mono (below_drewN HB6.out n2).size))
      clear hb7 HO6 HB6
      go_wp2_with fail
      refine (refForm_any A0 l0 c0 L0 w7 H0.out.symm HC0.out (by have := HN0.out; omega) HM0.out (HT.out _ _ _ HR0.out HB7.out)).mono ?_
      rintro r w8 ⟨va, rfl, howna, hb8⟩
      obtain ⟨F0, hF0⟩ : ∃ F, F = formL (atN L0) l0 := ⟨_, rfl⟩
      rw [← hF0] at howna
      obtain ⟨Aa, ca, rfl, hra, _⟩ := own_rd intC_len howna
      have HO8 := Lib.hid (own_below HO7.out hb8 (Nat.le_refl _))
      have HB8 := Lib.hid (HB7.out.trans (hb8.mono HB7.out.size))
      clear hb8 HO7 HB7 howna
      obtain ⟨ma, hma⟩ : ∃ q, q = F0.length := ⟨_, rfl⟩
      rw [← hma]
      have HMA := Lib.hid hma
      have HF0 := Lib.hid hF0
      have HRA := Lib.hid hra
      clear hma hF0 hra
      go_wp2_with fail
      refine (refForm_any A1 l1 c1 L1 w8 H1.out.symm HC1.out (by have := HN1.out; omega) HM1.out (HT.out _ _ _ HR1.out HB8.out)).mono ?_
      rintro r w9 ⟨vb, rfl, hownb, hb9⟩
      obtain ⟨F1, hF1⟩ : ∃ F, F = formL (atN L1) l1 := ⟨_, rfl⟩
      rw [← hF1] at hownb
      obtain ⟨Ab, cb, rfl, hrb, _⟩ := own_rd intC_len hownb
      have HO9 := Lib.hid (own_below HO8.out hb9 (Nat.le_refl _))
      have HB9 := Lib.hid (HB8.out.trans (hb9.mono HB8.out.size))
      have HRA9 := Lib.hid ((HRA.out.below hb9).more hb9.size)
      clear hb9 HO8 HB8 hownb HRA
      obtain ⟨mb, hmb⟩ : ∃ q, q = F1.length := ⟨_, rfl⟩
      rw [← hmb]
      have HMB := Lib.hid hmb
      have HF1 := Lib.hid hF1
      have HRB := Lib.hid hrb
      clear hmb hF1 hrb
      go_wp2_with fail
      have hs2 := refSame_any Aa Ab ma ca mb cb w9.heap.size F0 F1 w9 HMA.out.symm HMB.out.symm HRA9.out HRB.out (by rw [HMA.out, HF0.out, formL_length]; have := trim_le (atN L0) l0; have := HN0.out; omega)
      rw [show decide (F0 = F1) = bs from by rw [HF0.out, HF1.out, H0.out, H1.out]; exact HF.out] at hs2
      refine hs2.mono ?_
      rintro r w' ⟨rfl, n3, rfl⟩
      clear hs2
      have z2 : (bs != bs) = false := by simp
      go_wp2_with fail
      have hs3 := refSame_any Ax A0 l0 cx l0 c0 (w9.drewN n3).heap.size L0 L0 (w9.drewN n3) H0.out.symm H0.out.symm (HT.out _ _ _ HX.out (below_drewN HB9.out n3)) (HT.out _ _ _ HR0.out (below_drewN HB9.out n3)) (by have := HN0.out; omega)
      rw [decide_eq_true rfl] at hs3
      refine hs3.mono ?_
      rintro r w' ⟨rfl, n4, rfl⟩
      clear hs3
      go_wp2_with fail
      have hs4 := refSame_any Ay A1 l1 cy l1 c1 (w9.drewN (n3 + n4)).heap.size L1 L1 (w9.drewN (n3 + n4)) H1.out.symm H1.out.symm (HT.out _ _ _ HY.out (below_drewN HB9.out (n3 + n4))) (HT.out _ _ _ HR1.out (below_drewN HB9.out (n3 + n4))) (by have := HN1.out; omega)
      rw [decide_eq_true rfl] at hs4
      refine hs4.mono ?_
      rintro r w' ⟨rfl, n5, rfl⟩
      clear hs4
      have HB10 := Lib.hid (below_drewN HB9.out (n3 + n4 + n5))
      go_wp2
      go_loopw [9] (fun i wq => ∃ (k : Nat) (xs : List Value), k ≤ m ∧ i = .int .i64 k ∧ wq.ownsRow wr.heap.size 3 1 (.slice Ao m co) m xs ∧ Below w2.heap.size w2 wq) (fun i _ => m - (intOf i).toNat)
      case atStart => exact ⟨0, _, by omega, rfl, HO9.out, HB10.out⟩
      case round =>
        obtain ⟨k, xs, hk, rfl, hox, hBx⟩ := hrel
        by_cases hkm : k < m
        · have hform : ∃ go, Ao = some ⟨go, 0, none⟩ := by
            rcases hox.2 with ⟨_, h0⟩ | ⟨go, cap, _, hv, _⟩
            · omega
            · cases hv; exact ⟨go, rfl⟩
          obtain ⟨go, rfl⟩ := hform
          have hxl := hox.1
          obtain ⟨u, hu⟩ : ∃ u, xs[k]? = some u := ⟨xs[k]'(by omega), List.getElem?_eq_getElem (by omega)⟩
          have hcell := hox.cellAt k (by omega)
          rw [hu] at hcell
          have hfr := hox.frozenAt k
          have hst := hox.stored k (.int .i64 (-9))
          have hB6 := hBx.setCell (p := ⟨go, k, none⟩) (by have := (hox.lt go rfl).1; have := HB.out.size; show w2.heap.size ≤ go; omega) (.int .i64 (-9))
          have HST := Lib.hid hst.1
          have HB6 := Lib.hid hB6
          have hmm := HM9.out
          have hkmi : (k : Int) < (m : Int) := by omega
          clear hst hB6 hxl hu hox hBx
          go_wp2
          go_roundw
          case rel => exact ⟨k + 1, _, by omega, by go_num, HST.out, HB6.out⟩
          case measure => simp [intOf] <;> omega
        · obtain rfl : k = m := by omega
          go_wp2
          go_roundw
          case rel => exact ⟨t + 1, by omega, by go_num, hBx⟩
          case measure => simp [intOf] <;> omega
    · obtain rfl : t = 2 := by omega
      go_wp2
      go_ret
      exact ⟨rfl, HB2.out.trans (hB.mono HB2.out.size)⟩
end Go.Proofs.Ytfhainobolfleaa
