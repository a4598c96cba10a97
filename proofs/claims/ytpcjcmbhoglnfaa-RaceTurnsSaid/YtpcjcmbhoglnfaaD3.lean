/- Race: the contract of the detector's does: a join. -/
import Derived.Test.YtpcjcmbhoglnfaaD1
import Derived.StillTailTactics
import Derived.Deep.RegionHeld3
namespace Go.Proofs.Ytpcjcmbhoglnfaa
open Go.RowKit Go.ChangeMaps Go.MapKept
set_option linter.unusedVariables false
set_option linter.unusedSimpArgs false

set_option maxRecDepth 100000 in
set_option maxHeartbeats 12800000 in
theorem ddoes_join {w : World} {B gd gm N gT n cT : Nat} {vK : Value} {xT xK : List Value} {f : Value → Option Value} {D : Det} (x : Ev) (l : Nat) (hk : x.kind = 8) (j : Nat) (C2 : List Int) (hj : x.id = j) (hC2 : D.T[j]? = some C2) (t : Nat) (C : List Int) (ht : x.thread = t) (hC : D.T[t]? = some C) (wi : (Lit.int .i64 x.id).wf = true)
    (hd : DSx w B gd gm N (.slice (some ⟨gT, 0, none⟩) n cT) vK xT xK f D) (hn : D.T.length = n) (ok : DetOk D) :
    Calls Try.prog 29 #[.pointer (some ⟨gd, 0, none⟩), .agg #[.int .u8 8, .int .i64 t, .int .i64 x.id, .slice x.pa l x.pc]] w (DDP w B gd N D x) := by
  have hl : t < n := by rw [← hn]; exact (List.getElem?_eq_some_iff.1 hC).1
  have hn7 : n ≤ 70000 := by rw [← hn]; exact ok.n1
  have hti : (t : Int) < (n : Int) := by omega
  have ht0 : (0 : Int) ≤ (t : Int) := by omega
  have hM : Mid w B gd gm N gT n cT vK xT xK f D w.heap.size x l (w.alloc (.cells (evA x l) 26)) :=
    ⟨hd.below ((Below.refl _ w).alloc (Nat.le_refl _) _), hn, Blk.new w 26 _, .of_below ((Below.refl _ w).alloc (Nat.le_refl _) _), (Below.refl B w).alloc hd.base _⟩
  obtain ⟨A, cc, hrow, hrd0⟩ := hd.row hn hC
  have hrd : Rd (w.alloc (.cells (evA x l) 26)) (w.alloc (.cells (evA x l) 26)).heap.size 1 intC A C := (hrd0.alloc (Nat.le_refl _) _).more (by simp)
  have hlen : C.length ≤ 65536 := ok.lT C (List.mem_of_getElem? hC)
  obtain ⟨W0, hW0⟩ : ∃ W0, W0 = w.alloc (.cells (evA x l) 26) := ⟨_, rfl⟩
  have hrow0 : W0.cell? ⟨gT, t, none⟩ = some (.slice A C.length cc) := by
    rw [hW0]
    exact (World.cell?_alloc_lt w _ ⟨gT, t, none⟩ (own_ty hd.oT rfl).lt).trans hrow
  rw [← hW0] at hM hrd
  have htick := tick_any A C.length cc C t W0.drew rfl (by omega) hrd
  obtain ⟨c0, hc0⟩ : ∃ c, c = C.length := ⟨_, rfl⟩
  rw [← hc0] at hrow0 htick
  have HTK := Lib.hid htick
  have HM := Lib.hid hM
  have HOK := Lib.hid ok
  have HC := Lib.hid hC
  have HT := Lib.hid ht
  have HWI := Lib.hid wi
  have HL := Lib.hid hlen
  obtain ⟨a0, a1, a2, b0, b1, b2⟩ := hM.cells
  unfold evA at hW0
  rw [ht] at b1 hW0
  have HW0 := Lib.hid hW0
  have hD : dStep D x = { T := D.T.set t (joinL (tickL C t) C2), O := D.O, K := D.K ++ [joinL (tickL C t) C2] } := by
    unfold dStep
    have e1 : D.T.getD x.thread.toNat [] = C := by rw [ht, Int.toNat_natCast, List.getD_eq_getElem?_getD, hC]; rfl
    have e2 : x.thread.toNat = t := by rw [ht]; rfl
    simp only [e1, e2, ht, hk, hj]
    simp [hC, hC2]
  have HD := Lib.hid hD
  clear hD
  have HJ := Lib.hid hj
  have HC2 := Lib.hid hC2
  have HKD := Lib.hid hk
  have hjn : j < n := by rw [← hn]; exact (List.getElem?_eq_some_iff.1 hC2).1
  have hji : (j : Int) < (n : Int) := by omega
  have hj0 : (0 : Int) ≤ (j : Int) := by omega
  have hlen2 : C2.length ≤ 65536 := ok.lT C2 (List.mem_of_getElem? hC2)
  have HL2 := Lib.hid hlen2
  rw [hk] at b0
  rw [hk] at hW0
  have HW0 := Lib.hid hW0
  clear hk hj hC2 hlen2 hM htick hd hC ht ok wi hlen hc0 hrd hrd0 hW0 hrow
  go_enter Try.func29, Try.ntmps29
  go_wp2
  rw [← HW0.out]
  go_still_tail 10, (by kernel_rfl)
  go_wp2_with fail
  refine HTK.out.mono ?_
  rintro r W1 ⟨v, rfl, hv, hb1⟩
  have hck := Ck.made hv
  obtain ⟨Av, lv, cv, rfl, hlv⟩ := hck.form
  have HLV := Lib.hid hlv
  have HCK := Lib.hid hck
  clear hck hlv
  have HM1 := Lib.hid (HM.out.drew.below hb1)
  clear hv hb1 a0 a1 a2 b0 b1 b2 hrow0 HTK HM HW0
  obtain ⟨a0, a1, a2, b0, b1, b2⟩ := HM1.out.cells
  rw [HT.out] at b1
  rw [HJ.out] at b2
  rw [HKD.out] at b0
  obtain ⟨Ao, co, orow, hrd2⟩ := HM1.out.d.row HM1.out.n HC2.out
  obtain ⟨ol, hol⟩ : ∃ m, m = C2.length := ⟨_, rfl⟩
  rw [← hol] at orow
  obtain ⟨Ax, cx, hvx, hrd1⟩ := HCK.out.rd
  rw [Value.slice.injEq] at hvx
  obtain ⟨rfl, hlx, rfl⟩ := hvx
  have hjoin := join_any Av Ao lv cv ol co (tickL C t) C2 W1.drew hlx.symm hol.symm (by rw [hlx]; have := tick_len C t HL.out; omega) (by have := HL2.out; omega) hrd1 hrd2
  have HJN := Lib.hid hjoin
  clear hjoin hrd1 hrd2 hol hlx
  go_wp2
  go_still_tail 9, (by kernel_rfl)
  go_wp2_with fail
  refine HJN.out.mono ?_
  rintro r W1b ⟨v, rfl, hv, hb1⟩
  have hck := Ck.made hv
  obtain ⟨Av2, lv2, cv2, rfl, hlv⟩ := hck.form
  have HLV2 := Lib.hid hlv
  have HCK2 := Lib.hid hck
  have HM1b := Lib.hid (HM1.out.drew.below hb1)
  clear hck hlv hv hb1 a0 a1 a2 b0 b1 b2 orow HJN HM1 HCK HLV
  obtain ⟨a0, a1, a2, b0, b1, b2⟩ := HM1b.out.cells
  rw [HT.out] at b1
  rw [HKD.out] at b0
  obtain ⟨Ao, co, orow, _⟩ := HM1b.out.d.row HM1b.out.n HC.out
  obtain ⟨ol, hol⟩ : ∃ m, m = C.length := ⟨_, rfl⟩
  rw [← hol] at orow
  clear hol
  have ofz : W1b.frozen? ⟨gT, t, none⟩ = false := own_frz HM1b.out.d.oT HM1b.out.n t
  go_wp2
  go_region
  obtain ⟨W2, hW2⟩ : ∃ W2, W2 = (W1b.setCell ⟨gT, t, none⟩ (.slice Av2 lv2 cv2)).drew := ⟨_, rfl⟩
  have h2 := HM1b.out.fin1 t HCK2.out
  have hM2 := h2.1.drew
  have hck2 := h2.2.keep (KeepU.of_below (Below.refl _ _).drew)
  rw [← hW2] at hM2 hck2 ⊢
  have HMz := Lib.hid hM2
  have HCKz := Lib.hid hck2
  obtain ⟨i0, hi0, hz0, hz1, hz2⟩ := info_parts info24
  have hk1 := HOK.out.k1
  have hBW := hM2.d.base
  clear hW2 hM2 hck2 h2 a0 a1 a2 b0 b1 b2 orow ofz HM1b HCK2
  obtain ⟨a0, a1, a2, b0, b1, b2⟩ := HMz.out.cells
  go_wp2_with (at_builtin; (refine wpList_append_rd _ rfl _ _ 62 rfl B 24 i0 (.slice none 0 0) 1 24 Try.underlying62 hi0 hz0 hz1 hz2 rfl (by decide) vK D.K.length xK rfl (HMz.out.d.oK.alloc _) (W2.heap.size + 1) _ 1 _ slC slC_len slC_one [(Av2, lv2, cv2)] rfl rfl (Rd.slot W2 Av2 lv2 cv2 24) ?c3 ?c4 ?c5 ?_))
  case c3 => unfold maxLen; omega
  case c4 => omega
  case c5 => first | omega | (simp; omega)
  intro v' w3 hown' hg hx
  rw [show slC (Av2, lv2, cv2) = [Value.slice Av2 lv2 cv2] from rfl] at hown'
  obtain ⟨g', cap', rfl⟩ := own_succ hown'
  have hd3 := (HMz.out.d.below ((Below.refl _ W2).alloc (Nat.le_refl _) (.cells #[.slice Av2 lv2 cv2] 24))).appK (HCKz.out.keep (KeepU.of_below ((Below.refl _ W2).alloc (Nat.le_refl _) (.cells #[.slice Av2 lv2 cv2] 24)))) hg (by rw [World.size_alloc]; exact hx) hown'
  have q2 := hd3.2.2.2.1
  have q3 := hd3.2.2.2.2
  have HK3 := Lib.hid (HMz.out.k.trans ((KeepU.of_below ((Below.refl _ W2).alloc (Nat.le_refl _) (.cells #[.slice Av2 lv2 cv2] 24))).trans hd3.2.1))
  have HB3 := Lib.hid ((HMz.out.b.trans ((Below.refl B W2).alloc hBW (.cells #[.slice Av2 lv2 cv2] 24))).trans hd3.2.2.1)
  have HD3 := Lib.hid hd3.1
  clear hd3 hown' hg hx a0 a1 a2 b0 b1 b2
  go_wp2
  go_end0
  unfold DDP
  rw [HD.out]
  exact ⟨rfl, ⟨_, _, _, _, _, _, HD3.out.mono (by omega)⟩, HK3.out, HB3.out⟩
end Go.Proofs.Ytpcjcmbhoglnfaa
