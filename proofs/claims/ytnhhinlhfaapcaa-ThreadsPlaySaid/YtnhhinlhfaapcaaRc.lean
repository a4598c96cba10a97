/- Threads: the document's Close. -/
import Derived.Test.YtnhhinlhfaapcaaRo
namespace Go.Proofs.Ytnhhinlhfaapcaa
open Go.RowKit
set_option linter.unusedVariables false
set_option linter.unusedSimpArgs false

def rClsBad (R : RTab) (n : Int) : Bool := (rat R n).ended || decide ((rat R n).opn.length = 0) || rWaits R n
def rCls (R : RTab) (n : Int) : RTab := if rClsBad R n then R else rset R n.toNat { R.th n.toNat with opn := (R.th n.toNat).opn.dropLast }
def rClsP (R : RTab) (n : Int) : Bool := if rClsBad R n then false else (rMem R n).any fun m => (R.th m).pan
set_option maxRecDepth 100000 in
set_option maxHeartbeats 12000000 in
theorem r_close (g B : Nat) (O : Nat → Value) (R : RTab) (n : Int) (w : World) (h : RTabO w B g O R) (hN : R.n ≤ 1000) (hop : ∀ i, i < R.n → (R.th i).opn.length ≤ 1000) :
    Calls Try.prog 27 #[.pointer (some ⟨g, 0, none⟩), .int .i64 n] w fun r w' => r = .returned (.tuple #[.bool (rClsP R n), .int .i64 (if rClsBad R n then 2 else 0)]) ∧ RLeft w B g O R (rCls R n) w' := by
  have hop' : ∀ i, i < R.n → (R.th i).opn.length ≤ 1000000 := fun i hi => Nat.le_trans (hop i hi) (by omega)
  have HR := Lib.hid (r_runs g B O R n w h)
  have HD := Lib.hid (r_depth g B O R n w h)
  have HW := Lib.hid (r_waits g B O R n w h hN hop')
  have HBAD := Lib.hid (show rClsBad R n = true → ∀ w', Below w.heap.size w w' → (rClsP R n = false ∧ RLeft w B g O R (rCls R n) w') from fun hb w' hB => ⟨by unfold rClsP; rw [hb]; rfl, by unfold rCls; rw [hb]; exact RLeft.same h hB⟩)
  cases he : (rat R n).ended
  rotate_left
  · have HB := Lib.hid (show rClsBad R n = true by unfold rClsBad; rw [he]; rfl)
    rw [he] at HR
    obtain ⟨hp, hl⟩ := HBAD.out HB.out w (Below.refl _ _)
    have HL := Lib.hid hl
    rw [hp, HB.out]
    clear h he hop hl hp hop'
    go_enter Try.func27, Try.ntmps27
    go_wp2_with fail
    refine HR.out.mono ?_
    rintro r w1 ⟨rfl, rfl⟩
    go_wp2
    go_ret2
    exact ⟨rfl, HL.out⟩
  rw [he] at HR
  obtain ⟨i, rfl, hi, hxx⟩ := r_no he
  clear hxx
  obtain ⟨d, hd⟩ : ∃ d, (rat R i).opn.length = d := ⟨_, rfl⟩
  rw [hd] at HD
  by_cases hz : d = 0
  · subst hz
    have HB := Lib.hid (show rClsBad R i = true by unfold rClsBad; rw [he, hd]; rfl)
    obtain ⟨hp, hl⟩ := HBAD.out HB.out w (Below.refl _ _)
    have HL := Lib.hid hl
    rw [hp, HB.out]
    clear h he hop hl hp hd hop'
    go_enter Try.func27, Try.ntmps27
    go_wp2_with fail
    refine HR.out.mono ?_
    rintro r w1 ⟨rfl, rfl⟩
    go_wp2_with fail
    refine HD.out.mono ?_
    rintro r w1 ⟨rfl, rfl⟩
    go_wp2
    go_ret2
    exact ⟨rfl, HL.out⟩
  have hdI : ¬ (d : Int) = 0 := by omega
  have hde : ((d : Int) == 0) = false := beq_eq_false_iff_ne.2 hdI
  cases hw : rWaits R i
  rotate_left
  · have HB := Lib.hid (show rClsBad R i = true by unfold rClsBad; rw [he, hw]; simp)
    rw [hw] at HW
    obtain ⟨hp, _⟩ := HBAD.out HB.out w (Below.refl _ _)
    rw [hp, HB.out]
    clear h he hop hp hd hw hop'
    go_enter Try.func27, Try.ntmps27
    go_wp2_with fail
    refine HR.out.mono ?_
    rintro r w1 ⟨rfl, rfl⟩
    go_wp2_with fail
    refine HD.out.mono ?_
    rintro r w1 ⟨rfl, rfl⟩
    go_wp2_with fail
    refine HW.out.mono ?_
    rintro r w2 ⟨rfl, hB⟩
    have HL := Lib.hid (HBAD.out HB.out w2 hB).2
    clear hB
    go_wp2
    go_ret2
    exact ⟨rfl, HL.out⟩
  have HNB := Lib.hid (show rClsBad R i = false by unfold rClsBad; rw [he, hd, hw, decide_eq_false hz]; rfl)
  have HP := Lib.hid (show rClsP R i = (rMem R i).any fun m => (R.th m).pan by unfold rClsP; rw [HNB.out]; rfl)
  have HC := Lib.hid (show rCls R i = rset R i { R.th i with opn := (R.th i).opn.dropLast } by unfold rCls; rw [HNB.out]; rfl)
  rw [hw] at HW
  rw [HNB.out, HC.out, HP.out]
  have HH := Lib.hid h
  have HMM := Lib.hid (fun W (hb : Below w.heap.size w W) => r_members g B O R i W (h.below hb) hN hop')
  have hlt := fun m (hm : m ∈ rMem R i) => rMem_lt hm
  have hlen := rMem_len R i
  obtain ⟨ml, hml⟩ : ∃ m, rMem R i = m := ⟨_, rfl⟩
  rw [hml] at HMM hlt hlen ⊢
  obtain ⟨nm, hnm⟩ : ∃ m, ml.length = m := ⟨_, rfl⟩
  rw [hnm] at HMM hlen
  have HNM := Lib.hid hnm
  have HLT := Lib.hid hlt
  have hopi := hop i hi
  have HI := Lib.hid hi
  clear HP h he hw hml hnm hlt hop hop' HBAD
  rw [rat_in hi] at hd
  obtain ⟨ys, hys⟩ : ∃ ys, (R.th i).opn = ys := ⟨_, rfl⟩
  rw [hys] at hd hopi
  rw [hd] at hopi
  obtain ⟨ln, rfl⟩ : ∃ ln, d = ln + 1 := ⟨d - 1, by omega⟩
  have HD2 := Lib.hid hd
  have HYS := Lib.hid hys
  clear hd hys
  go_enter Try.func27, Try.ntmps27
  go_wp2_with fail
  refine HR.out.mono ?_
  rintro r w1 ⟨rfl, rfl⟩
  go_wp2_with fail
  refine HD.out.mono ?_
  rintro r w1 ⟨rfl, rfl⟩
  go_wp2_with fail
  refine HW.out.mono ?_
  rintro r w2 ⟨rfl, hB2⟩
  have HB2 := Lib.hid hB2
  clear hB2
  go_wp2_with fail
  refine (HMM.out _ HB2.out).mono ?_
  rintro r w3 ⟨v, rfl, ho, hB3⟩
  have HB3 := Lib.hid (HB2.out.trans (hB3.mono HB2.out.size))
  obtain ⟨Av, cv, rfl⟩ := own_slice ho
  have HO := Lib.hid ho
  clear ho hB3
  go_wp2
  go_loopw [6, 8] (fun b q wr => ∃ k : Nat, k ≤ nm ∧ q = .int .i64 k ∧ b = .bool ((ml.take k).any fun m => (R.th m).pan) ∧ Below w3.heap.size w3 wr) (fun _ q _ => nm - (intOf q).toNat)
  case atStart => exact ⟨0, by omega, rfl, rfl, Below.refl _ _⟩
  case round =>
    obtain ⟨k, hk, rfl, rfl, hBr⟩ := hrel
    have HBR := Lib.hid hBr
    obtain ⟨pa, hpa⟩ : ∃ b, ((ml.take k).any fun m => (R.th m).pan) = b := ⟨_, rfl⟩
    rw [hpa]
    have HPA := Lib.hid hpa
    clear hpa
    by_cases hl : k < nm
    · have hlI : (k : Int) < (nm : Int) := by omega
      have hk0 : (0 : Int) ≤ (k : Int) := by omega
      obtain ⟨x, hx⟩ : ∃ x, ml[k]? = some x := ⟨_, List.getElem?_eq_getElem (by rw [HNM.out]; exact hl)⟩
      have hxn := HLT.out x (List.mem_of_getElem? hx)
      obtain ⟨gm, rfl⟩ : ∃ gm, Av = some ⟨gm, 0, none⟩ := by
        rcases HO.out.2 with ⟨h1, h2⟩ | ⟨gm, cap, cur, h1, _⟩
        · omega
        · rw [Value.slice.injEq] at h1; exact ⟨gm, h1.1⟩
      have hcx : wr.cell? ⟨gm, k, none⟩ = some (.int .i64 x) := by
        have h := (own_below HO.out hBr).cellAt k (by omega)
        rw [List.getElem?_map, hx] at h
        exact h
      obtain ⟨v, hxr⟩ := (HH.out.below HB3.out).below hBr
      obtain ⟨gl, cl, rfl⟩ := hxr.l
      have c0 := hxr.box
      have e3 := (hxr.cells hxn).2.2.2.1
      have hxI : (x : Int) < (R.n : Int) := by omega
      have hx0 : (0 : Int) ≤ (x : Int) := by omega
      obtain ⟨xp, hxp⟩ : ∃ b, (R.th x).pan = b := ⟨_, rfl⟩
      rw [hxp] at e3
      have HSN := Lib.hid (any_take_snoc (f := fun m => (R.th m).pan) hx)
      have HXP := Lib.hid hxp
      clear hx hxp hxr hBr hxn
      cases pa
      · go_upto_region 8 with fail
        go_region
        all_goals
         go_wp2
         go_roundw
         case rel => exact ⟨k + 1, by omega, by go_num, by rw [HSN.out, HPA.out]; show _ = Value.bool (false || (R.th x).pan); rw [HXP.out]; rfl, HBR.out.drew⟩
         case measure => simp [intOf] <;> omega
      · go_upto_region 8 with fail
        go_region
        all_goals
         go_wp2
         go_roundw
         case rel => exact ⟨k + 1, by omega, by go_num, by rw [HSN.out, HPA.out]; rfl, HBR.out.drew⟩
         case measure => simp [intOf] <;> omega
    · obtain rfl : nm = k := by omega
      have hval : (ml.any fun m => (R.th m).pan) = pa := by rw [← HPA.out, List.take_of_length_le (by rw [HNM.out]; exact Nat.le_refl _)]
      have HVAL := Lib.hid hval
      have HBW := Lib.hid (HB3.out.trans (hBr.mono HB3.out.size))
      clear hval hBr HPA HO
      obtain ⟨v, hx⟩ := HH.out.below HBW.out
      obtain ⟨gl, cl, rfl⟩ := hx.l
      have c0 := hx.box
      have q5 := (hx.cells HI.out).2.2.2.2.2
      obtain ⟨A, c, e5⟩ := hx.oform HI.out
      have ho1 := hx.oi i HI.out
      rw [e5, HYS.out, HD2.out] at ho1 q5
      obtain ⟨go, rfl⟩ : ∃ go, A = some ⟨go, 0, none⟩ := by
        rcases ho1.2 with ⟨h1, h2⟩ | ⟨gm, cap, cur, h1, _⟩
        · omega
        · rw [Value.slice.injEq] at h1; exact ⟨gm, h1.1⟩
      have hlc : ln + 1 ≤ c := by
        rcases ho1.2 with ⟨h1, h2⟩ | ⟨gm, cap, cur, h1, h2, h3, h4, _⟩
        · omega
        · rw [Value.slice.injEq] at h1; omega
      have hiI : (i : Int) < (R.n : Int) := by have := HI.out; omega
      have hii0 : (0 : Int) ≤ (i : Int) := by omega
      have hlw : IntKind.i64.wrap (ln : Int) = (ln : Int) := IntWalk.i64_in _ (by omega)
      have hl0 : (0 : Int) ≤ (ln : Int) := by omega
      have hlcI : (ln : Int) ≤ (c : Int) := by omega
      have hlcN : ln ≤ c := by omega
      have HOI := Lib.hid (show O i = .slice (some ⟨go, 0, none⟩) (ln + 1) c by rw [e5, HYS.out, HD2.out])
      have HX1 := Lib.hid hx
      have HFIN := Lib.hid (fun w' nv (hb : Below wr.heap.size wr w') (hown : w'.ownsRow wr.heap.size 3 1 nv ys.dropLast.length (ys.dropLast.map natV)) => opn_store HX1.out HI.out rfl hb hown)
      have HSRC := Lib.hid (show ∀ W, Below wr.heap.size wr W → ((ln = 0 ∧ (some (⟨go, 0, none⟩ : Addr)) = none ∧ c = 0) ∨ ∃ ad, (some (⟨go, 0, none⟩ : Addr)) = some ad ∧ ∀ j u, (ys.dropLast.map natV)[j]? = some u → W.cell? (ad.add j) = some u) from fun W hb => by
        have ho := own_below ho1 hb
        refine .inr ⟨_, rfl, fun j u hu => ?_⟩
        have hj : j < ln := by
          have h2 := (List.getElem?_eq_some_iff.1 hu).1
          rw [List.length_map, List.length_dropLast, HD2.out] at h2
          exact h2
        rw [Addr.add_lit, Nat.zero_add, ho.cellAt j (by omega)]
        rw [List.getElem?_map] at hu ⊢
        rw [List.getElem?_dropLast, if_pos (by rw [HD2.out]; omega)] at hu
        exact hu)
      have HLD := Lib.hid (show ys.dropLast.length = ln by rw [List.length_dropLast, HD2.out]; rfl)
      obtain ⟨i0, hi0, hz0, hz1, hz2⟩ := info_parts info3
      have HS := Lib.hid (show ∀ W, Below wr.heap.size wr W → (W.cell? ⟨g, 0, none⟩ = some (.slice (some ⟨gl, 0, none⟩) R.n cl) ∧ W.cell? ⟨gl, i * 6 + 5, none⟩ = some (.slice (some ⟨go, 0, none⟩) (ln + 1) c) ∧ Below wr.heap.size wr W) from fun W hb => ⟨(hb.cell (p := ⟨g, 0, none⟩) HX1.out.blk.lt).trans c0, (hb.cell (p := ⟨gl, i * 6 + 5, none⟩) HX1.out.tl.lt).trans q5, hb⟩)
      have HBA := Lib.hid (fun o => show Below wr.heap.size wr (wr.drew.alloc o) from (Below.refl _ wr).drew.alloc (Nat.le_refl _) o)
      have HONE := Lib.hid (show ∀ u ∈ ys.dropLast.map natV, u.oneCell' = true by
        intro u hu
        obtain ⟨x, _, rfl⟩ := List.mem_map.1 hu
        rfl)
      have HBB := Lib.hid (show Below B w wr from HBW.out.mono HH.out.hBw)
      have hS0 := HS.out wr.drew (Below.refl _ wr).drew
      clear hx e5 ho1
      go_upto_region 9 with fail
      clear c0 q5
      refine wp_region_pre (fun W => W.cell? ⟨g, 0, none⟩ = some (.slice (some ⟨gl, 0, none⟩) R.n cl) ∧ W.cell? ⟨gl, i * 6 + 5, none⟩ = some (.slice (some ⟨go, 0, none⟩) (ln + 1) c) ∧ Below wr.heap.size wr W) 28 28 (by kernel_rfl) (by kernel_rfl) ?_
      refine wpPre_take (i := 0) (v := .pointer (some ⟨g, 0, none⟩)) (by simp only [List.getElem?_toArray, List.getElem?_cons_succ, List.getElem?_cons_zero]; rfl) (by kernel_rfl) (by kernel_rfl) (by kernel_rfl) (by kernel_rfl) (by exact fun _ _ _ h => h) hS0 (by rfl) (fun W hS => ?_) ?_
      · obtain ⟨s1, s2, s3⟩ := hS
        go_simp
      try go_frame
      refine wpPre_take (i := 1) (v := .pointer (some ⟨g, 0, none⟩)) (by simp only [List.getElem?_toArray, List.getElem?_cons_succ, List.getElem?_cons_zero]; rfl) (by kernel_rfl) (by kernel_rfl) (by kernel_rfl) (by kernel_rfl) (by exact fun _ _ _ h => h) hS0 (by rfl) (fun W hS => ?_) ?_
      · obtain ⟨s1, s2, s3⟩ := hS
        go_simp
      try go_frame
      refine wpPre_take (i := 2) (v := .pointer (some ⟨g, 0, none⟩)) (by simp only [List.getElem?_toArray, List.getElem?_cons_succ, List.getElem?_cons_zero]; rfl) (by kernel_rfl) (by kernel_rfl) (by kernel_rfl) (by kernel_rfl) (by exact fun _ _ _ h => h) hS0 (by rfl) (fun W hS => ?_) ?_
      · obtain ⟨s1, s2, s3⟩ := hS
        go_simp
      try go_frame
      refine wpPre_take (i := 3) (v := .slice (some ⟨gl, 0, none⟩) R.n cl) (by simp only [List.getElem?_toArray, List.getElem?_cons_succ, List.getElem?_cons_zero]; rfl) (by kernel_rfl) (by kernel_rfl) (by kernel_rfl) (by kernel_rfl) (by exact fun _ _ _ h => h) hS0 (by rfl) (fun W hS => ?_) ?_
      · obtain ⟨s1, s2, s3⟩ := hS
        go_simp
      try go_frame
      refine wpPre_take (i := 4) (v := .int .i64 i) (by simp only [List.getElem?_toArray, List.getElem?_cons_succ, List.getElem?_cons_zero]; rfl) (by kernel_rfl) (by kernel_rfl) (by kernel_rfl) (by kernel_rfl) (by exact fun _ _ _ h => h) hS0 (by rfl) (fun W hS => ?_) ?_
      · obtain ⟨s1, s2, s3⟩ := hS
        go_simp
      try go_frame
      refine wpPre_take (i := 6) (v := .pointer (some ⟨g, 0, none⟩)) (by simp only [List.getElem?_toArray, List.getElem?_cons_succ, List.getElem?_cons_zero]; rfl) (by kernel_rfl) (by kernel_rfl) (by kernel_rfl) (by kernel_rfl) (by exact fun _ _ _ h => h) hS0 (by rfl) (fun W hS => ?_) ?_
      · obtain ⟨s1, s2, s3⟩ := hS
        go_simp
      try go_frame
      refine wpPre_take (i := 7) (v := .pointer (some ⟨g, 0, none⟩)) (by simp only [List.getElem?_toArray, List.getElem?_cons_succ, List.getElem?_cons_zero]; rfl) (by kernel_rfl) (by kernel_rfl) (by kernel_rfl) (by kernel_rfl) (by exact fun _ _ _ h => h) hS0 (by rfl) (fun W hS => ?_) ?_
      · obtain ⟨s1, s2, s3⟩ := hS
        go_simp
      try go_frame
      refine wpPre_take (i := 8) (v := .pointer (some ⟨g, 0, none⟩)) (by simp only [List.getElem?_toArray, List.getElem?_cons_succ, List.getElem?_cons_zero]; rfl) (by kernel_rfl) (by kernel_rfl) (by kernel_rfl) (by kernel_rfl) (by exact fun _ _ _ h => h) hS0 (by rfl) (fun W hS => ?_) ?_
      · obtain ⟨s1, s2, s3⟩ := hS
        go_simp
      try go_frame
      refine wpPre_take (i := 9) (v := .slice (some ⟨gl, 0, none⟩) R.n cl) (by simp only [List.getElem?_toArray, List.getElem?_cons_succ, List.getElem?_cons_zero]; rfl) (by kernel_rfl) (by kernel_rfl) (by kernel_rfl) (by kernel_rfl) (by exact fun _ _ _ h => h) hS0 (by rfl) (fun W hS => ?_) ?_
      · obtain ⟨s1, s2, s3⟩ := hS
        go_simp
      try go_frame
      refine wpPre_take (i := 10) (v := .int .i64 i) (by simp only [List.getElem?_toArray, List.getElem?_cons_succ, List.getElem?_cons_zero]; rfl) (by kernel_rfl) (by kernel_rfl) (by kernel_rfl) (by kernel_rfl) (by exact fun _ _ _ h => h) hS0 (by rfl) (fun W hS => ?_) ?_
      · obtain ⟨s1, s2, s3⟩ := hS
        go_simp
      try go_frame
      refine wpPre_take (i := 11) (v := .pointer (some ⟨gl, i * 6, none⟩)) (by simp only [List.getElem?_toArray, List.getElem?_cons_succ, List.getElem?_cons_zero]; rfl) (by kernel_rfl) (by kernel_rfl) (by kernel_rfl) (by kernel_rfl) (by exact fun _ _ _ h => h) hS0 (by rfl) (fun W hS => ?_) ?_
      · obtain ⟨s1, s2, s3⟩ := hS
        go_simp
      try go_frame
      refine wpPre_take (i := 12) (v := .pointer (some ⟨gl, i * 6 + 5, none⟩)) (by simp only [List.getElem?_toArray, List.getElem?_cons_succ, List.getElem?_cons_zero]; rfl) (by kernel_rfl) (by kernel_rfl) (by kernel_rfl) (by kernel_rfl) (by exact fun _ _ _ h => h) hS0 (by rfl) (fun W hS => ?_) ?_
      · obtain ⟨s1, s2, s3⟩ := hS
        go_simp
      try go_frame
      refine wpPre_take (i := 13) (v := .slice (some ⟨go, 0, none⟩) (ln + 1) c) (by simp only [List.getElem?_toArray, List.getElem?_cons_succ, List.getElem?_cons_zero]; rfl) (by kernel_rfl) (by kernel_rfl) (by kernel_rfl) (by kernel_rfl) (by exact fun _ _ _ h => h) hS0 (by rfl) (fun W hS => ?_) ?_
      · obtain ⟨s1, s2, s3⟩ := hS
        go_simp
      try go_frame
      refine wpPre_take (i := 14) (v := .pointer (some ⟨g, 0, none⟩)) (by simp only [List.getElem?_toArray, List.getElem?_cons_succ, List.getElem?_cons_zero]; rfl) (by kernel_rfl) (by kernel_rfl) (by kernel_rfl) (by kernel_rfl) (by exact fun _ _ _ h => h) hS0 (by rfl) (fun W hS => ?_) ?_
      · obtain ⟨s1, s2, s3⟩ := hS
        go_simp
      try go_frame
      refine wpPre_take (i := 15) (v := .pointer (some ⟨g, 0, none⟩)) (by simp only [List.getElem?_toArray, List.getElem?_cons_succ, List.getElem?_cons_zero]; rfl) (by kernel_rfl) (by kernel_rfl) (by kernel_rfl) (by kernel_rfl) (by exact fun _ _ _ h => h) hS0 (by rfl) (fun W hS => ?_) ?_
      · obtain ⟨s1, s2, s3⟩ := hS
        go_simp
      try go_frame
      refine wpPre_take (i := 16) (v := .pointer (some ⟨g, 0, none⟩)) (by simp only [List.getElem?_toArray, List.getElem?_cons_succ, List.getElem?_cons_zero]; rfl) (by kernel_rfl) (by kernel_rfl) (by kernel_rfl) (by kernel_rfl) (by exact fun _ _ _ h => h) hS0 (by rfl) (fun W hS => ?_) ?_
      · obtain ⟨s1, s2, s3⟩ := hS
        go_simp
      try go_frame
      refine wpPre_take (i := 17) (v := .slice (some ⟨gl, 0, none⟩) R.n cl) (by simp only [List.getElem?_toArray, List.getElem?_cons_succ, List.getElem?_cons_zero]; rfl) (by kernel_rfl) (by kernel_rfl) (by kernel_rfl) (by kernel_rfl) (by exact fun _ _ _ h => h) hS0 (by rfl) (fun W hS => ?_) ?_
      · obtain ⟨s1, s2, s3⟩ := hS
        go_simp
      try go_frame
      refine wpPre_take (i := 18) (v := .int .i64 i) (by simp only [List.getElem?_toArray, List.getElem?_cons_succ, List.getElem?_cons_zero]; rfl) (by kernel_rfl) (by kernel_rfl) (by kernel_rfl) (by kernel_rfl) (by exact fun _ _ _ h => h) hS0 (by rfl) (fun W hS => ?_) ?_
      · obtain ⟨s1, s2, s3⟩ := hS
        go_simp
      try go_frame
      refine wpPre_take (i := 19) (v := .pointer (some ⟨gl, i * 6, none⟩)) (by simp only [List.getElem?_toArray, List.getElem?_cons_succ, List.getElem?_cons_zero]; rfl) (by kernel_rfl) (by kernel_rfl) (by kernel_rfl) (by kernel_rfl) (by exact fun _ _ _ h => h) hS0 (by rfl) (fun W hS => ?_) ?_
      · obtain ⟨s1, s2, s3⟩ := hS
        go_simp
      try go_frame
      refine wpPre_take (i := 20) (v := .pointer (some ⟨gl, i * 6 + 5, none⟩)) (by simp only [List.getElem?_toArray, List.getElem?_cons_succ, List.getElem?_cons_zero]; rfl) (by kernel_rfl) (by kernel_rfl) (by kernel_rfl) (by kernel_rfl) (by exact fun _ _ _ h => h) hS0 (by rfl) (fun W hS => ?_) ?_
      · obtain ⟨s1, s2, s3⟩ := hS
        go_simp
      try go_frame
      refine wpPre_take (i := 21) (v := .slice (some ⟨go, 0, none⟩) (ln + 1) c) (by simp only [List.getElem?_toArray, List.getElem?_cons_succ, List.getElem?_cons_zero]; rfl) (by kernel_rfl) (by kernel_rfl) (by kernel_rfl) (by kernel_rfl) (by exact fun _ _ _ h => h) hS0 (by rfl) (fun W hS => ?_) ?_
      · obtain ⟨s1, s2, s3⟩ := hS
        go_simp
      try go_frame
      refine wpPre_take (i := 22) (v := .int .i64 ((ln : Int) + 1)) (by simp only [List.getElem?_toArray, List.getElem?_cons_succ, List.getElem?_cons_zero]; rfl) (by kernel_rfl) (by kernel_rfl) (by kernel_rfl) (by kernel_rfl) (by exact fun _ _ _ h => h) hS0 (by rfl) (fun W hS => ?_) ?_
      · obtain ⟨s1, s2, s3⟩ := hS
        go_simp
      try go_frame
      refine wpPre_take (i := 23) (v := .int .i64 ln) (by simp only [List.getElem?_toArray, List.getElem?_cons_succ, List.getElem?_cons_zero]; rfl) (by kernel_rfl) (by kernel_rfl) (by kernel_rfl) (by kernel_rfl) (by exact fun _ _ _ h => h) hS0 (by rfl) (fun W hS => ?_) ?_
      · obtain ⟨s1, s2, s3⟩ := hS
        go_simp
      try go_frame
      refine wpPre_take (i := 24) (v := .slice (some ⟨go, 0, none⟩) ln c) (by simp only [List.getElem?_toArray, List.getElem?_cons_succ, List.getElem?_cons_zero]; rfl) (by kernel_rfl) (by kernel_rfl) (by kernel_rfl) (by kernel_rfl) (by exact fun _ _ _ h => h) hS0 (by rfl) (fun W hS => ?_) ?_
      · obtain ⟨s1, s2, s3⟩ := hS
        go_simp
      try go_frame
      refine wpPre_one (i := 5) (by kernel_rfl) ?_
      refine wpPre_op (by simp only [List.getElem?_toArray, List.getElem?_cons_succ, List.getElem?_cons_zero]; rfl) (fun K hK => ?_) (by rfl)
      go_simp
      refine hK _ _ (HS.out _ (HBA.out _)) ?_
      clear hK K
      try go_frame
      refine wpPre_one (i := 25) (by kernel_rfl) ?_
      refine wpPre_op (by simp only [List.getElem?_toArray, List.getElem?_cons_succ, List.getElem?_cons_zero]; rfl) (fun K hK => ?_) (by rfl)
      refine step_app (by rfl) (.tmp 52) (.tmp 71) 29 (by rfl) wr.heap.size 3 i0 (.int .i64 0) 1 8 Try.underlying29 hi0 hz0 hz1 hz2 rfl (by decide) (.slice (some ⟨wr.heap.size, 0, none⟩) 0 0) 0 [] (by simp [Act.eval, Act.put]) (own_e1 wr.drew _ (Nat.le_refl _)) (some ⟨go, 0, none⟩) ln c (ys.dropLast.map natV) (by simp [Act.eval, Act.put]) (by rw [List.length_map, HLD.out, Nat.mul_one]) (HSRC.out _ (HBA.out _)) HONE.out (by unfold maxLen; omega) (by omega) (by first | (simp; done) | (simp; omega)) ?_
      intro v4 w4 hown4 hg4
      rw [Nat.zero_add, List.nil_append] at hown4
      have hbn := Below.grown (HBA.out _) hg4 (by first | (simp; done) | (simp; omega)) (fun k e => by simp [Value.ownBlock] at e; omega)
      obtain ⟨hLF, c5, f5⟩ := HFIN.out w4 v4 hbn (by rw [HLD.out]; exact hown4)
      rw [HOI.out] at c5
      obtain ⟨A4, c4, rfl⟩ := own_slice hown4
      refine hK _ _ (HS.out _ hbn) ?_
      clear hK K
      try go_frame
      have hS4 := HS.out _ hbn
      refine wpPre_one (i := 26) (by kernel_rfl) ?_
      refine wpPre_op (by simp only [List.getElem?_toArray, List.getElem?_cons_succ, List.getElem?_cons_zero]; rfl) (fun K hK => ?_) (by rfl)
      go_simp
      refine hK _ _ hS4 ?_
      clear hK K
      try go_frame
      refine wpPre_one (i := 27) (by kernel_rfl) ?_
      refine wpPre_op (by simp only [List.getElem?_toArray, List.getElem?_cons_succ, List.getElem?_cons_zero]; rfl) (fun K hK => ?_) (by rfl)
      go_simp
      refine hK _ _ hS4 ?_
      clear hK K
      try go_frame
      refine wpPre_end (by kernel_rfl) (by kernel_rfl) (by simp only [List.getElem?_toArray, List.getElem?_cons_succ, List.getElem?_cons_zero]; rfl) (by rfl) ?_
      have HLF := Lib.hid (RLeft.trans_ HBB.out (KeepR.below HBW.out) rfl HBW.out.size hLF)
      clear hLF hown4 hg4 hS4 hS0 hbn
      go_simp
      go_wp2
      go_ret2
      exact ⟨by rw [HVAL.out]; rfl, by rw [← HYS.out] at HLF; exact HLF.out⟩
end Go.Proofs.Ytnhhinlhfaapcaa
