/- Threads: alike: the two tables tell the same at each thread. -/
import Derived.Test.YtnhhinlhfaapcaaBo
import Derived.Deep.RegionHeld3
namespace Go.Proofs.Ytnhhinlhfaapcaa
open Go.RowKit
set_option linter.unusedVariables false
set_option linter.unusedSimpArgs false

theorem own_some {W : World} {B n cap : Nat} {A : Option Addr} {xs : List Value} (h : W.ownsRow B 3 1 (.slice A n cap) n xs) (hn : 0 < n) : ∃ g, A = some ⟨g, 0, none⟩ := by
  rcases h.2 with ⟨h1, h2⟩ | ⟨gm, cap, cur, h1, _⟩
  · omega
  · rw [Value.slice.injEq] at h1; exact ⟨gm, h1.1⟩
set_option maxRecDepth 100000 in
set_option maxHeartbeats 12800000 in
theorem alike_any (B g B' g' k : Nat) (t : Tab) (R : RTab) (w : World) (h : Both w B g B' g' t R) (ht : Tok k t) (hs : Sim k t R) (hk : k ≤ 1000) :
    Calls Try.prog 28 #[.pointer (some ⟨g, 0, none⟩), .pointer (some ⟨g', 0, none⟩)] w fun r w' => r = .returned (.bool true) ∧ Below w.heap.size w w' := by
  obtain ⟨hN16, hsm⟩ := hs.small ht hk
  obtain ⟨O, hO, _⟩ := h.ref
  have HT := Lib.hid h.tab
  have HR := Lib.hid hO
  have HTOK := Lib.hid ht
  have HSIM := Lib.hid hs
  have HSM := Lib.hid (show ∀ i, i < R.n → (R.th i).opn.length ≤ 1000000 from fun i hi => Nat.le_trans (hsm i hi).1 (by omega))
  have htn := hs.n
  obtain ⟨N, hN⟩ : ∃ N, R.n = N := ⟨_, rfl⟩
  have HN := Lib.hid hN
  have HTN := Lib.hid (htn.trans hN)
  rw [hN] at hN16
  have HLEN := Lib.hid (fun W (hW : TabR W B g t) => len_any g B t W hW)
  rw [htn, hN] at HLEN
  obtain ⟨v, hx⟩ := hO
  obtain ⟨gl, cl, hv⟩ := hx.l
  rw [hv] at hx
  have HRX := Lib.hid hx
  have HBOX := Lib.hid (fun W (hb : Below w.heap.size w W) => (show W.cell? ⟨g', 0, none⟩ = some (.slice (some ⟨gl, 0, none⟩) N cl) from by have h := (hx.below hb).box; rw [hN] at h; exact h))
  clear h ht hs hsm hx hv htn hN v
  have hS0 := HBOX.out _ (Below.refl _ w).drew
  have HT0 := Lib.hid (HT.out.below (Below.refl _ w).drew)
  go_enter Try.func28, Try.ntmps28
  go_upto_region 1 with fail
  go_region_held3 (fun W => W.cell? ⟨g', 0, none⟩ = some (.slice (some ⟨gl, 0, none⟩) N cl)) (first | exact hS0 | assumption)
    (first | (go_at_call 18; refine (HLEN.out _ HT0.out).mono ?_; rintro r w2 ⟨rfl, rfl⟩))
  have HB1 := Lib.hid ((Below.refl w.heap.size w).drew)
  clear hS0
  go_wp2
  go_loopw [5, 6, 7, 8, 9] (fun m p q l j wr => ∃ n : Int, -1 ≤ n ∧ n ≤ (N : Int) + 1 ∧ m = .int .i64 n ∧ Below w.heap.size w wr) (fun m _ _ _ _ _ => ((N : Int) + 1 - intOf m).toNat)
  case atStart => exact ⟨-1, by omega, by omega, rfl, HB1.out⟩
  case round =>
    obtain ⟨n, hn0, hn1, rfl, hB⟩ := hrel
    have HB := Lib.hid hB
    have c0 := HBOX.out _ hB
    clear hB
    have hN1 : IntKind.i64.wrap ((N : Int) + 1) = (N : Int) + 1 := IntWalk.i64_in _ (by omega)
    by_cases hl : n < (N : Int) + 1
    · have hnw : IntKind.i64.wrap (n + 1) = n + 1 := IntWalk.i64_in _ (by omega)
      obtain ⟨ml, hml⟩ : ∃ l, memL t n = l := ⟨_, rfl⟩
      have hmr := HTOK.out.memrow n
      rw [hml] at hmr
      have hm16 := hmr.1
      obtain ⟨wv, hwv⟩ : ∃ b, waitsB t n = b := ⟨_, rfl⟩
      obtain ⟨rv, hrv⟩ : ∃ b, (hasB t n && !(at_ t n).ended) = b := ⟨_, rfl⟩
      obtain ⟨dv, hdv⟩ : ∃ d, (at_ t n).scopes.length = d := ⟨_, rfl⟩
      obtain ⟨pn, hpn⟩ : ∃ b, (hasB t n && (at_ t n).panicked) = b := ⟨_, rfl⟩
      obtain ⟨pv, hpv⟩ : ∃ b, (at_ t n).parent = b := ⟨_, rfl⟩
      have C12 := Lib.hid (fun W (h : TabR W B g t) => members_ok h HTOK.out n)
      have C15 := Lib.hid (fun W (h : TabR W B g t) => waits_ok h HTOK.out n)
      have C13 := Lib.hid (fun W (h : TabR W B g t) => runs_any g B t n W h)
      have C14 := Lib.hid (fun W (h : TabR W B g t) => panicked_any g B t n W h)
      have C16 := Lib.hid (fun W (h : TabR W B g t) => depth_any g B t n W h)
      have C22 := Lib.hid (fun W (h : TabR W B g t) => parent_any g B t n W h)
      have C37 := Lib.hid (fun W (h : RTabO W B' g' O R) => r_members g' B' O R n W h (by rw [HN.out]; omega) HSM.out)
      have C36 := Lib.hid (fun W (h : RTabO W B' g' O R) => r_waits g' B' O R n W h (by rw [HN.out]; omega) HSM.out)
      have C34 := Lib.hid (fun W (h : RTabO W B' g' O R) => r_runs g' B' O R n W h)
      have C35 := Lib.hid (fun W (h : RTabO W B' g' O R) => r_depth g' B' O R n W h)
      rw [hml] at C12
      rw [hwv] at C15
      rw [hrv] at C13
      rw [hpn] at C14
      rw [hdv] at C16
      rw [hpv] at C22
      rw [← HSIM.out.members, hml] at C37
      rw [← HSIM.out.waits, hwv] at C36
      rw [← HSIM.out.runs, hrv] at C34
      rw [← HSIM.out.depth, hdv] at C35
      have z1 : (wv != wv) = false := by simp
      have z2 : (rv != rv) = false := by simp
      have z3 : (pn != pn) = false := by simp
      have z4 : (pv != pv) = false := by simp
      have HTr := Lib.hid (HT.out.below HB.out)
      have HRr := Lib.hid (HR.out.below HB.out)
      clear hml hmr hwv hrv hdv
      rcases HSIM.out.cases_ n with ⟨a1, a2, a3, a4⟩ | ⟨i, rfl, hi, hi2, a2, a4, a1, a3⟩
      · rw [a1, a2] at hpn
        rw [a2] at hpv
        obtain rfl : false = pn := hpn
        obtain rfl : -1 = pv := hpv
        have hout : n < 0 ∨ (0 ≤ n ∧ ¬ n < (N : Int)) := by
          have htn := HTN.out
          unfold hasB at a1
          rw [htn] at a1
          by_cases h0 : 0 ≤ n
          · rw [decide_eq_true h0, Bool.true_and] at a1
            exact .inr ⟨h0, of_decide_eq_false a1⟩
          · exact .inl (by omega)
        clear a1 a2 a3 a4
        rcases hout with h0 | ⟨h0, h1⟩
        · have h0' : ¬ 0 ≤ n := by omega
          go_upto_region 10 with fail
          go_wp2_with fail
          refine (C12.out _ HTr.out).mono ?_
          rintro r w1 ⟨v1, rfl, ho1, hb1⟩
          obtain ⟨A1, c1, rfl⟩ := own_slice ho1
          have HO1 := Lib.hid ho1
          have HB1' := Lib.hid hb1
          clear ho1 hb1
          go_wp2_with fail
          refine (C37.out _ (HRr.out.below HB1'.out)).mono ?_
          rintro r w2 ⟨v2, rfl, ho2, hb2⟩
          obtain ⟨A2, c2, rfl⟩ := own_slice ho2
          have HO2 := Lib.hid ho2
          have HB2 := Lib.hid (HB1'.out.trans (hb2.mono HB1'.out.size))
          have HO12 := Lib.hid (own_below HO1.out hb2)
          clear ho2 hb2 HO1
          go_wp2_with fail
          refine (same_any _ _ _ _ ml _ HO12.out HO2.out (by omega)).mono ?_
          rintro r w3 ⟨rfl, hb3⟩
          have HB3 := Lib.hid (HB2.out.trans (hb3.mono HB2.out.size))
          have HO13 := Lib.hid (own_below HO12.out hb3)
          clear hb3 HO12 HO2
          go_wp2_with fail
          refine (C15.out _ (HTr.out.below HB3.out)).mono ?_
          rintro r w4 ⟨rfl, hb4⟩
          have HB4 := Lib.hid (HB3.out.trans (hb4.mono HB3.out.size))
          have HO14 := Lib.hid (own_below HO13.out hb4)
          clear hb4 HO13
          go_wp2_with fail
          refine (C36.out _ (HRr.out.below HB4.out)).mono ?_
          rintro r w5 ⟨rfl, hb5⟩
          have HB5 := Lib.hid (HB4.out.trans (hb5.mono HB4.out.size))
          have HO15 := Lib.hid (own_below HO14.out hb5)
          clear hb5 HO14
          have HT5 := Lib.hid (HTr.out.below HB5.out)
          have HR5 := Lib.hid (HRr.out.below HB5.out)
          go_wp2_with fail
          refine (C13.out _ HT5.out).mono ?_
          rintro r w6 ⟨rfl, rfl⟩
          go_wp2_with fail
          refine (C34.out _ HR5.out).mono ?_
          rintro r w6 ⟨rfl, rfl⟩
          go_wp2_with fail
          refine (C14.out _ HT5.out).mono ?_
          rintro r w6 ⟨rfl, rfl⟩
          go_wp2_with fail
          refine (C16.out _ HT5.out).mono ?_
          rintro r w6 ⟨rfl, rfl⟩
          go_wp2_with fail
          refine (C35.out _ HR5.out).mono ?_
          rintro r w6 ⟨rfl, rfl⟩
          go_wp2_with fail
          refine (C22.out _ HT5.out).mono ?_
          rintro r w6 ⟨rfl, rfl⟩
          obtain ⟨nl, hnl⟩ : ∃ m, ml.length = m := ⟨_, rfl⟩
          have HO := Lib.hid (show ∃ xs, w5.ownsRow wr.heap.size 3 1 (.slice A1 nl c1) nl xs by rw [← hnl]; exact ⟨_, HO15.out⟩)
          rw [hnl] at hm16 ⊢
          clear hnl HO15 z1 z2 z3 z4 HT5 HR5
          go_wp2
          go_loopw [9] (fun j wq => ∃ q : Nat, q ≤ nl ∧ j = .int .i64 q ∧ (∃ xs, wq.ownsRow wr.heap.size 3 1 (.slice A1 nl c1) nl xs) ∧ Below wr.heap.size wr wq) (fun j _ => nl - (intOf j).toNat)
          case atStart => exact ⟨0, by omega, rfl, HO.out, HB5.out⟩
          case round =>
            obtain ⟨q, hq, rfl, ⟨xs, ho⟩, hBq⟩ := hrel
            have HBq := Lib.hid hBq
            by_cases hql : q < nl
            · have hqI : (q : Int) < (nl : Int) := by omega
              have hq0 : (0 : Int) ≤ (q : Int) := by omega
              obtain ⟨ga, rfl⟩ := own_some ho (by omega)
              have hge := (ho.lt ga rfl).1
              have e1 := ho.cellAt q (by omega)
              obtain ⟨y, hy⟩ : ∃ y, xs[q]? = some y := ⟨_, List.getElem?_eq_getElem (by rw [ho.1]; omega)⟩
              rw [hy] at e1
              clear hy
              have f1 := ho.frozenAt q
              have HST := Lib.hid (ho.stored q (.int .i64 (-7))).1
              have HBS := Lib.hid (hBq.setCell (p := ⟨ga, q, none⟩) hge (.int .i64 (-7)))
              clear ho hBq hge
              go_wp2
              go_roundw
              case rel => exact ⟨q + 1, by omega, by go_num, ⟨_, HST.out⟩, HBS.out⟩
              case measure => simp [intOf] <;> omega
            · obtain rfl : nl = q := by omega
              clear ho hBq
              go_wp2
              go_roundw
              case rel => exact ⟨_, (show (-1 : Int) ≤ n + 1 by omega), (show n + 1 ≤ (N : Int) + 1 by omega), rfl, HB.out.trans (HBq.out.mono HB.out.size)⟩
              case measure => simp [intOf] <;> omega
        · go_upto_region 10 with fail
          go_wp2_with fail
          refine (C12.out _ HTr.out).mono ?_
          rintro r w1 ⟨v1, rfl, ho1, hb1⟩
          obtain ⟨A1, c1, rfl⟩ := own_slice ho1
          have HO1 := Lib.hid ho1
          have HB1' := Lib.hid hb1
          clear ho1 hb1
          go_wp2_with fail
          refine (C37.out _ (HRr.out.below HB1'.out)).mono ?_
          rintro r w2 ⟨v2, rfl, ho2, hb2⟩
          obtain ⟨A2, c2, rfl⟩ := own_slice ho2
          have HO2 := Lib.hid ho2
          have HB2 := Lib.hid (HB1'.out.trans (hb2.mono HB1'.out.size))
          have HO12 := Lib.hid (own_below HO1.out hb2)
          clear ho2 hb2 HO1
          go_wp2_with fail
          refine (same_any _ _ _ _ ml _ HO12.out HO2.out (by omega)).mono ?_
          rintro r w3 ⟨rfl, hb3⟩
          have HB3 := Lib.hid (HB2.out.trans (hb3.mono HB2.out.size))
          have HO13 := Lib.hid (own_below HO12.out hb3)
          clear hb3 HO12 HO2
          go_wp2_with fail
          refine (C15.out _ (HTr.out.below HB3.out)).mono ?_
          rintro r w4 ⟨rfl, hb4⟩
          have HB4 := Lib.hid (HB3.out.trans (hb4.mono HB3.out.size))
          have HO14 := Lib.hid (own_below HO13.out hb4)
          clear hb4 HO13
          go_wp2_with fail
          refine (C36.out _ (HRr.out.below HB4.out)).mono ?_
          rintro r w5 ⟨rfl, hb5⟩
          have HB5 := Lib.hid (HB4.out.trans (hb5.mono HB4.out.size))
          have HO15 := Lib.hid (own_below HO14.out hb5)
          clear hb5 HO14
          have HT5 := Lib.hid (HTr.out.below HB5.out)
          have HR5 := Lib.hid (HRr.out.below HB5.out)
          go_wp2_with fail
          refine (C13.out _ HT5.out).mono ?_
          rintro r w6 ⟨rfl, rfl⟩
          go_wp2_with fail
          refine (C34.out _ HR5.out).mono ?_
          rintro r w6 ⟨rfl, rfl⟩
          go_wp2_with fail
          refine (C14.out _ HT5.out).mono ?_
          rintro r w6 ⟨rfl, rfl⟩
          go_wp2_with fail
          refine (C16.out _ HT5.out).mono ?_
          rintro r w6 ⟨rfl, rfl⟩
          go_wp2_with fail
          refine (C35.out _ HR5.out).mono ?_
          rintro r w6 ⟨rfl, rfl⟩
          go_wp2_with fail
          refine (C22.out _ HT5.out).mono ?_
          rintro r w6 ⟨rfl, rfl⟩
          obtain ⟨nl, hnl⟩ : ∃ m, ml.length = m := ⟨_, rfl⟩
          have HO := Lib.hid (show ∃ xs, w5.ownsRow wr.heap.size 3 1 (.slice A1 nl c1) nl xs by rw [← hnl]; exact ⟨_, HO15.out⟩)
          rw [hnl] at hm16 ⊢
          clear hnl HO15 z1 z2 z3 z4 HT5 HR5
          go_wp2
          go_loopw [9] (fun j wq => ∃ q : Nat, q ≤ nl ∧ j = .int .i64 q ∧ (∃ xs, wq.ownsRow wr.heap.size 3 1 (.slice A1 nl c1) nl xs) ∧ Below wr.heap.size wr wq) (fun j _ => nl - (intOf j).toNat)
          case atStart => exact ⟨0, by omega, rfl, HO.out, HB5.out⟩
          case round =>
            obtain ⟨q, hq, rfl, ⟨xs, ho⟩, hBq⟩ := hrel
            have HBq := Lib.hid hBq
            by_cases hql : q < nl
            · have hqI : (q : Int) < (nl : Int) := by omega
              have hq0 : (0 : Int) ≤ (q : Int) := by omega
              obtain ⟨ga, rfl⟩ := own_some ho (by omega)
              have hge := (ho.lt ga rfl).1
              have e1 := ho.cellAt q (by omega)
              obtain ⟨y, hy⟩ : ∃ y, xs[q]? = some y := ⟨_, List.getElem?_eq_getElem (by rw [ho.1]; omega)⟩
              rw [hy] at e1
              clear hy
              have f1 := ho.frozenAt q
              have HST := Lib.hid (ho.stored q (.int .i64 (-7))).1
              have HBS := Lib.hid (hBq.setCell (p := ⟨ga, q, none⟩) hge (.int .i64 (-7)))
              clear ho hBq hge
              go_wp2
              go_roundw
              case rel => exact ⟨q + 1, by omega, by go_num, ⟨_, HST.out⟩, HBS.out⟩
              case measure => simp [intOf] <;> omega
            · obtain rfl : nl = q := by omega
              clear ho hBq
              go_wp2
              go_roundw
              case rel => exact ⟨_, (show (-1 : Int) ≤ n + 1 by omega), (show n + 1 ≤ (N : Int) + 1 by omega), rfl, HB.out.trans (HBq.out.mono HB.out.size)⟩
              case measure => simp [intOf] <;> omega
      · rw [a1, a2] at hpn
        rw [a2] at hpv
        have hxr := HRX.out.below HB.out
        obtain ⟨d0, _, _, d3, _, _⟩ := hxr.cells hi2
        rw [← HSIM.out.par i hi, hpv] at d0
        rw [← HSIM.out.pan i hi] at d3
        obtain ⟨pq, hpq⟩ : ∃ b, (t.th i).panicked = b := ⟨_, rfl⟩
        rw [hpq] at d3 hpn
        obtain rfl : pq = pn := hpn
        have hiN : (i : Int) < (N : Int) := by have := HTN.out; omega
        have hi0 : (0 : Int) ≤ (i : Int) := by omega
        clear a1 a2 a3 a4 hxr hpv hpq hi hi2
        go_upto_region 10 with fail
        go_wp2_with fail
        refine (C12.out _ HTr.out).mono ?_
        rintro r w1 ⟨v1, rfl, ho1, hb1⟩
        obtain ⟨A1, c1, rfl⟩ := own_slice ho1
        have HO1 := Lib.hid ho1
        have HB1' := Lib.hid hb1
        clear ho1 hb1
        go_wp2_with fail
        refine (C37.out _ (HRr.out.below HB1'.out)).mono ?_
        rintro r w2 ⟨v2, rfl, ho2, hb2⟩
        obtain ⟨A2, c2, rfl⟩ := own_slice ho2
        have HO2 := Lib.hid ho2
        have HB2 := Lib.hid (HB1'.out.trans (hb2.mono HB1'.out.size))
        have HO12 := Lib.hid (own_below HO1.out hb2)
        clear ho2 hb2 HO1
        go_wp2_with fail
        refine (same_any _ _ _ _ ml _ HO12.out HO2.out (by omega)).mono ?_
        rintro r w3 ⟨rfl, hb3⟩
        have HB3 := Lib.hid (HB2.out.trans (hb3.mono HB2.out.size))
        have HO13 := Lib.hid (own_below HO12.out hb3)
        clear hb3 HO12 HO2
        go_wp2_with fail
        refine (C15.out _ (HTr.out.below HB3.out)).mono ?_
        rintro r w4 ⟨rfl, hb4⟩
        have HB4 := Lib.hid (HB3.out.trans (hb4.mono HB3.out.size))
        have HO14 := Lib.hid (own_below HO13.out hb4)
        clear hb4 HO13
        go_wp2_with fail
        refine (C36.out _ (HRr.out.below HB4.out)).mono ?_
        rintro r w5 ⟨rfl, hb5⟩
        have HB5 := Lib.hid (HB4.out.trans (hb5.mono HB4.out.size))
        have HO15 := Lib.hid (own_below HO14.out hb5)
        clear hb5 HO14
        have HT5 := Lib.hid (HTr.out.below HB5.out)
        have HR5 := Lib.hid (HRr.out.below HB5.out)
        go_wp2_with fail
        refine (C13.out _ HT5.out).mono ?_
        rintro r w6 ⟨rfl, rfl⟩
        go_wp2_with fail
        refine (C34.out _ HR5.out).mono ?_
        rintro r w6 ⟨rfl, rfl⟩
        go_wp2_with fail
        refine (C14.out _ HT5.out).mono ?_
        rintro r w6 ⟨rfl, rfl⟩
        go_wp2_with fail
        refine (C16.out _ HT5.out).mono ?_
        rintro r w6 ⟨rfl, rfl⟩
        go_wp2_with fail
        refine (C35.out _ HR5.out).mono ?_
        rintro r w6 ⟨rfl, rfl⟩
        go_wp2_with fail
        refine (C22.out _ HT5.out).mono ?_
        rintro r w6 ⟨rfl, rfl⟩
        obtain ⟨nl, hnl⟩ : ∃ m, ml.length = m := ⟨_, rfl⟩
        have HO := Lib.hid (show ∃ xs, w5.ownsRow wr.heap.size 3 1 (.slice A1 nl c1) nl xs by rw [← hnl]; exact ⟨_, HO15.out⟩)
        rw [hnl] at hm16 ⊢
        clear hnl HO15 z1 z2 z3 z4 HT5 HR5
        go_wp2
        go_loopw [9] (fun j wq => ∃ q : Nat, q ≤ nl ∧ j = .int .i64 q ∧ (∃ xs, wq.ownsRow wr.heap.size 3 1 (.slice A1 nl c1) nl xs) ∧ Below wr.heap.size wr wq) (fun j _ => nl - (intOf j).toNat)
        case atStart => exact ⟨0, by omega, rfl, HO.out, HB5.out⟩
        case round =>
          obtain ⟨q, hq, rfl, ⟨xs, ho⟩, hBq⟩ := hrel
          have HBq := Lib.hid hBq
          by_cases hql : q < nl
          · have hqI : (q : Int) < (nl : Int) := by omega
            have hq0 : (0 : Int) ≤ (q : Int) := by omega
            obtain ⟨ga, rfl⟩ := own_some ho (by omega)
            have hge := (ho.lt ga rfl).1
            have e1 := ho.cellAt q (by omega)
            obtain ⟨y, hy⟩ : ∃ y, xs[q]? = some y := ⟨_, List.getElem?_eq_getElem (by rw [ho.1]; omega)⟩
            rw [hy] at e1
            clear hy
            have f1 := ho.frozenAt q
            have HST := Lib.hid (ho.stored q (.int .i64 (-7))).1
            have HBS := Lib.hid (hBq.setCell (p := ⟨ga, q, none⟩) hge (.int .i64 (-7)))
            clear ho hBq hge
            go_wp2
            go_roundw
            case rel => exact ⟨q + 1, by omega, by go_num, ⟨_, HST.out⟩, HBS.out⟩
            case measure => simp [intOf] <;> omega
          · obtain rfl : nl = q := by omega
            clear ho hBq
            go_wp2
            go_roundw
            case rel => exact ⟨_, (show (-1 : Int) ≤ (i : Int) + 1 by omega), (show (i : Int) + 1 ≤ (N : Int) + 1 by omega), rfl, HB.out.trans (HBq.out.mono HB.out.size)⟩
            case measure => simp [intOf] <;> omega
    · obtain rfl : n = (N : Int) + 1 := by omega
      go_wp2
      go_ret
      exact ⟨rfl, HB.out⟩
end Go.Proofs.Ytnhhinlhfaapcaa
