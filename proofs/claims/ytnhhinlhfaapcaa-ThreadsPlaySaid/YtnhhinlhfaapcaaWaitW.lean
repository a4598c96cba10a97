/- Threads: ThreadsWait: a scope can be closed just if none of its threads runs. For whatever calls, whatever thread. -/
import Derived.Test.YtnhhinlhfaapcaaQ
namespace Go.Proofs.Ytnhhinlhfaapcaa
open Go.ChangeShapes Go.WideShapes Go.RowKit
set_option linter.unusedVariables false
set_option linter.unusedSimpArgs false

theorem any_take_snoc {l : List Nat} {f : Nat → Bool} {j x : Nat} (h : l[j]? = some x) : (l.take (j + 1)).any f = ((l.take j).any f || f x) := by
  rw [List.take_add_one, h]
  simp [List.any_append]
theorem alive_iff {t : Tab} {n : Int} {al : Bool} {d : Nat} (ha : (hasB t n && !(at_ t n).ended) = al) (hd : (at_ t n).scopes.length = d) : refB t n 1 = !(al && decide (0 < d)) := by
  subst ha
  subst hd
  unfold refB
  generalize (at_ t n).scopes.length = d
  by_cases h : 0 < d
  · rw [decide_eq_false (by omega), decide_eq_true h]
    cases hasB t n <;> cases (at_ t n).ended <;> rfl
  · rw [decide_eq_true (by omega), decide_eq_false h]
    cases hasB t n <;> cases (at_ t n).ended <;> rfl
theorem wait_no {t : Tab} {n : Int} {al : Bool} {d : Nat} {wv : Bool} (ha : (hasB t n && !(at_ t n).ended) = al) (hd : (at_ t n).scopes.length = d) (hw : waitsB t n = wv) (h : (al && decide (0 < d) && !wv) = false) : clsE t n = 2 ∧ clsP t n = false ∧ clsF t n = t := by
  have e := alive_iff ha hd
  unfold clsE clsP clsF
  rw [e, hw]
  revert h
  generalize (al && decide (0 < d)) = b
  cases b <;> cases wv <;> simp
theorem wait_yes {t : Tab} {n : Int} {d : Nat} (ha : (hasB t n && !(at_ t n).ended) = true) (hd : (at_ t n).scopes.length = d + 1) (hw : waitsB t n = false) : clsE t n = 0 ∧ clsP t n = panB t n ∧ (at_ (clsF t n) n).scopes.length = d := by
  have e := alive_iff ha hd
  simp at e
  obtain ⟨i, rfl, hi, he, _⟩ := refB_no e
  unfold clsE clsP clsF
  rw [e, hw]
  refine ⟨rfl, rfl, ?_⟩
  simp only [Bool.false_eq_true, if_false, Int.toNat_natCast]
  rw [at_in (show i < (closeT t i).n from hi)]
  rw [at_in hi] at hd
  unfold closeT
  rw [setTh_at]
  simp [hd]
set_option maxRecDepth 100000 in
set_option maxHeartbeats 6400000 in
theorem threadsWait_walk (A0 : Option Addr) (c0 : Nat) (L0 : List Ac) (a1 : Int) (w : World) (rd0 : Rd w w.heap.size 3 acC A0 L0) (g0 : ∀ x ∈ L0, AcOk x) (hc0 : L0.length ≤ c0) (hm0 : c0 ≤ maxLen) (i1 : (Lit.int .i64 a1).wf = true) :
    Calls Try.prog 3 #[.slice A0 L0.length c0, .int .i64 a1] w fun e w' => e = .returned (.bool true) ∧ Below w.heap.size w w' := by
  obtain ⟨nl, hnl⟩ : ∃ n, L0.length = n := ⟨_, rfl⟩
  have HNL := Lib.hid hnl
  rw [hnl] at hc0 ⊢
  have HRD := Lib.hid rd0
  have HG := Lib.hid g0
  clear rd0 g0 hnl hm0 i1
  by_cases h150 : 150 < nl
  · have h150I : (150 : Int) < (nl : Int) := by omega
    go_enter Try.func3, Try.ntmps3
    go_wp2_with fail
    refine (awake_any _).mono ?_
    rintro r w1 ⟨rfl, hB⟩
    have HB := Lib.hid hB
    clear hB
    go_wp2
    go_ret
    exact ⟨rfl, HB.out⟩
  have h150I : ¬ (150 : Int) < (nl : Int) := by omega
  go_enter Try.func3, Try.ntmps3
  go_wp2_with fail
  refine (new_any w).mono ?_
  rintro r w0 ⟨rfl, hT, hB⟩
  have HT0 := Lib.hid hT
  have HB0 := Lib.hid hB
  clear hT hB
  go_wp2
  go_loopw [6] (fun i wr => ∃ k : Nat, k ≤ nl ∧ i = .int .i64 k ∧ TabR wr w.heap.size (w.heap.size + 1) (runA (L0.take k)) ∧ Below w.heap.size w wr) (fun i _ => nl - (intOf i).toNat)
  case atStart => exact ⟨0, by omega, rfl, HT0.out, HB0.out⟩
  case round =>
    obtain ⟨k, hk, rfl, hT, hB⟩ := hrel
    have HT := Lib.hid hT
    have HB := Lib.hid hB
    clear hT hB
    by_cases hlt : k < nl
    · have hlI : (k : Int) < (nl : Int) := by omega
      obtain ⟨x, hx⟩ : ∃ x, L0[k]? = some x := ⟨_, List.getElem?_eq_getElem (by rw [HNL.out]; exact hlt)⟩
      have hok := HG.out x (List.mem_of_getElem? hx)
      obtain ⟨b, off, rfl, hb, d0, d1, d2⟩ := (HRD.out.below HB.out).ac hx
      have HC := Lib.hid (act_ok (by have := h150; have : (L0.take k).length ≤ k := List.length_take_le _ _; omega) HT.out (Tok.run (L0.take k)) x hok.k0 hok.k1)
      have HX := Lib.hid hx
      clear hx hok
      go_wp2_with fail
      refine HC.out.mono ?_
      rintro r w1 ⟨⟨v, rfl⟩, hT1, hB1, _⟩
      have HT1 := Lib.hid hT1
      have HB1 := Lib.hid (HB.out.trans hB1)
      clear hT1 hB1
      go_wp2
      go_roundw
      case rel => exact ⟨k + 1, by omega, by go_num, by rw [runA_take HX.out]; exact HT1.out, HB1.out⟩
      case measure => simp [intOf] <;> omega
    · obtain rfl : nl = k := by omega
      have ht : runA (L0.take nl) = runA L0 := by rw [List.take_of_length_le (by rw [HNL.out]; exact Nat.le_refl _)]
      rw [ht] at HT
      clear ht
      obtain ⟨t, htt⟩ : ∃ t, t = runA L0 := ⟨_, rfl⟩
      have hok := Tok.run L0
      rw [HNL.out, ← htt] at hok
      rw [← htt] at HT
      clear htt
      have HOK := Lib.hid hok
      clear hok
      go_wp2_with fail
      refine (members_ok HT.out HOK.out a1).mono ?_
      rintro r w1 ⟨v, rfl, ho, hB⟩
      have ho' := own_base ho HB.out.size
      have HT1 := Lib.hid (HT.out.below hB)
      have HB1 := Lib.hid (HB.out.trans (hB.mono HB.out.size))
      clear ho hB
      obtain ⟨ml, hml⟩ : ∃ m, memL t a1 = m := ⟨_, rfl⟩
      have hmr := HOK.out.memrow a1
      rw [hml] at ho' hmr
      obtain ⟨nm, hnm⟩ : ∃ m, ml.length = m := ⟨_, rfl⟩
      rw [hnm] at ho' hmr
      obtain ⟨An, cn, rfl⟩ := own_slice ho'
      have HO := Lib.hid ho'
      have HML := Lib.hid hml
      have HMR := Lib.hid hmr.2
      have hnm16 := hmr.1
      have HNM := Lib.hid hnm
      clear ho' hml hmr hnm
      go_wp2
      have HLA := Lib.hid (fun W => (depth_any w.heap.size.succ w.heap.size t a1 W))
      clear HLA
      go_loopw [8, 9, 10] (fun a b i wr => ∃ k : Nat, k ≤ nm ∧ i = .int .i64 k ∧ a = .bool ((ml.take k).any fun m => !(t.th m).ended) ∧ b = .bool ((ml.take k).any fun m => (t.th m).panicked) ∧ wr = w1) (fun _ _ i _ => nm - (intOf i).toNat)
      case atStart => exact ⟨0, by omega, rfl, rfl, rfl, rfl⟩
      case round =>
        obtain ⟨k, hk, rfl, rfl, rfl, rfl⟩ := hrel
        obtain ⟨ra, hra⟩ : ∃ b, ((ml.take k).any fun m => !(t.th m).ended) = b := ⟨_, rfl⟩
        obtain ⟨pa, hpa⟩ : ∃ b, ((ml.take k).any fun m => (t.th m).panicked) = b := ⟨_, rfl⟩
        rw [hra, hpa]
        have HRA := Lib.hid hra
        have HPA := Lib.hid hpa
        clear hra hpa
        by_cases hlt2 : k < nm
        · have hlI : (k : Int) < (nm : Int) := by omega
          obtain ⟨x, hx⟩ : ∃ x, ml[k]? = some x := ⟨_, List.getElem?_eq_getElem (by rw [HNM.out]; exact hlt2)⟩
          have hxm := HMR.out x (List.mem_of_getElem? hx)
          obtain ⟨gm, rfl⟩ : ∃ gm, An = some ⟨gm, 0, none⟩ := by
            rcases HO.out.2 with ⟨h1, h2⟩ | ⟨gm, cap, cur, h1, _⟩
            · omega
            · rw [Value.slice.injEq] at h1; exact ⟨gm, h1.1⟩
          have hcx : wr.cell? ⟨gm, k, none⟩ = some (.int .i64 x) := by
            have h := HO.out.cellAt k (by omega)
            rw [List.getElem?_map, hx] at h
            exact h
          have HR := Lib.hid (runs_any (w.heap.size + 1) w.heap.size t (x : Int) wr HT1.out)
          have HP := Lib.hid (panicked_any (w.heap.size + 1) w.heap.size t (x : Int) wr HT1.out)
          rw [has_in hxm.2, at_in hxm.2, Bool.true_and] at HR HP
          have HX := Lib.hid hx
          clear hx hxm
          obtain ⟨xe, hxe⟩ : ∃ b, (!(t.th x).ended) = b := ⟨_, rfl⟩
          obtain ⟨xp, hxp⟩ : ∃ b, (t.th x).panicked = b := ⟨_, rfl⟩
          rw [hxe] at HR
          rw [hxp] at HP
          have HXE := Lib.hid hxe
          have HXP := Lib.hid hxp
          clear hxe hxp
          have HNA := Lib.hid (show ((ml.take (k + 1)).any fun m => !(t.th m).ended) = (ra || xe) by rw [any_take_snoc HX.out, HRA.out, HXE.out])
          have HNP := Lib.hid (show ((ml.take (k + 1)).any fun m => (t.th m).panicked) = (pa || xp) by rw [any_take_snoc HX.out, HPA.out, HXP.out])
          clear HRA HPA HXE HXP
          cases ra
          · go_wp2_with fail
            refine HR.out.mono ?_
            rintro r w2 ⟨rfl, rfl⟩
            cases pa
            · go_wp2_with fail
              refine HP.out.mono ?_
              rintro r w2 ⟨rfl, rfl⟩
              go_wp2
              go_roundw
              case rel => exact ⟨k + 1, by omega, by go_num, by rw [HNA.out]; rfl, by rw [HNP.out]; rfl, trivial⟩
              case measure => simp [intOf] <;> omega
            · go_wp2
              go_roundw
              case rel => exact ⟨k + 1, by omega, by go_num, by rw [HNA.out]; rfl, by rw [HNP.out]; rfl, trivial⟩
              case measure => simp [intOf] <;> omega
          · cases pa
            · go_wp2_with fail
              refine HP.out.mono ?_
              rintro r w2 ⟨rfl, rfl⟩
              go_wp2
              go_roundw
              case rel => exact ⟨k + 1, by omega, by go_num, by rw [HNA.out]; rfl, by rw [HNP.out]; rfl, trivial⟩
              case measure => simp [intOf] <;> omega
            · go_wp2
              go_roundw
              case rel => exact ⟨k + 1, by omega, by go_num, by rw [HNA.out]; rfl, by rw [HNP.out]; rfl, trivial⟩
              case measure => simp [intOf] <;> omega
        · obtain rfl : nm = k := by omega
          have hall : ml.take nm = ml := List.take_of_length_le (by rw [HNM.out]; exact Nat.le_refl _)
          have hWV := HRA.out
          have hPV := HPA.out
          rw [hall, ← HML.out] at hWV hPV
          have hWV' : waitsB t a1 = ra := hWV
          have hPV' : panB t a1 = pa := hPV
          clear hall hWV hPV HRA HPA HO
          obtain ⟨al, hal⟩ : ∃ b, (hasB t a1 && !(at_ t a1).ended) = b := ⟨_, rfl⟩
          obtain ⟨dp, hdp⟩ : ∃ d, (at_ t a1).scopes.length = d := ⟨_, rfl⟩
          have hdp150 : dp ≤ 150 := by
            rw [← hdp]
            rcases has_cases t a1 with h | ⟨i, rfl, hi⟩
            · unfold at_; rw [h]; exact Nat.zero_le _
            · rw [at_in hi]; have := HOK.out.dk i hi; omega
          have HW := Lib.hid (waits_ok HT1.out HOK.out a1)
          rw [hWV'] at HW
          have HDP := Lib.hid (fun W (h : TabR W w.heap.size (w.heap.size + 1) t) => depth_any (w.heap.size + 1) w.heap.size t a1 W h)
          rw [hdp] at HDP
          have HRN := Lib.hid (fun W (h : TabR W w.heap.size (w.heap.size + 1) t) => runs_any (w.heap.size + 1) w.heap.size t a1 W h)
          rw [hal] at HRN
          have HCL := Lib.hid (fun W (h : TabR W w.heap.size (w.heap.size + 1) t) => close_ok h HOK.out a1)
          have HDA := Lib.hid (fun W (h : TabR W w.heap.size (w.heap.size + 1) (clsF t a1)) => depth_any (w.heap.size + 1) w.heap.size (clsF t a1) a1 W h)
          have HAW := Lib.hid awake_any
          have hno : (al && decide (0 < dp) && !ra) = false → clsE t a1 = 2 ∧ clsP t a1 = false ∧ (at_ (clsF t a1) a1).scopes.length = dp := fun h => by
            obtain ⟨e1, e2, e3⟩ := wait_no hal hdp hWV' h
            exact ⟨e1, e2, by rw [e3, hdp]⟩
          have hyes : al = true → ∀ d, dp = d + 1 → ra = false → clsE t a1 = 0 ∧ clsP t a1 = pa ∧ (at_ (clsF t a1) a1).scopes.length = d := fun h1 d h2 h3 => by
            obtain ⟨e1, e2, e3⟩ := wait_yes (d := d) (by rw [hal, h1]) (by rw [hdp, h2]) (by rw [hWV', h3])
            exact ⟨e1, by rw [e2, hPV'], e3⟩
          obtain ⟨ce, hce⟩ : ∃ x, clsE t a1 = x := ⟨_, rfl⟩
          obtain ⟨cp, hcp⟩ : ∃ x, clsP t a1 = x := ⟨_, rfl⟩
          obtain ⟨cd, hcd⟩ : ∃ x, (at_ (clsF t a1) a1).scopes.length = x := ⟨_, rfl⟩
          rw [hce, hcp, hcd] at hno hyes
          rw [hce, hcp] at HCL
          rw [hcd] at HDA
          clear hce hcp hcd hal hdp hWV' hPV'
          have HCASE := Lib.hid (show (ce = 2 ∧ cp = false ∧ cd = dp ∧ (al && decide (0 < dp) && !ra) = false) ∨ (al = true ∧ ra = false ∧ cp = pa ∧ ce = 0 ∧ dp = cd + 1) by
            cases h : (al && decide (0 < dp) && !ra)
            · obtain ⟨a, b, c⟩ := hno h; exact .inl ⟨a, b, c, rfl⟩
            · simp at h
              obtain ⟨⟨h1, h2⟩, h3⟩ := h
              obtain ⟨a, b, c⟩ := hyes h1 (dp - 1) (by omega) h3
              exact .inr ⟨h1, h3, b, a, by omega⟩)
          clear hno hyes
          go_wp2_with fail
          refine HW.out.mono ?_
          rintro r w3 ⟨rfl, hB3⟩
          have HT3 := Lib.hid (HT1.out.below hB3)
          have HB3 := Lib.hid (HB1.out.trans (hB3.mono HB1.out.size))
          clear hB3
          go_wp2_with fail
          refine (HDP.out _ HT3.out).mono ?_
          rintro r w4 ⟨rfl, rfl⟩
          go_wp2_with fail
          refine (HRN.out _ HT3.out).mono ?_
          rintro r w4 ⟨rfl, rfl⟩
          go_wp2_with fail
          refine (HCL.out _ HT3.out).mono ?_
          rintro r w5 ⟨rfl, hT5, hB5, _⟩
          have HT5 := Lib.hid hT5
          have HB5 := Lib.hid (HB3.out.trans hB5)
          clear hT5 hB5
          have HD5 := Lib.hid (HDA.out _ HT5.out)
          have hwr : IntKind.i64.wrap (cd : Int) = (cd : Int) ∨ 150 < cd := by
            by_cases h : 150 < cd
            · exact .inr h
            · exact .inl (IntWalk.i64_in _ (by omega))
          rcases HCASE.out with ⟨rfl, rfl, rfl, hc⟩ | ⟨rfl, rfl, rfl, rfl, rfl⟩
          · have HC := Lib.hid hc
            cases al
            · go_wp2_with fail
              refine HD5.out.mono ?_
              rintro r w6 ⟨rfl, rfl⟩
              go_wp2_with fail
              refine (HAW.out _).mono ?_
              rintro r w7 ⟨rfl, hB7⟩
              have HB7 := Lib.hid (HB5.out.trans (hB7.mono HB5.out.size))
              clear hB7
              go_wp2
              go_ret
              exact ⟨rfl, HB7.out⟩
            · by_cases hd : 0 < cd
              · have hdI : (0 : Int) < (cd : Int) := by omega
                cases ra
                · exfalso
                  have h2 := HC.out
                  rw [decide_eq_true hd] at h2
                  cases h2
                · clear HC
                  go_wp2_with fail
                  refine HD5.out.mono ?_
                  rintro r w6 ⟨rfl, rfl⟩
                  go_wp2_with fail
                  refine (HAW.out _).mono ?_
                  rintro r w7 ⟨rfl, hB7⟩
                  have HB7 := Lib.hid (HB5.out.trans (hB7.mono HB5.out.size))
                  clear hB7
                  go_wp2
                  go_ret
                  exact ⟨rfl, HB7.out⟩
              · have hdI : ¬ (0 : Int) < (cd : Int) := by omega
                obtain rfl : cd = 0 := by omega
                clear HC
                go_wp2_with fail
                refine HD5.out.mono ?_
                rintro r w6 ⟨rfl, rfl⟩
                go_wp2_with fail
                refine (HAW.out _).mono ?_
                rintro r w7 ⟨rfl, hB7⟩
                have HB7 := Lib.hid (HB5.out.trans (hB7.mono HB5.out.size))
                clear hB7
                go_wp2
                go_ret
                exact ⟨rfl, HB7.out⟩
          · have hw2 : IntKind.i64.wrap (cd : Int) = (cd : Int) := by
              rcases hwr with h | h
              · exact h
              · omega
            clear hwr
            have hdI : (0 : Int) < (cd : Int) + 1 := by omega
            cases cp
            all_goals
              go_wp2_with fail
              refine HD5.out.mono ?_
              rintro r w6 ⟨rfl, rfl⟩
              go_wp2_with fail
              refine (HAW.out _).mono ?_
              rintro r w7 ⟨rfl, hB7⟩
              have HB7 := Lib.hid (HB5.out.trans (hB7.mono HB5.out.size))
              clear hB7
              go_wp2
              go_ret
              exact ⟨rfl, HB7.out⟩
end Go.Proofs.Ytnhhinlhfaapcaa
