/- Threads: ThreadsFull: as many threads as may be are spawned, in whatever scopes, and no more. For whatever bytes. -/
import Derived.Test.YtnhhinlhfaapcaaWaitW
namespace Go.Proofs.Ytnhhinlhfaapcaa
open Go.ChangeShapes Go.WideShapes Go.RowKit
set_option linter.unusedVariables false
set_option linter.unusedSimpArgs false

/-- i threads, all of which run -/
structure Ful (i : Nat) (t : Tab) : Prop where
  n : t.n = i
  tok : Tok i t
  run : ∀ j, j < i → (t.th j).ended = false
theorem Ful.new : Ful 1 newT := ⟨rfl, tok_new.up (by omega), fun j _ => rfl⟩
theorem Ful.ref0 {i p : Nat} {t : Tab} (h : Ful i t) (hp : p < i) : refB t p 0 = false := by
  unfold refB
  rw [has_in (by rw [h.n]; exact hp), at_in (by rw [h.n]; exact hp), h.run p hp, decide_eq_false (by omega)]
  rfl
theorem Ful.opn {i p : Nat} {t : Tab} (h : Ful i t) (hp : p < i) : opnF t p = openT t p := by
  unfold opnF
  rw [h.ref0 hp]
  rfl
theorem ful_spn {i p : Nat} {t : Tab} (h : Ful i t) (hp : p < i) (h16 : i < 16) : spnN (opnF t p) p = i ∧ spnE (opnF t p) p = 0 ∧ Ful (i + 1) (spnF (opnF t p) p) ∧ (at_ (spnF (opnF t p) p) i).parent = p := by
  have hn : (openT t p).n = i := h.n
  have hr : refB (opnF t p) p 1 = false := by
    rw [h.opn hp]
    unfold refB
    rw [has_in (by rw [hn]; exact hp), at_in (by rw [hn]; exact hp)]
    unfold openT
    rw [setTh_at]
    show (!true || (t.th p).ended || decide ((((t.th p).scopes ++ [[]]).length : Int) < 1)) = false
    rw [h.run p hp, decide_eq_false (by simp; omega)]
    rfl
  have ht := ((h.tok.opn (p : Int)).spn (p : Int)).up (Nat.le_refl (i + 1))
  rw [h.opn hp] at hr ht ⊢
  have e : spnF (openT t p) p = spawnT (openT t p) p := by
    unfold spnF
    rw [hr, hn]
    simp only [Bool.false_eq_true, if_false, Int.toNat_natCast]
    rw [if_neg (by omega)]
  have hN : (spawnT (openT t p) p).n = i + 1 := by show (openT t p).n + 1 = i + 1; rw [hn]
  refine ⟨?_, ?_, ?_, ?_⟩
  · unfold spnN
    rw [hr, hn]
    simp only [Bool.false_eq_true, if_false]
    rw [if_neg (by omega)]
  · unfold spnE
    rw [hr, hn]
    simp only [Bool.false_eq_true, if_false]
    rw [if_neg (by omega)]
  · rw [e] at ht ⊢
    refine ⟨hN, ht, fun j hj => ?_⟩
    rw [spawnT_at, hn]
    have hrun : ∀ j, j < i → ((openT t p).th j).ended = false := by
      intro j hj
      unfold openT
      rw [setTh_at']
      split
      · exact h.run p hp
      · exact h.run j hj
    split
    · rfl
    · split
      · exact hrun p hp
      · exact hrun j (by omega)
  · rw [e, at_in (by rw [hN]; omega), spawnT_at, hn, if_pos rfl]
theorem ful_spnI {i p : Nat} {P : Int} {t : Tab} (h : Ful i t) (hp : p < i) (h16 : i < 16) (hP : P = (p : Int)) : spnN (opnF t P) P = i ∧ spnE (opnF t P) P = 0 ∧ Ful (i + 1) (spnF (opnF t P) P) ∧ (at_ (spnF (opnF t P) P) i).parent = P := by
  subst hP
  exact ful_spn h hp h16
theorem ful_end {t : Tab} (h : Ful 16 t) (en : Bool) (t' : Tab) (ht : t' = if en then endF t 15 false else t) : Tok 16 t' ∧ spnF t' 0 = t' ∧ spnN t' 0 = 0 ∧ t'.n = 16 ∧ spnE t' 0 = (if (at_ t' 0).scopes.length = 0 then 2 else 4) := by
  have key : Tok 16 t' ∧ t'.n = 16 ∧ (t'.th 0).ended = false := by
    subst ht
    cases en
    · exact ⟨h.tok, h.n, h.run 0 (by omega)⟩
    · refine ⟨h.tok.end_ 15 false, ?_, ?_⟩
      · show (endF t 15 false).n = 16
        unfold endF
        split
        · exact h.n
        · exact h.n
      · show ((endF t 15 false).th 0).ended = false
        unfold endF
        split
        · exact h.run 0 (by omega)
        · unfold endT
          rw [setTh_at', if_neg (by decide)]
          exact h.run 0 (by omega)
  obtain ⟨k1, k2, k3⟩ := key
  have hr : refB t' 0 1 = decide ((at_ t' 0).scopes.length = 0) := by
    unfold refB
    have ha := has_in (t := t') (i := 0) (by omega)
    have hb := at_in (t := t') (i := 0) (by omega)
    rw [Int.natCast_zero] at ha hb
    rw [ha, hb, k3]
    by_cases h : (t'.th 0).scopes.length = 0
    · rw [decide_eq_true (by omega), decide_eq_true h]; rfl
    · rw [decide_eq_false (by omega), decide_eq_false h]; rfl
  refine ⟨k1, ?_, ?_, k2, ?_⟩
  · unfold spnF
    split
    · rfl
    · rw [if_pos (by omega)]
  · unfold spnN
    split
    · rfl
    · rw [if_pos (by omega)]
  · unfold spnE
    rw [hr]
    by_cases h : (at_ t' 0).scopes.length = 0
    · rw [if_pos (by simpa using h), if_pos h]
    · rw [if_neg (by simpa using h), if_neg h, if_pos (by omega)]
set_option maxRecDepth 100000 in
set_option maxHeartbeats 6400000 in
theorem threadsFull_walk (A0 : Option Addr) (c0 : Nat) (L0 : List Int) (a1 : Bool) (w : World) (rd0 : Rd w w.heap.size 1 byC A0 L0) (g0 : ∀ x ∈ L0, 0 ≤ x ∧ x ≤ 255) (hc0 : L0.length ≤ c0) (hm0 : c0 ≤ maxLen) :
    Calls Try.prog 5 #[.slice A0 L0.length c0, .bool a1] w fun e w' => e = .returned (.bool true) ∧ Below w.heap.size w w' := by
  obtain ⟨nl, hnl⟩ : ∃ n, L0.length = n := ⟨_, rfl⟩
  have HNL := Lib.hid hnl
  rw [hnl] at hc0 ⊢
  have hnm : nl ≤ 9223372036854775807 := by unfold maxLen at hm0; omega
  have HRD := Lib.hid rd0
  have HG := Lib.hid g0
  clear rd0 g0 hnl hm0
  go_enter Try.func5, Try.ntmps5
  go_wp2_with fail
  refine (new_any w).mono ?_
  rintro r w0 ⟨rfl, hT, hB⟩
  have HT0 := Lib.hid hT
  have HB0 := Lib.hid hB
  clear hT hB
  go_wp2
  go_loopw [6] (fun i wr => ∃ (k : Nat) (t : Tab), 1 ≤ k ∧ k ≤ 16 ∧ i = .int .i64 k ∧ Ful k t ∧ TabR wr w.heap.size (w.heap.size + 1) t ∧ Below w.heap.size w wr) (fun i _ => 16 - (intOf i).toNat)
  case atStart => exact ⟨1, _, by omega, by omega, rfl, Ful.new, HT0.out, HB0.out⟩
  case round =>
    obtain ⟨i, t, hi1, hi16, rfl, hF, hT, hB⟩ := hrel
    have HF := Lib.hid hF
    have HT := Lib.hid hT
    have HB := Lib.hid hB
    clear hF hT hB
    by_cases hlt : i < 16
    · have hlI : (i : Int) < 16 := by omega
      by_cases hz : 0 < nl
      · have hzI : (0 : Int) < (nl : Int) := by omega
        obtain ⟨q, hq⟩ : ∃ q, i % nl = q := ⟨_, rfl⟩
        have hqn : q < nl := by rw [← hq]; exact Nat.mod_lt _ hz
        have hmod : (i : Int).tmod (nl : Int) = (q : Int) := by rw [← hq]; exact (Int.ofNat_tmod i nl).symm
        have hnz : ¬ (nl : Int) = 0 := by omega
        have hnd : decide ((nl : Int) = 0) = false := decide_eq_false hnz
        have hne : ((nl : Int) == 0) = false := beq_eq_false_iff_ne.2 hnz
        have hqI : (q : Int) < (nl : Int) := by omega
        have hq0 : (0 : Int) ≤ (q : Int) := by omega
        obtain ⟨x, hx⟩ : ∃ x, L0[q]? = some x := ⟨_, List.getElem?_eq_getElem (by rw [HNL.out]; exact hqn)⟩
        obtain ⟨b, off, rfl, hb, d0⟩ := (HRD.out.below HB.out).by_ hx
        obtain ⟨xn, hxn⟩ : ∃ xn : Nat, x = xn := ⟨x.toNat, by have := HG.out x (List.mem_of_getElem? hx); omega⟩
        have hx255 : xn ≤ 255 := by have := HG.out x (List.mem_of_getElem? hx); omega
        rw [hxn] at d0
        obtain ⟨p, hpe⟩ : ∃ p, xn % i = p := ⟨_, rfl⟩
        have hp : p < i := by rw [← hpe]; exact Nat.mod_lt _ hi1
        have hmod2 : (xn : Int).tmod (i : Int) = (p : Int) := by rw [← hpe]; exact (Int.ofNat_tmod xn i).symm
        have hiz : ¬ (i : Int) = 0 := by omega
        have hid : decide ((i : Int) = 0) = false := decide_eq_false hiz
        have hie : ((i : Int) == 0) = false := beq_eq_false_iff_ne.2 hiz
        clear hx hxn hq hpe
        go_upto_region 8 with fail
        go_wp2_with fail
        have HS := Lib.hid (ful_spnI HF.out hp hlt rfl)
        have HO := Lib.hid ((open_ok (by omega) HT.out HF.out.tok (p : Int)).mono (fun r w' h => (⟨⟨_, h.1⟩, h.2⟩ : (∃ e, r = .returned (.int .i64 e)) ∧ Left _ _ _ (opnF t (p : Int)) w')))
        refine HO.out.mono ?_
        rintro r w1 ⟨⟨e, rfl⟩, hT1, hB1, _⟩
        have HT1 := Lib.hid hT1
        have HB1 := Lib.hid (HB.out.trans hB1)
        clear hT1 hB1
        have HSP := Lib.hid (spawn_ok (by omega) HT1.out (HF.out.tok.opn (p : Int)) (p : Int))
        rw [HS.out.1, HS.out.2.1] at HSP
        go_wp2_with fail
        refine HSP.out.mono ?_
        rintro r w2 ⟨rfl, hT2, hB2, _⟩
        have HT2 := Lib.hid hT2
        have HB2 := Lib.hid (HB1.out.trans hB2)
        clear hT2 hB2
        have HPA := Lib.hid (parent_any (w.heap.size + 1) w.heap.size _ (i : Int) w2 HT2.out)
        rw [HS.out.2.2.2] at HPA
        go_wp2_with fail
        refine HPA.out.mono ?_
        rintro r w3 ⟨rfl, rfl⟩
        go_wp2
        go_roundw
        case rel => exact ⟨i + 1, _, by omega, by omega, by go_num, HS.out.2.2.1, HT2.out, HB2.out⟩
        case measure => simp [intOf] <;> omega
      · have hzI : ¬ (0 : Int) < (nl : Int) := by omega
        go_wp2_with fail
        have HS := Lib.hid (ful_spnI (p := 0) (P := 0) HF.out (by omega) hlt rfl)
        have HO := Lib.hid ((open_ok (by omega) HT.out HF.out.tok 0).mono (fun r w' h => (⟨⟨_, h.1⟩, h.2⟩ : (∃ e, r = .returned (.int .i64 e)) ∧ Left _ _ _ (opnF t 0) w')))
        refine HO.out.mono ?_
        rintro r w1 ⟨⟨e, rfl⟩, hT1, hB1, _⟩
        have HT1 := Lib.hid hT1
        have HB1 := Lib.hid (HB.out.trans hB1)
        clear hT1 hB1
        have HSP := Lib.hid (spawn_ok (by omega) HT1.out (HF.out.tok.opn 0) 0)
        rw [HS.out.1, HS.out.2.1] at HSP
        go_wp2_with fail
        refine HSP.out.mono ?_
        rintro r w2 ⟨rfl, hT2, hB2, _⟩
        have HT2 := Lib.hid hT2
        have HB2 := Lib.hid (HB1.out.trans hB2)
        clear hT2 hB2
        have HPA := Lib.hid (parent_any (w.heap.size + 1) w.heap.size _ (i : Int) w2 HT2.out)
        rw [HS.out.2.2.2] at HPA
        go_wp2_with fail
        refine HPA.out.mono ?_
        rintro r w3 ⟨rfl, rfl⟩
        go_wp2
        go_roundw
        case rel => exact ⟨i + 1, _, by omega, by omega, by go_num, HS.out.2.2.1, HT2.out, HB2.out⟩
        case measure => simp [intOf] <;> omega
    · obtain rfl : i = 16 := by omega
      cases a1
      · have HT1 := HT
        have HB1 := HB
        obtain ⟨k1, k2, k3, k4, k5⟩ := ful_end HF.out false _ rfl
        simp only [if_true, if_false, Bool.false_eq_true, reduceIte] at k1 k2 k3 k4 k5
        have HSP := Lib.hid (spawn_ok (by omega) HT1.out k1 0)
        rw [k2, k3, k5] at HSP
        obtain ⟨d, hd⟩ : ∃ d, (at_ (t) 0).scopes.length = d := ⟨_, rfl⟩
        rw [hd] at HSP
        have HDP := Lib.hid (fun W (h : TabR W w.heap.size (w.heap.size + 1) (t)) => depth_any (w.heap.size + 1) w.heap.size (t) 0 W h)
        rw [hd] at HDP
        have HLN := Lib.hid (fun W (h : TabR W w.heap.size (w.heap.size + 1) (t)) => len_any (w.heap.size + 1) w.heap.size (t) W h)
        rw [k4] at HLN
        have HAW := Lib.hid awake_any
        clear k1 k2 k3 k4 k5 hd
        by_cases hd0 : d = 0
        · subst hd0
          simp only [if_true, reduceIte] at HSP
          go_wp2_with fail
          refine HSP.out.mono ?_
          rintro r w2 ⟨rfl, hT2, hB2, _⟩
          have HT2 := Lib.hid hT2
          have HB2 := Lib.hid (HB1.out.trans hB2)
          clear hT2 hB2
          go_wp2_with fail
          refine (HDP.out _ HT2.out).mono ?_
          rintro r w3 ⟨rfl, rfl⟩
          go_wp2_with fail
          refine (HAW.out _).mono ?_
          rintro r w4 ⟨rfl, hB4⟩
          have HB4 := Lib.hid (HB2.out.trans (hB4.mono HB2.out.size))
          clear hB4
          go_wp2
          go_ret
          exact ⟨rfl, HB4.out⟩
        · have hdI : ¬ (d : Int) = 0 := by omega
          have hde : ((d : Int) == 0) = false := beq_eq_false_iff_ne.2 hdI
          rw [if_neg hd0] at HSP
          go_wp2_with fail
          refine HSP.out.mono ?_
          rintro r w2 ⟨rfl, hT2, hB2, _⟩
          have HT2 := Lib.hid hT2
          have HB2 := Lib.hid (HB1.out.trans hB2)
          clear hT2 hB2
          go_wp2_with fail
          refine (HDP.out _ HT2.out).mono ?_
          rintro r w3 ⟨rfl, rfl⟩
          go_wp2_with fail
          refine (HLN.out _ HT2.out).mono ?_
          rintro r w3 ⟨rfl, rfl⟩
          go_wp2_with fail
          refine (HAW.out _).mono ?_
          rintro r w4 ⟨rfl, hB4⟩
          have HB4 := Lib.hid (HB2.out.trans (hB4.mono HB2.out.size))
          clear hB4
          go_wp2
          go_ret
          exact ⟨rfl, HB4.out⟩
      · go_wp2_with fail
        have HE := Lib.hid ((end_ok HT.out 15 false).mono (fun r w' h => (⟨⟨_, h.1⟩, h.2⟩ : (∃ e, r = .returned (.int .i64 e)) ∧ Left _ _ _ (endF t 15 false) w')))
        refine HE.out.mono ?_
        rintro r w1 ⟨⟨e, rfl⟩, hT1, hB1, _⟩
        have HT1 := Lib.hid hT1
        have HB1 := Lib.hid (HB.out.trans hB1)
        clear hT1 hB1
        obtain ⟨k1, k2, k3, k4, k5⟩ := ful_end HF.out true _ rfl
        simp only [if_true, if_false, Bool.false_eq_true, reduceIte] at k1 k2 k3 k4 k5
        have HSP := Lib.hid (spawn_ok (by omega) HT1.out k1 0)
        rw [k2, k3, k5] at HSP
        obtain ⟨d, hd⟩ : ∃ d, (at_ (endF t 15 false) 0).scopes.length = d := ⟨_, rfl⟩
        rw [hd] at HSP
        have HDP := Lib.hid (fun W (h : TabR W w.heap.size (w.heap.size + 1) (endF t 15 false)) => depth_any (w.heap.size + 1) w.heap.size (endF t 15 false) 0 W h)
        rw [hd] at HDP
        have HLN := Lib.hid (fun W (h : TabR W w.heap.size (w.heap.size + 1) (endF t 15 false)) => len_any (w.heap.size + 1) w.heap.size (endF t 15 false) W h)
        rw [k4] at HLN
        have HAW := Lib.hid awake_any
        clear k1 k2 k3 k4 k5 hd
        by_cases hd0 : d = 0
        · subst hd0
          simp only [if_true, reduceIte] at HSP
          go_wp2_with fail
          refine HSP.out.mono ?_
          rintro r w2 ⟨rfl, hT2, hB2, _⟩
          have HT2 := Lib.hid hT2
          have HB2 := Lib.hid (HB1.out.trans hB2)
          clear hT2 hB2
          go_wp2_with fail
          refine (HDP.out _ HT2.out).mono ?_
          rintro r w3 ⟨rfl, rfl⟩
          go_wp2_with fail
          refine (HAW.out _).mono ?_
          rintro r w4 ⟨rfl, hB4⟩
          have HB4 := Lib.hid (HB2.out.trans (hB4.mono HB2.out.size))
          clear hB4
          go_wp2
          go_ret
          exact ⟨rfl, HB4.out⟩
        · have hdI : ¬ (d : Int) = 0 := by omega
          have hde : ((d : Int) == 0) = false := beq_eq_false_iff_ne.2 hdI
          rw [if_neg hd0] at HSP
          go_wp2_with fail
          refine HSP.out.mono ?_
          rintro r w2 ⟨rfl, hT2, hB2, _⟩
          have HT2 := Lib.hid hT2
          have HB2 := Lib.hid (HB1.out.trans hB2)
          clear hT2 hB2
          go_wp2_with fail
          refine (HDP.out _ HT2.out).mono ?_
          rintro r w3 ⟨rfl, rfl⟩
          go_wp2_with fail
          refine (HLN.out _ HT2.out).mono ?_
          rintro r w3 ⟨rfl, rfl⟩
          go_wp2_with fail
          refine (HAW.out _).mono ?_
          rintro r w4 ⟨rfl, hB4⟩
          have HB4 := Lib.hid (HB2.out.trans (hB4.mono HB2.out.size))
          clear hB4
          go_wp2
          go_ret
          exact ⟨rfl, HB4.out⟩
end Go.Proofs.Ytnhhinlhfaapcaa
