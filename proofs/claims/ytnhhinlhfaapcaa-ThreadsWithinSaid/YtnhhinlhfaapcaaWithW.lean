/- Threads: ThreadsWithin: a thread ends ahead of its parent, whatever is called. For whatever calls. -/
import Derived.Test.YtnhhinlhfaapcaaWaitW
namespace Go.Proofs.Ytnhhinlhfaapcaa
open Go.ChangeShapes Go.WideShapes Go.RowKit
set_option linter.unusedVariables false
set_option linter.unusedSimpArgs false

theorem Tok.within {k n : Nat} {t : Tab} (h : Tok k t) (h0 : 0 < n) (hn : n < t.n) : ∃ p : Nat, p < n ∧ (at_ t n).parent = (p : Int) ∧ ((hasB t n && !(at_ t n).ended) = true → (hasB t p && !(at_ t p).ended) = true ∧ 0 < (at_ t p).scopes.length) := by
  obtain ⟨p, hp, e, hr⟩ := h.par n h0 hn
  rw [at_in hn, has_in hn]
  have hpn : p < t.n := by omega
  refine ⟨p, hp, e, fun ha => ?_⟩
  rw [at_in hpn, has_in hpn]
  simp at ha
  obtain ⟨r, hr1, hr2⟩ := hr ha
  have hl := List.length_pos_of_mem hr1
  refine ⟨?_, hl⟩
  cases he : (t.th p).ended
  · rfl
  · rw [h.fin p hpn he] at hl
    cases hl
set_option maxRecDepth 100000 in
set_option maxHeartbeats 6400000 in
theorem threadsWithin_walk (A0 : Option Addr) (c0 : Nat) (L0 : List Ac) (w : World) (rd0 : Rd w w.heap.size 3 acC A0 L0) (g0 : ∀ x ∈ L0, AcOk x) (hc0 : L0.length ≤ c0) (hm0 : c0 ≤ maxLen) :
    Calls Try.prog 6 #[.slice A0 L0.length c0] w fun e w' => e = .returned (.bool true) ∧ Below w.heap.size w w' := by
  obtain ⟨nl, hnl⟩ : ∃ n, L0.length = n := ⟨_, rfl⟩
  have HNL := Lib.hid hnl
  rw [hnl] at hc0 ⊢
  have HRD := Lib.hid rd0
  have HG := Lib.hid g0
  clear rd0 g0 hnl hm0
  by_cases h150 : 150 < nl
  · have h150I : (150 : Int) < (nl : Int) := by omega
    go_enter Try.func6, Try.ntmps6
    go_wp2_with fail
    refine (awake_any _).mono ?_
    rintro r w1 ⟨rfl, hB⟩
    have HB := Lib.hid hB
    clear hB
    go_wp2
    go_ret
    exact ⟨rfl, HB.out⟩
  have h150I : ¬ (150 : Int) < (nl : Int) := by omega
  go_enter Try.func6, Try.ntmps6
  go_wp2_with fail
  refine (new_any w).mono ?_
  rintro r w0 ⟨rfl, hT, hB⟩
  have HT0 := Lib.hid hT
  have HB0 := Lib.hid hB
  clear hT hB
  go_wp2
  go_loopw [4] (fun i wr => ∃ k : Nat, k ≤ nl ∧ i = .int .i64 k ∧ TabR wr w.heap.size (w.heap.size + 1) (runA (L0.take k)) ∧ Below w.heap.size w wr) (fun i _ => nl - (intOf i).toNat)
  case atStart => exact ⟨0, by omega, rfl, HT0.out, HB0.out⟩
  case round =>
    obtain ⟨k, hk, rfl, hT, hB⟩ := hrel
    have HT := Lib.hid hT
    have HB := Lib.hid hB
    clear hT hB
    by_cases hlt : k < nl
    · have hlI : (k : Int) < (nl : Int) := by omega
      obtain ⟨x, hx⟩ : ∃ x, L0[k]? = some x := ⟨_, List.getElem?_eq_getElem (by rw [HNL.out]; exact hlt)⟩
      have hok := HG.out x (List.mem_of_getElem? hx)
      obtain ⟨b, off, rfl, hb, d0, d1, d2⟩ := (HRD.out.below HB.out).ac hx
      have HC := Lib.hid (act_ok (by have := h150; have : (L0.take k).length ≤ k := List.length_take_le _ _; omega) HT.out (Tok.run (L0.take k)) x hok.k0 hok.k1)
      have HX := Lib.hid hx
      clear hx hok
      go_wp2_with fail
      refine HC.out.mono ?_
      rintro r w1 ⟨⟨v, rfl⟩, hT1, hB1, _⟩
      have HT1 := Lib.hid hT1
      have HB1 := Lib.hid (HB.out.trans hB1)
      clear hT1 hB1
      obtain ⟨t, ht⟩ : ∃ t, t = actF (runA (L0.take k)) x := ⟨_, rfl⟩
      have hok := (Tok.run (L0.take k)).act x
      rw [← ht] at hok HT1
      have HOK := Lib.hid hok
      have HTT := Lib.hid ht
      clear ht hok
      obtain ⟨nt, hnt⟩ : ∃ n, t.n = n := ⟨_, rfl⟩
      have hn16 := HOK.out.n16
      have HLN := Lib.hid (len_any (w.heap.size + 1) w.heap.size t w1 HT1.out)
      rw [hnt] at HLN hn16
      have HNT := Lib.hid hnt
      clear hnt d0 d1 d2
      go_wp2
      go_loopw [5] (fun i wr => ∃ m : Nat, 1 ≤ m ∧ m ≤ 16 ∧ i = .int .i64 m ∧ wr = w1) (fun i _ => 17 - (intOf i).toNat)
      case atStart => exact ⟨1, by omega, by omega, rfl, rfl⟩
      case round =>
        obtain ⟨m, hm1, hm16, rfl, rfl⟩ := hrel
        by_cases hlt2 : m < nt
        · have hlI2 : (m : Int) < (nt : Int) := by omega
          obtain ⟨p, hp, hpa, hpp⟩ := HOK.out.within hm1 (by rw [HNT.out]; exact hlt2)
          have HP := Lib.hid (parent_any (w.heap.size + 1) w.heap.size t (m : Int) wr HT1.out)
          rw [hpa] at HP
          have HR := Lib.hid (runs_any (w.heap.size + 1) w.heap.size t (m : Int) wr HT1.out)
          obtain ⟨al, hal⟩ : ∃ b, (hasB t m && !(at_ t m).ended) = b := ⟨_, rfl⟩
          rw [hal] at HR hpp
          have HRP := Lib.hid (runs_any (w.heap.size + 1) w.heap.size t (p : Int) wr HT1.out)
          have HDP := Lib.hid (depth_any (w.heap.size + 1) w.heap.size t (p : Int) wr HT1.out)
          have hp0 : ¬ (p : Int) < 0 := by omega
          have hpm : ¬ (m : Int) ≤ (p : Int) := by omega
          clear hpa hal
          cases al
          · clear hpp
            go_wp2_with fail
            refine HLN.out.mono ?_
            rintro r w2 ⟨rfl, rfl⟩
            go_wp2_with fail
            refine HP.out.mono ?_
            rintro r w2 ⟨rfl, rfl⟩
            go_wp2_with fail
            refine HR.out.mono ?_
            rintro r w2 ⟨rfl, rfl⟩
            go_wp2
            go_roundw
            case rel => exact ⟨m + 1, by omega, by omega, by go_num, trivial⟩
            case measure => simp [intOf] <;> omega
          · obtain ⟨e1, e2⟩ := hpp rfl
            rw [e1] at HRP
            obtain ⟨d, hd⟩ : ∃ d, (at_ t p).scopes.length = d := ⟨_, rfl⟩
            rw [hd] at HDP e2
            have hdI : ¬ (d : Int) = 0 := by omega
            have hde : ((d : Int) == 0) = false := beq_eq_false_iff_ne.2 hdI
            clear hpp e1 hd
            go_wp2_with fail
            refine HLN.out.mono ?_
            rintro r w2 ⟨rfl, rfl⟩
            go_wp2_with fail
            refine HP.out.mono ?_
            rintro r w2 ⟨rfl, rfl⟩
            go_wp2_with fail
            refine HR.out.mono ?_
            rintro r w2 ⟨rfl, rfl⟩
            go_wp2_with fail
            refine HRP.out.mono ?_
            rintro r w2 ⟨rfl, rfl⟩
            go_wp2_with fail
            refine HDP.out.mono ?_
            rintro r w2 ⟨rfl, rfl⟩
            go_wp2
            go_roundw
            case rel => exact ⟨m + 1, by omega, by omega, by go_num, trivial⟩
            case measure => simp [intOf] <;> omega
        · have hlI2 : ¬ (m : Int) < (nt : Int) := by omega
          go_wp2_with fail
          refine HLN.out.mono ?_
          rintro r w2 ⟨rfl, rfl⟩
          go_wp2
          go_roundw
          case rel => exact ⟨k + 1, by omega, by go_num, by rw [runA_take HX.out, ← HTT.out]; exact HT1.out, HB1.out⟩
          case measure => simp [intOf] <;> omega
    · obtain rfl : nl = k := by omega
      go_wp2_with fail
      refine (awake_any _).mono ?_
      rintro r w1 ⟨rfl, hB1⟩
      have HB1 := Lib.hid (HB.out.trans (hB1.mono HB.out.size))
      clear hB1
      go_wp2
      go_ret
      exact ⟨rfl, HB1.out⟩
end Go.Proofs.Ytnhhinlhfaapcaa
