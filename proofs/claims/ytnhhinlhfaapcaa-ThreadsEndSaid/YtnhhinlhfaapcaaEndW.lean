/- Threads: ThreadsEnd: if all that can be are ended, and scopes closed, again and again, all threads end. For whatever calls, wherever a round begins. -/
import Derived.Test.YtnhhinlhfaapcaaWaitW
namespace Go.Proofs.Ytnhhinlhfaapcaa
open Go.ChangeShapes Go.WideShapes Go.RowKit
set_option linter.unusedVariables false
set_option linter.unusedSimpArgs false

theorem u64_rem (a : Int) (n : Nat) (hn : 0 < n) : ∃ p : Nat, p < n ∧ (IntKind.u64.wrap a).tmod (n : Int) = (p : Int) := by
  have h0 : 0 ≤ IntKind.u64.wrap a := by
    simp only [IntKind.wrap, IntKind.bits, IntKind.signed]
    simp
    omega
  obtain ⟨u, hu⟩ : ∃ u : Nat, IntKind.u64.wrap a = u := ⟨_, (Int.toNat_of_nonneg h0).symm⟩
  refine ⟨u % n, Nat.mod_lt _ hn, ?_⟩
  rw [hu]
  exact (Int.ofNat_tmod u n).symm
theorem closeT_ended (t : Tab) (i j : Nat) : ((closeT t i).th j).ended = (t.th j).ended := by
  unfold closeT
  rw [setTh_at']
  split
  · rename_i e; subst e; rfl
  · rfl
theorem clsF_ended (t : Tab) (n : Int) (j : Nat) : ((clsF t n).th j).ended = (t.th j).ended := by
  unfold clsF
  split
  · rfl
  · split
    · rfl
    · exact closeT_ended t _ j
theorem clsF_n (t : Tab) (n : Int) : (clsF t n).n = t.n := by
  unfold clsF
  split
  · rfl
  · split <;> rfl
theorem endF_n (t : Tab) (n : Int) (p : Bool) : (endF t n p).n = t.n := by
  unfold endF
  split <;> rfl
theorem endF_ended {t : Tab} {n : Int} {p : Bool} {j : Nat} (h : (t.th j).ended = true) : ((endF t n p).th j).ended = true := by
  unfold endF
  split
  · exact h
  · unfold endT
    rw [setTh_at']
    split
    · rfl
    · exact h
theorem endF_ends {t : Tab} {q : Nat} {p : Bool} (hq : q < t.n) (hd : dep t q = 0) : ((endF t q p).th q).ended = true := by
  cases he : (t.th q).ended
  · have hb : endBad t q = false := by
      unfold endBad refB
      rw [has_in hq, at_in hq, he]
      unfold dep at hd
      rw [hd]
      decide
    unfold endF
    rw [hb]
    simp only [Bool.false_eq_true, if_false, Int.toNat_natCast]
    unfold endT
    rw [setTh_at]
  · exact endF_ended he
/-- a table under way: nothing that has ended runs again -/
structure EndS (k N : Nat) (t2 t : Tab) : Prop where
  tok : Tok k t
  n : t.n = N
  mono : ∀ m, m < N → (t2.th m).ended = true → (t.th m).ended = true
theorem EndS.refl {k : Nat} {t : Tab} (h : Tok k t) : EndS k t.n t t := ⟨h, rfl, fun _ _ h => h⟩
theorem EndS.cls {k N : Nat} {t2 t : Tab} (h : EndS k N t2 t) (q : Int) : EndS k N t2 (clsF t q) := ⟨h.tok.cls q, (clsF_n t q).trans h.n, fun m hm hh => (clsF_ended t q m).trans (h.mono m hm hh)⟩
theorem EndS.end_ {k N : Nat} {t2 t : Tab} (h : EndS k N t2 t) (q : Int) (p : Bool) : EndS k N t2 (endF t q p) := ⟨h.tok.end_ q p, (endF_n t q p).trans h.n, fun m hm hh => endF_ended (h.mono m hm hh)⟩
/-- if all behind q had ended, q has -/
def Gq (N : Nat) (t2 t : Tab) (q : Nat) : Prop := (∀ m, q < m → m < N → (t2.th m).ended = true) → (t.th q).ended = true
def Xq (N : Nat) (t : Tab) (q : Nat) : Prop := (t.th q).ended = true ∨ dep t q = 0 ∨ ∃ m, q < m ∧ m < N ∧ (t.th m).ended = false
theorem gq_end {k N q : Nat} {t2 t : Tab} (h : EndS k N t2 t) (hq : q < N) (hx : Xq N t q) : Gq N t2 (endF t q false) q := by
  intro ha
  rcases hx with hx | hx | ⟨m, h1, h2, h3⟩
  · exact endF_ended hx
  · exact endF_ends (by rw [h.n]; exact hq) hx
  · rw [h.mono m h2 (ha m h1 h2)] at h3
    cases h3
theorem gq_all {N f : Nat} {t2 t : Tab} (hN : 0 < N) (h : ∀ j, j < N → Gq N t2 t ((f + j) % N)) : ∀ q, q < N → Gq N t2 t q := by
  intro q hq
  have key : ∃ j, j < N ∧ (f + j) % N = q := by
    have hf := Nat.mod_lt f hN
    by_cases hle : f % N ≤ q
    · refine ⟨q - f % N, by omega, ?_⟩
      rw [Nat.add_mod, Nat.mod_eq_of_lt (show q - f % N < N by omega), show f % N + (q - f % N) = q by omega]
      exact Nat.mod_eq_of_lt hq
    · refine ⟨q + N - f % N, by omega, ?_⟩
      rw [Nat.add_mod, Nat.mod_eq_of_lt (show q + N - f % N < N by omega), show f % N + (q + N - f % N) = q + N by omega, Nat.add_mod_right]
      exact Nat.mod_eq_of_lt hq
  obtain ⟨j, hj, e⟩ := key
  rw [← e]
  exact h j hj
/-- one call of Close at a thread that runs and has a scope -/
theorem close_case {k N q : Nat} {t : Tab} (h : Tok k t) (hn : t.n = N) (hq : q < N) (hal : (hasB t q && !(at_ t q).ended) = true) {d : Nat} (hd : (at_ t q).scopes.length = d + 1) :
    (clsE t q = 2 ∧ Xq N (clsF t q) q) ∨ (clsE t q = 0 ∧ dep (clsF t q) q = d) := by
  cases hw : waitsB t q
  · obtain ⟨e1, e2, e3⟩ := wait_yes hal hd hw
    rw [at_in (by rw [clsF_n]; omega)] at e3
    exact .inr ⟨e1, e3⟩
  · obtain ⟨e1, e2, e3⟩ := wait_no hal hd hw (by simp)
    refine .inl ⟨e1, .inr (.inr ?_)⟩
    rw [e3]
    unfold waitsB at hw
    rw [List.any_eq_true] at hw
    obtain ⟨m, hm, hm2⟩ := hw
    have := (h.memrow (q : Int)).2 m hm
    exact ⟨m, by omega, by omega, by simpa using hm2⟩
theorem dep_fun (B g q : Nat) : ∃ M : World → Nat, ∀ W t, TabR W B g t → q < t.n → M W = dep t q := by
  classical
  refine ⟨fun W => if h : ∃ t, TabR W B g t ∧ q < t.n then dep (Classical.choose h) q else 0, fun W t ht hq => ?_⟩
  have h : ∃ t, TabR W B g t ∧ q < t.n := ⟨t, ht, hq⟩
  show (if h : ∃ t, TabR W B g t ∧ q < t.n then dep (Classical.choose h) q else 0) = _
  rw [dif_pos h]
  obtain ⟨⟨v, S, C, hx⟩, h2⟩ := Classical.choose_spec h
  obtain ⟨v', S', C', hx'⟩ := ht
  exact ((hx.uniq hx').2 q h2).1
set_option maxRecDepth 100000 in
set_option maxHeartbeats 12000000 in
theorem threadsEnd_walk (A0 : Option Addr) (c0 : Nat) (L0 : List Ac) (a1 : Int) (w : World) (rd0 : Rd w w.heap.size 3 acC A0 L0) (g0 : ∀ x ∈ L0, AcOk x) (hc0 : L0.length ≤ c0) (hm0 : c0 ≤ maxLen) (i1 : (Lit.int .i64 a1).wf = true) :
    Calls Try.prog 4 #[.slice A0 L0.length c0, .int .i64 a1] w fun e w' => e = .returned (.bool true) ∧ Below w.heap.size w w' := by
  obtain ⟨nl, hnl⟩ : ∃ n, L0.length = n := ⟨_, rfl⟩
  have HNL := Lib.hid hnl
  rw [hnl] at hc0 ⊢
  have HRD := Lib.hid rd0
  have HG := Lib.hid g0
  clear rd0 g0 hnl hm0 i1
  by_cases h150 : 150 < nl
  · have h150I : (150 : Int) < (nl : Int) := by omega
    go_enter Try.func4, Try.ntmps4
    go_wp2_with fail
    refine (awake_any _).mono ?_
    rintro r w1 ⟨rfl, hB⟩
    have HB := Lib.hid hB
    clear hB
    go_wp2
    go_ret
    exact ⟨rfl, HB.out⟩
  have h150I : ¬ (150 : Int) < (nl : Int) := by omega
  go_enter Try.func4, Try.ntmps4
  go_wp2_with fail
  refine (new_any w).mono ?_
  rintro r w0 ⟨rfl, hT, hB⟩
  have HT0 := Lib.hid hT
  have HB0 := Lib.hid hB
  clear hT hB
  go_wp2
  go_loopw [6] (fun i wr => ∃ k : Nat, k ≤ nl ∧ i = .int .i64 k ∧ TabR wr w.heap.size (w.heap.size + 1) (runA (L0.take k)) ∧ Below w.heap.size w wr) (fun i _ => nl - (intOf i).toNat)
  case atStart => exact ⟨0, by omega, rfl, HT0.out, HB0.out⟩
  case round =>
    obtain ⟨k, hk, rfl, hT, hB⟩ := hrel
    have HT := Lib.hid hT
    have HB := Lib.hid hB
    clear hT hB
    by_cases hlt : k < nl
    · have hlI : (k : Int) < (nl : Int) := by omega
      obtain ⟨x, hx⟩ : ∃ x, L0[k]? = some x := ⟨_, List.getElem?_eq_getElem (by rw [HNL.out]; exact hlt)⟩
      have hok := HG.out x (List.mem_of_getElem? hx)
      obtain ⟨b, off, rfl, hb, d0, d1, d2⟩ := (HRD.out.below HB.out).ac hx
      have HC := Lib.hid (act_ok (by have := h150; have : (L0.take k).length ≤ k := List.length_take_le _ _; omega) HT.out (Tok.run (L0.take k)) x hok.k0 hok.k1)
      have HX := Lib.hid hx
      clear hx hok
      go_wp2_with fail
      refine HC.out.mono ?_
      rintro r w1 ⟨⟨v, rfl⟩, hT1, hB1, _⟩
      have HT1 := Lib.hid hT1
      have HB1 := Lib.hid (HB.out.trans hB1)
      clear hT1 hB1
      go_wp2
      go_roundw
      case rel => exact ⟨k + 1, by omega, by go_num, by rw [runA_take HX.out]; exact HT1.out, HB1.out⟩
      case measure => simp [intOf] <;> omega
    · obtain rfl : nl = k := by omega
      have ht : runA (L0.take nl) = runA L0 := by rw [List.take_of_length_le (by rw [HNL.out]; exact Nat.le_refl _)]
      rw [ht] at HT
      clear ht
      obtain ⟨t, htt⟩ : ∃ t, t = runA L0 := ⟨_, rfl⟩
      have hok := Tok.run L0
      rw [HNL.out, ← htt] at hok
      rw [← htt] at HT
      clear htt
      have HOK := Lib.hid hok
      clear hok
      obtain ⟨N, hN⟩ : ∃ n, t.n = n := ⟨_, rfl⟩
      have hN16 := HOK.out.n16
      have hN0 := HOK.out.n0
      have HLN := Lib.hid (len_any (w.heap.size + 1) w.heap.size t wr HT.out)
      rw [hN] at HLN hN16 hN0
      have HES := EndS.refl HOK.out
      rw [hN] at HES
      have HES := Lib.hid HES
      clear hN
      have hNle : ¬ (N : Int) ≤ 0 := by omega
      have hNz : ¬ N = 0 := by omega
      have hNzd : decide (N = 0) = false := decide_eq_false hNz
      have hwN : IntKind.u64.wrap (N : Int) = (N : Int) := by
        simp only [IntKind.wrap, IntKind.bits, IntKind.signed]
        simp
        omega
      obtain ⟨f, hf, hfe⟩ := u64_rem a1 N hN0
      have hwf : IntKind.i64.wrap (f : Int) = (f : Int) := IntWalk.i64_in _ (by omega)
      have hnz : ¬ (N : Int) = 0 := by omega
      have hnd : decide ((N : Int) = 0) = false := decide_eq_false hnz
      have hne : ((N : Int) == 0) = false := beq_eq_false_iff_ne.2 hnz
      go_wp2_with fail
      refine HLN.out.mono ?_
      rintro r w2 ⟨rfl, rfl⟩
      go_upto_region 12 with fail
      go_wp2
      go_loopw [8] (fun i w1 => ∃ (r : Nat) (t2 : Tab), r ≤ N + 1 ∧ i = .int .i64 r ∧ Tok nl t2 ∧ t2.n = N ∧ (∀ q, q < N → N ≤ q + r → (t2.th q).ended = true) ∧ TabR w1 w.heap.size (w.heap.size + 1) t2 ∧ Below w.heap.size w w1) (fun i _ => 20 - (intOf i).toNat)
      case atStart => exact ⟨0, t, by omega, rfl, HES.out.tok, HES.out.n, fun q h1 h2 => absurd h1 (by omega), HT.out, HB.out⟩
      case round =>
        obtain ⟨r, t2, hr, rfl, hok2, hn2, hend2, hT2, hB2⟩ := hrel
        have HOK2 := Lib.hid hok2
        have HN2 := Lib.hid hn2
        have HEND2 := Lib.hid hend2
        have HT2 := Lib.hid hT2
        have HB2 := Lib.hid hB2
        clear hok2 hn2 hend2 hT2 hB2
        by_cases hrN : r ≤ N
        · have hrI : (r : Int) ≤ (N : Int) := by omega
          go_wp2
          go_loopw [9] (fun i w1 => ∃ (jj : Nat) (t3 : Tab), jj ≤ N ∧ i = .int .i64 jj ∧ EndS nl N t2 t3 ∧ (∀ j', j' < jj → Gq N t2 t3 ((f + j') % N)) ∧ TabR w1 w.heap.size (w.heap.size + 1) t3 ∧ Below w.heap.size w w1) (fun i _ => 20 - (intOf i).toNat)
          case atStart => exact ⟨0, t2, by omega, rfl, ⟨HOK2.out, HN2.out, fun _ _ h => h⟩, fun j' h => absurd h (by omega), HT2.out, HB2.out⟩
          case round =>
            obtain ⟨jj, t3, hjj, rfl, hes, hgj, hT3, hB3⟩ := hrel
            have HS3 := Lib.hid hes
            have HGJ := Lib.hid hgj
            have HT3 := Lib.hid hT3
            have HB3 := Lib.hid hB3
            clear hes hgj hT3 hB3
            by_cases hjN : jj < N
            · have hjI : (jj : Int) < (N : Int) := by omega
              obtain ⟨q, hq⟩ : ∃ q, (f + jj) % N = q := ⟨_, rfl⟩
              have hqN : q < N := by rw [← hq]; exact Nat.mod_lt _ hN0
              have hadd : (f : Int) + (jj : Int) = ((f + jj : Nat) : Int) := by omega
              have hmod : ((f : Int) + (jj : Int)).tmod (N : Int) = (q : Int) := by rw [← hq, hadd]; exact (Int.ofNat_tmod _ N).symm
              have HQ := Lib.hid hq
              clear hq hadd
              go_upto_region 19 with fail
              obtain ⟨M, hM⟩ := dep_fun w.heap.size (w.heap.size + 1) q
              go_loopw [] (fun w1 => ∃ (t4 : Tab), EndS nl N t2 t4 ∧ (∀ m, m < N → (t3.th m).ended = true → (t4.th m).ended = true) ∧ TabR w1 w.heap.size (w.heap.size + 1) t4 ∧ Below w.heap.size w w1) (fun w1 => M w1)
              case atStart => exact ⟨t3, HS3.out, fun _ _ h => h, HT3.out, HB3.out⟩
              case round =>
                obtain ⟨t4, hs4, hm4, hT4, hB4⟩ := hrel
                have HS4 := Lib.hid hs4
                have HM4 := Lib.hid hm4
                have HT4 := Lib.hid hT4
                have HB4 := Lib.hid hB4
                clear hs4 hm4 hT4 hB4
                obtain ⟨d, hd⟩ : ∃ d, (at_ t4 q).scopes.length = d := ⟨_, rfl⟩
                have hqt : q < t4.n := by rw [HS4.out.n]; exact hqN
                have HD := Lib.hid (depth_any (w.heap.size + 1) w.heap.size t4 (q : Int) _ HT4.out)
                rw [hd] at HD
                cases d with
                | zero =>
                  have HXQ := Lib.hid (show Xq N t4 q from .inr (.inl (by rw [at_in hqt] at hd; exact hd)))
                  clear hd
                  go_wp2_with fail
                  refine HD.out.mono ?_
                  rintro r w3 ⟨rfl, rfl⟩
                  have HE := Lib.hid ((end_ok HT4.out (q : Int) false).mono (fun r w' h => (⟨⟨_, h.1⟩, h.2⟩ : (∃ e, r = .returned (.int .i64 e)) ∧ Left _ _ _ (endF t4 (q : Int) false) w')))
                  go_wp2_with fail
                  refine HE.out.mono ?_
                  rintro r w5 ⟨⟨e, rfl⟩, hT5, hB5, _⟩
                  have HT5 := Lib.hid hT5
                  have HB5 := Lib.hid (HB4.out.trans hB5)
                  have HG5 := Lib.hid (gq_end HS4.out hqN HXQ.out)
                  clear hT5 hB5
                  go_wp2
                  go_roundw
                  case rel => exact ⟨jj + 1, _, by omega, by go_num, HS4.out.end_ (q : Int) false, fun j' hj' => by
                    by_cases e : j' = jj
                    · subst e; rw [HQ.out]; exact HG5.out
                    · exact fun ha => endF_ended (HM4.out _ (Nat.mod_lt _ hN0) (HGJ.out j' (by omega) ha)), HT5.out, HB5.out⟩
                  case measure => simp [intOf] <;> omega
                | succ d =>
                  have hdI : (0 : Int) < ((d + 1 : Nat) : Int) := by omega
                  obtain ⟨al, hal⟩ : ∃ b, (hasB t4 q && !(at_ t4 q).ended) = b := ⟨_, rfl⟩
                  have HR := Lib.hid (runs_any (w.heap.size + 1) w.heap.size t4 (q : Int) _ HT4.out)
                  rw [hal] at HR
                  cases al
                  · have HXQ := Lib.hid (show Xq N t4 q from .inl (by rw [at_in hqt, has_in hqt] at hal; simpa using hal))
                    clear hd hal
                    go_wp2_with fail
                    refine HD.out.mono ?_
                    rintro r w3 ⟨rfl, rfl⟩
                    go_wp2_with fail
                    refine HR.out.mono ?_
                    rintro r w3 ⟨rfl, rfl⟩
                    have HE := Lib.hid ((end_ok HT4.out (q : Int) false).mono (fun r w' h => (⟨⟨_, h.1⟩, h.2⟩ : (∃ e, r = .returned (.int .i64 e)) ∧ Left _ _ _ (endF t4 (q : Int) false) w')))
                    go_wp2_with fail
                    refine HE.out.mono ?_
                    rintro r w5 ⟨⟨e, rfl⟩, hT5, hB5, _⟩
                    have HT5 := Lib.hid hT5
                    have HB5 := Lib.hid (HB4.out.trans hB5)
                    have HG5 := Lib.hid (gq_end HS4.out hqN HXQ.out)
                    clear hT5 hB5
                    go_wp2
                    go_roundw
                    case rel => exact ⟨jj + 1, _, by omega, by go_num, HS4.out.end_ (q : Int) false, fun j' hj' => by
                      by_cases e : j' = jj
                      · subst e; rw [HQ.out]; exact HG5.out
                      · exact fun ha => endF_ended (HM4.out _ (Nat.mod_lt _ hN0) (HGJ.out j' (by omega) ha)), HT5.out, HB5.out⟩
                    case measure => simp [intOf] <;> omega
                  · have HC := Lib.hid (close_ok HT4.out HS4.out.tok (q : Int))
                    have HCC := Lib.hid (close_case HS4.out.tok HS4.out.n hqN hal hd)
                    have hdq : dep t4 q = d + 1 := by rw [at_in hqt] at hd; exact hd
                    obtain ⟨ce, hce⟩ : ∃ x, clsE t4 q = x := ⟨_, rfl⟩
                    rw [hce] at HC HCC
                    clear hd hal hce
                    go_wp2_with fail
                    refine HD.out.mono ?_
                    rintro r w3 ⟨rfl, rfl⟩
                    go_wp2_with fail
                    refine HR.out.mono ?_
                    rintro r w3 ⟨rfl, rfl⟩
                    go_wp2_with fail
                    refine HC.out.mono ?_
                    rintro r w4 ⟨rfl, hT5, hB5, _⟩
                    have HTC := Lib.hid hT5
                    have HBC := Lib.hid (HB4.out.trans hB5)
                    clear hT5 hB5
                    rcases HCC.out with ⟨rfl, hx⟩ | ⟨rfl, hx⟩
                    · have HXQ := Lib.hid hx
                      have HS4 := Lib.hid (HS4.out.cls (q : Int))
                      have HM4 := Lib.hid (show ∀ m, m < N → (t3.th m).ended = true → ((clsF t4 (q : Int)).th m).ended = true from fun m hm hh => (clsF_ended t4 q m).trans (HM4.out m hm hh))
                      have HT4 := HTC
                      have HB4 := HBC
                      have HE := Lib.hid ((end_ok HT4.out (q : Int) false).mono (fun r w' h => (⟨⟨_, h.1⟩, h.2⟩ : (∃ e, r = .returned (.int .i64 e)) ∧ Left _ _ _ (endF (clsF t4 (q : Int)) (q : Int) false) w')))
                      go_wp2_with fail
                      refine HE.out.mono ?_
                      rintro r w5 ⟨⟨e, rfl⟩, hT5, hB5, _⟩
                      have HT5 := Lib.hid hT5
                      have HB5 := Lib.hid (HB4.out.trans hB5)
                      have HG5 := Lib.hid (gq_end HS4.out hqN HXQ.out)
                      clear hT5 hB5
                      go_wp2
                      go_roundw
                      case rel => exact ⟨jj + 1, _, by omega, by go_num, HS4.out.end_ (q : Int) false, fun j' hj' => by
                        by_cases e : j' = jj
                        · subst e; rw [HQ.out]; exact HG5.out
                        · exact fun ha => endF_ended (HM4.out _ (Nat.mod_lt _ hN0) (HGJ.out j' (by omega) ha)), HT5.out, HB5.out⟩
                      case measure => simp [intOf] <;> omega
                    · go_wp2
                      go_roundw
                      case rel => exact ⟨_, HS4.out.cls (q : Int), fun m hm hh => (clsF_ended t4 q m).trans (HM4.out m hm hh), HTC.out, HBC.out⟩
                      case measure => rw [hM _ _ HT4.out hqt, hM _ _ HTC.out (by rw [clsF_n]; exact hqt), hx, hdq]; omega
            · obtain rfl : jj = N := by omega
              go_wp2
              go_roundw
              case rel => exact ⟨r + 1, t3, by omega, by go_num, HS3.out.tok, HS3.out.n, fun q hq hh => gq_all hN0 HGJ.out q hq (fun m h1 h2 => HEND2.out m h2 (by omega)), HT3.out, HB3.out⟩
              case measure => simp [intOf] <;> omega
        · have hrI : ¬ (r : Int) ≤ (N : Int) := by omega
          have HALL := Lib.hid (show ∀ q, q < N → (t2.th q).ended = true from fun q hq => HEND2.out q hq (by omega))
          go_wp2
          go_loopw [13] (fun i w1 => ∃ (m : Nat), m ≤ N ∧ i = .int .i64 m ∧ w1 = wr) (fun i _ => 20 - (intOf i).toNat)
          case atStart => exact ⟨0, by omega, rfl, rfl⟩
          case round =>
            obtain ⟨m, hm, rfl, rfl⟩ := hrel
            by_cases hmN : m < N
            · have hmI : (m : Int) < (N : Int) := by omega
              have hmt : m < t2.n := by rw [HN2.out]; exact hmN
              have HR := Lib.hid (runs_any (w.heap.size + 1) w.heap.size t2 (m : Int) _ HT2.out)
              have HD := Lib.hid (depth_any (w.heap.size + 1) w.heap.size t2 (m : Int) _ HT2.out)
              rw [has_in hmt, at_in hmt, HALL.out m hmN] at HR
              rw [at_in hmt, HOK2.out.fin m hmt (HALL.out m hmN)] at HD
              go_wp2_with fail
              refine HR.out.mono ?_
              rintro r w3 ⟨rfl, rfl⟩
              go_wp2_with fail
              refine HD.out.mono ?_
              rintro r w3 ⟨rfl, rfl⟩
              go_wp2
              go_roundw
              case rel => exact ⟨m + 1, by omega, by go_num, trivial⟩
              case measure => simp [intOf] <;> omega
            · have hmI : ¬ (m : Int) < (N : Int) := by omega
              go_wp2_with fail
              refine (awake_any _).mono ?_
              rintro r w3 ⟨rfl, hB9⟩
              have HB9 := Lib.hid (HB2.out.trans (hB9.mono HB2.out.size))
              clear hB9
              go_wp2
              go_ret
              exact ⟨rfl, HB9.out⟩
end Go.Proofs.Ytnhhinlhfaapcaa
