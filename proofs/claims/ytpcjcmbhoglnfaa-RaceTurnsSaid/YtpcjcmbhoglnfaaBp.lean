/- Race: plain law of a trace's beginnings. -/
import Derived.Test.YtpcjcmbhoglnfaaTwoW
import Derived.Test.YtpcjcmbhoglnfaaQ
namespace Go.Proofs.Ytpcjcmbhoglnfaa
open Go.RowKit
set_option linter.unusedVariables false
set_option linter.unusedSimpArgs false

theorem mayB_take {L : List Ev} (h : mayB L = true) (n : Nat) : mayB (L.take n) = true := by
  obtain ⟨E, hE⟩ := mayB_run h (n := n)
  unfold mayB
  rw [hE]
  rfl
theorem evAt_pre {L M : List Ev} {i : Nat} (hi : i < L.length) : evAt (L ++ M) i = evAt L i := evAt_of (by rw [List.getElem?_append_left hi]; exact at_evAt hi)
theorem detL_app (L M : List Ev) : ∃ l, (detL (L ++ M)).K = (detL L).K ++ l := by
  unfold detL
  rw [List.foldl_append]
  obtain ⟨l, hl, _⟩ := foldl_K M (List.foldl dStep det0 L)
  exact ⟨l, hl⟩
theorem kc_pre {L M : List Ev} {i : Nat} (hi : i < L.length) : kc (L ++ M) i = kc L i := by
  obtain ⟨l, hl⟩ := detL_app L M
  unfold kc
  rw [hl, List.getD_eq_getElem?_getD, List.getElem?_append_left (by rw [detL_len]; exact hi), List.getD_eq_getElem?_getD]
theorem ahB_pre {L M : List Ev} {i k : Nat} (hi : i < L.length) (hk : k < L.length) : ahB (L ++ M) i k = ahB L i k := by unfold ahB; rw [kc_pre hi, kc_pre hk, evAt_pre hi]
theorem rB_pre {L M : List Ev} {i k : Nat} (hi : i < L.length) (hk : k < L.length) : rB (L ++ M) i k = rB L i k := by unfold rB; rw [ahB_pre hi hk, evAt_pre hi, evAt_pre hk]
theorem rUp_preL {L M : List Ev} {k : Nat} (hk : k < L.length) : ∀ m, m ≤ k → rUp (L ++ M) k m = rUp L k m
  | 0, _ => rfl
  | m + 1, h => by rw [rUp_succ, rUp_succ, rUp_preL hk m (by omega), rB_pre (by omega) hk]
theorem allUp_preL {L M : List Ev} : ∀ n, n ≤ L.length → allUp (L ++ M) n = allUp L n
  | 0, _ => rfl
  | n + 1, h => by rw [allUp_succ, allUp_succ, allUp_preL n (by omega), rUp_preL (by omega) n (Nat.le_refl _)]
theorem mem_rUp {L : List Ev} {k : Nat} {p : PR} : ∀ {m : Nat}, p ∈ rUp L k m → p.1 = k ∧ ∃ i, i < m ∧ p.2 = (i : Int) ∧ rB L i k = true
  | 0, h => by simp [rUp] at h
  | m + 1, h => by
    rw [rUp_succ] at h
    rcases List.mem_append.1 h with h | h
    · obtain ⟨h1, i, h2, h3⟩ := mem_rUp h
      exact ⟨h1, i, by omega, h3⟩
    · split at h
      · rename_i hb
        rw [List.mem_singleton.1 h]
        exact ⟨rfl, m, by omega, rfl, hb⟩
      · cases h
theorem allUp_more (L : List Ev) (n : Nat) : ∀ d, ∃ l, allUp L (n + d) = allUp L n ++ l ∧ ∀ p ∈ l, (n : Int) ≤ p.1
  | 0 => ⟨[], by simp, by simp⟩
  | d + 1 => by
    obtain ⟨l, h1, h2⟩ := allUp_more L n d
    refine ⟨l ++ rUp L (n + d) (n + d), by rw [← Nat.add_assoc, allUp_succ, h1, List.append_assoc], fun p hp => ?_⟩
    rcases List.mem_append.1 hp with hp | hp
    · exact h2 p hp
    · rw [(mem_rUp hp).1]; omega
theorem mem_allUp {L : List Ev} {p : PR} : ∀ {n : Nat}, p ∈ allUp L n → p.1 < n
  | 0, h => by simp [allUp] at h
  | n + 1, h => by
    rw [allUp_succ] at h
    rcases List.mem_append.1 h with h | h
    · have := mem_allUp h; omega
    · rw [(mem_rUp h).1]; omega
theorem findL_ok {L : List Ev} (h : mayB L = true) : findL L false = allUp L L.length := by unfold findL; rw [h]; rfl
theorem take_first {L : List Ev} (h : mayB L = true) {n : Nat} (hn : n ≤ L.length) : errL L = 0 ∧ errL (L.take n) = 0 ∧
    ((firstIs L = false ∧ firstIs (L.take n) = false) ∨ (firstIs L = true ∧ ¬ firstAt L < n ∧ firstIs (L.take n) = false) ∨
      (firstIs L = true ∧ firstAt L < n ∧ firstIs (L.take n) = true ∧ firstAt (L.take n) = firstAt L ∧ firstWith (L.take n) = firstWith L)) := by
  have ht := mayB_take h n
  have hl : (L.take n).length = n := by rw [List.length_take]; omega
  have e1 := findL_ok ht
  rw [hl] at e1
  have e2 : allUp (L.take n) n = allUp L n := by
    have := allUp_preL (L := L.take n) (M := L.drop n) n (by omega)
    rw [List.take_append_drop] at this
    exact this.symm
  obtain ⟨l, h1, h2⟩ := allUp_more L n (L.length - n)
  rw [show n + (L.length - n) = L.length by omega] at h1
  have e3 := findL_ok h
  rw [h1] at e3
  rw [e2] at e1
  refine ⟨by unfold errL; rw [h]; rfl, by unfold errL; rw [ht]; rfl, ?_⟩
  unfold firstIs firstAt firstWith
  rw [e1, e3]
  cases ha : allUp L n with
  | nil =>
    cases l with
    | nil => exact .inl ⟨rfl, rfl⟩
    | cons p l =>
      refine .inr (.inl ⟨rfl, ?_, rfl⟩)
      have := h2 p (by simp)
      simp
      exact this
  | cons p l' =>
    have := mem_allUp (L := L) (n := n) (p := p) (by rw [ha]; simp)
    exact .inr (.inr ⟨rfl, by simpa using this, rfl, rfl, rfl⟩)
theorem EvRow.take {w : World} {A : Option Addr} {n c : Nat} {L : List Ev} (h : EvRow w A n c L) {m : Nat} (hm : m ≤ n) : EvRow w A m c (L.take m) :=
  ⟨by rw [List.length_take, h.len]; omega, by have := h.N; omega, h.rd.take m, fun x hx => h.ok x (List.mem_of_mem_take hx), fun x hx => h.hp x (List.mem_of_mem_take hx), by have := h.cap; omega⟩

set_option maxRecDepth 100000 in
set_option maxHeartbeats 6400000 in
theorem raceBegins_walk (A : Option Addr) (c : Nat) (L : List Ev) (a1 : Int) (w : World) (rd : Rd w w.heap.size 4 evC A L) (g : ∀ x ∈ L, EvOk w w.heap.size x) (hc : L.length ≤ c) (hm : c ≤ maxLen) (i1 : (Lit.int .i64 a1).wf = true) :
    Calls Try.prog 4 #[.slice A L.length c, .int .i64 a1] w fun r w' => r = .returned (.bool true) ∧ Below w.heap.size w w' := by
  clear i1
  obtain ⟨len, hlen⟩ : ∃ n, L.length = n := ⟨_, rfl⟩
  obtain ⟨sb, hsb⟩ : ∃ b, shortB L = b := ⟨_, rfl⟩
  have HLG := Lib.hid (long_any A len c L w hlen rd sb hsb)
  rw [hlen] at hc ⊢
  cases sb with
  | false =>
    clear rd g hlen hsb
    go_enter Try.func4, Try.ntmps4
    go_wp2_with fail
    refine HLG.out.mono ?_
    rintro r w1 ⟨rfl, rfl⟩
    go_wp2_with fail
    refine (awake_any _).mono ?_
    rintro r w8 ⟨rfl, hb8⟩
    go_wp2
    go_ret
    exact ⟨rfl, hb8⟩
  | true =>
    have HR := Lib.hid (shortB_row hlen rd g hc hsb)
    obtain ⟨mb, hmb⟩ : ∃ b, mayB L = b := ⟨_, rfl⟩
    have hn120 : len ≤ 120 := by
      unfold shortB at hsb
      rw [Bool.and_eq_true] at hsb
      have := of_decide_eq_true hsb.1
      omega
    have HM := Lib.hid hmb
    have HL := Lib.hid hlen
    have HMAY := Lib.hid (may_any (c := c) mb hlen (by omega) rd g hmb)
    clear rd g hlen hsb hmb
    go_enter Try.func4, Try.ntmps4
    go_wp2_with fail
    refine HLG.out.mono ?_
    rintro r w1 ⟨rfl, rfl⟩
    cases mb with
    | false =>
      simp only [Bool.false_eq_true, if_false] at HMAY
      go_wp2_with fail
      refine HMAY.out.mono ?_
      rintro r w1 ⟨rfl, hb1⟩
      have HB1 := Lib.hid hb1
      clear hb1
      go_wp2_with fail
      refine (awake_any _).mono ?_
      rintro r w8 ⟨rfl, hb8⟩
      have HB8 := Lib.hid (HB1.out.trans (hb8.mono HB1.out.size))
      clear hb8
      go_wp2
      go_ret
      exact ⟨rfl, HB8.out⟩
    | true =>
      simp only [if_true] at HMAY
      obtain ⟨p, hp, ep⟩ := u64_rem a1 (len + 1) (by omega)
      rw [show ((len + 1 : Nat) : Int) = (len : Int) + 1 by omega] at ep
      go_wp2_with fail
      refine HMAY.out.mono ?_
      rintro r w1 ⟨rfl, hb1⟩
      have HB1 := Lib.hid hb1
      clear hb1
      have HF := Lib.hid (first_any A len c L (HR.out.below HB1.out))
      have z1 : ¬ ((len : Int) + 1 = 0) := by omega
      have z2 : (p : Int) ≤ (c : Int) := by omega
      have z3 : (0 : Int) ≤ (p : Int) := by omega
      have z4 : (p : Int) ≤ (len : Int) := by omega
      go_wp2_with fail
      refine HF.out.mono ?_
      rintro r w2 ⟨rfl, hb2⟩
      have HB2 := Lib.hid (HB1.out.trans (hb2.mono HB1.out.size))
      clear hb2
      have HG := Lib.hid (first_any A p c (L.take p) ((HR.out.below HB2.out).take (by omega)))
      go_wp2_with fail
      refine HG.out.mono ?_
      rintro r w3 ⟨rfl, hb3⟩
      have HB3 := Lib.hid (HB2.out.trans (hb3.mono HB2.out.size))
      clear hb3
      obtain ⟨h1, h2, h3⟩ := take_first HM.out (n := p) (by rw [HL.out]; omega)
      rw [h1, h2]
      clear h1 h2
      rcases h3 with ⟨h3, h4⟩ | ⟨h3, h5, h4⟩ | ⟨h3, h5, h4, h6, h7⟩
      · rw [h3, h4]
        clear h3 h4
        go_wp2_with fail
        refine (awake_any _).mono ?_
        rintro r w8 ⟨rfl, hb8⟩
        have HB8 := Lib.hid (HB3.out.trans (hb8.mono HB3.out.size))
        clear hb8
        go_wp2
        go_ret
        exact ⟨rfl, HB8.out⟩
      · rw [h3, h4]
        clear h3 h4
        go_wp2_with fail
        refine (awake_any _).mono ?_
        rintro r w8 ⟨rfl, hb8⟩
        have HB8 := Lib.hid (HB3.out.trans (hb8.mono HB3.out.size))
        clear hb8
        go_wp2
        go_ret
        exact ⟨rfl, HB8.out⟩
      · rw [h3, h4, h6, h7]
        clear h3 h4 h6 h7
        go_wp2_with fail
        refine (awake_any _).mono ?_
        rintro r w8 ⟨rfl, hb8⟩
        have HB8 := Lib.hid (HB3.out.trans (hb8.mono HB3.out.size))
        clear hb8
        go_wp2
        go_ret
        exact ⟨rfl, HB8.out⟩
end Go.Proofs.Ytpcjcmbhoglnfaa
