/- RaceThreads: ahead at whatever pair; the walk. -/
import Derived.Test.YtpcjcmbhoglnfaaBp
import Derived.Deep.DeepCutAuto
namespace Go.Proofs.Ytpcjcmbhoglnfaa
open Go.RowKit
set_option linter.unusedVariables false
set_option linter.unusedSimpArgs false

def ahN (L : List Ev) (i k : Nat) : Bool := decide (i < k) && ahB L i k
theorem ahead_nat {w : World} (A : Option Addr) (len c : Nat) (L : List Ev) (h : EvRow w A len c L) (hm : mayB L = true) (i k : Nat) (hk : k < len) :
    Calls Try.prog 17 #[.slice A len c, .int .i64 i, .int .i64 k] w fun r w' => r = .returned (.bool (ahN L i k)) ∧ Below w.heap.size w w' := by
  by_cases hik : i < k
  · rw [show ahN L i k = ahB L i k by unfold ahN; rw [decide_eq_true hik]; rfl]
    exact ahead_yes A len c L h i k hik hk hm _ rfl
  · rw [show ahN L i k = false by unfold ahN; rw [decide_eq_false hik]; rfl]
    have e1 : (0 : Int) ≤ (i : Int) := by omega
    have e2 : decide ((i : Int) < 0) = false := by simp
    have e3 : decide ((k : Int) ≤ (i : Int)) = true := by simp; omega
    clear h hm hk
    go_enter Try.func17, Try.ntmps17
    go_wp2_with fail
    go_ret
    exact ⟨rfl, Below.refl _ _⟩
theorem ahN_lt {L : List Ev} {i k : Nat} (h : ahN L i k = true) : i < k := by
  unfold ahN at h; rw [Bool.and_eq_true] at h; exact of_decide_eq_true h.1
theorem ahN_iff {L : List Ev} (h : mayB L = true) (hN : L.length ≤ 60000) {i k : Nat} (hk : k < L.length) : ahN L i k = true ↔ HB (trOf L).F i k := by
  constructor
  · intro hh
    have := ahN_lt hh
    unfold ahN at hh; rw [Bool.and_eq_true] at hh
    exact (ahB_iff h hN this hk).1 hh.2
  · intro hh
    unfold ahN
    rw [Bool.and_eq_true]
    exact ⟨decide_eq_true hh.lt, (ahB_iff h hN hh.lt hk).2 hh⟩
theorem ahN_trans {L : List Ev} (h : mayB L = true) (hN : L.length ≤ 60000) {i j k : Nat} (hj : j < L.length) (hk : k < L.length) (h1 : ahN L i j = true) (h2 : ahN L j k = true) : ahN L i k = true :=
  (ahN_iff h hN hk).2 (((ahN_iff h hN hj).1 h1).trans ((ahN_iff h hN hk).1 h2))
theorem ahN_D {L : List Ev} (h : mayB L = true) (hN : L.length ≤ 60000) {i k : Nat} (hik : i < k) (hk : k < L.length) (hD : (trOf L).D i k) : ahN L i k = true :=
  (ahN_iff h hN hk).2 ((HB_F (all_ok h hN) hk).2 (.one hik hD))
theorem ahN_self (L : List Ev) (i : Nat) : ahN L i i = false := by unfold ahN; rw [decide_eq_false (Nat.lt_irrefl i)]; rfl
theorem ahN_two (L : List Ev) (i k : Nat) : ahN L i k = false ∨ ahN L k i = false := by
  by_cases h : i < k
  · exact .inr (by unfold ahN; rw [decide_eq_false (by omega)]; rfl)
  · exact .inl (by unfold ahN; rw [decide_eq_false h]; rfl)

set_option maxRecDepth 100000 in
set_option maxHeartbeats 12800000 in
theorem raceThreads_walk (A : Option Addr) (c : Nat) (L : List Ev) (a1 a2 a3 : Int) (w : World) (rd : Rd w w.heap.size 4 evC A L) (g : ∀ x ∈ L, EvOk w w.heap.size x) (hc : L.length ≤ c) (hm : c ≤ maxLen) (i1 : (Lit.int .i64 a1).wf = true) (i2 : (Lit.int .i64 a2).wf = true) (i3 : (Lit.int .i64 a3).wf = true) :
    Calls Try.prog 10 #[.slice A L.length c, .int .i64 a1, .int .i64 a2, .int .i64 a3] w fun r w' => r = .returned (.bool true) ∧ Below w.heap.size w w' := by
  clear i1 i2 i3
  obtain ⟨len, hlen⟩ : ∃ n, L.length = n := ⟨_, rfl⟩
  obtain ⟨sb, hsb⟩ : ∃ b, shortB L = b := ⟨_, rfl⟩
  have HLG := Lib.hid (long_any A len c L w hlen rd sb hsb)
  rw [hlen] at hc ⊢
  cases sb with
  | false =>
    clear rd g hlen hsb
    go_enter Try.func10, Try.ntmps10
    go_wp2_with fail
    refine HLG.out.mono ?_
    rintro r w1 ⟨rfl, rfl⟩
    go_wp2_with fail
    refine (awake_any _).mono ?_
    rintro r w8 ⟨rfl, hb8⟩
    go_wp2
    go_ret
    exact ⟨rfl, hb8⟩
  | true =>
    have HR := Lib.hid (shortB_row hlen rd g hc hsb)
    obtain ⟨mb, hmb⟩ : ∃ b, mayB L = b := ⟨_, rfl⟩
    have hn120 : len ≤ 120 := by
      unfold shortB at hsb
      rw [Bool.and_eq_true] at hsb
      have := of_decide_eq_true hsb.1
      omega
    have HM := Lib.hid hmb
    have HL := Lib.hid hlen
    have HMAY := Lib.hid (may_any (c := c) mb hlen (by omega) rd g hmb)
    clear rd g hlen hsb hmb
    go_enter Try.func10, Try.ntmps10
    go_wp2_with fail
    refine HLG.out.mono ?_
    rintro r w1 ⟨rfl, rfl⟩
    clear HLG
    cases mb with
    | false =>
      simp only [Bool.false_eq_true, if_false] at HMAY
      go_wp2_with fail
      refine HMAY.out.mono ?_
      rintro r w1 ⟨rfl, hb1⟩
      have HB1 := Lib.hid hb1
      clear hb1
      go_wp2_with fail
      refine (awake_any _).mono ?_
      rintro r w8 ⟨rfl, hb8⟩
      have HB8 := Lib.hid (HB1.out.trans (hb8.mono HB1.out.size))
      clear hb8
      go_wp2
      go_ret
      exact ⟨rfl, HB8.out⟩
    | true =>
      simp only [if_true] at HMAY
      go_wp2_with fail
      refine HMAY.out.mono ?_
      rintro r w1 ⟨rfl, hb1⟩
      have HB1 := Lib.hid hb1
      clear hb1 HMAY
      by_cases h0 : len = 0
      · subst h0
        go_wp2_with fail
        refine (awake_any _).mono ?_
        rintro r w8 ⟨rfl, hb8⟩
        have HB8 := Lib.hid (HB1.out.trans (hb8.mono HB1.out.size))
        clear hb8
        go_wp2
        go_ret
        exact ⟨rfl, HB8.out⟩
      obtain ⟨p, hp, ep⟩ := u64_rem a1 len (by omega)
      obtain ⟨q, hq, eq⟩ := u64_rem a2 len (by omega)
      obtain ⟨s, hs, es⟩ := u64_rem a3 len (by omega)
      have hah : ∀ (W : World), Below w.heap.size w W → ∀ i k : Nat, k < len → Calls Try.prog 17 #[.slice A len c, .int .i64 i, .int .i64 k] W fun r w' => r = .returned (.bool (ahN L i k)) ∧ Below W.heap.size W w' := fun W hb i k hk => ahead_nat A len c L (HR.out.below hb) HM.out i k hk
      have htr := fun (h1 : ahN L p q = true) (h2 : ahN L q s = true) => ahN_trans HM.out (by rw [HL.out]; omega) (by rw [HL.out]; exact hq) (by rw [HL.out]; exact hs) h1 h2
      have hD := fun (h1 : p < s) => ahN_D HM.out (by rw [HL.out]; omega) h1 (by rw [HL.out]; exact hs)
      have HAH := Lib.hid hah
      have HTR := Lib.hid htr
      have HD := Lib.hid hD
      have hps : ¬ ((len : Int) = 0) := by omega
      have hpd : decide ((len : Int) = 0) = false := by simp; omega
      have hpe : ((len : Int) == 0) = false := by simp; omega
      clear hah htr hD
      go_upto_region 7 with fail
      go_cut [57] (fun v wx => v = .bool false ∧ Below w.heap.size w wx)
      case first =>
        have hc1 := HAH.out _ HB1.out p q hq
        obtain ⟨b1, hb1⟩ : ∃ b, ahN L p q = b := ⟨_, rfl⟩
        rw [hb1] at hc1
        have HC1 := Lib.hid hc1
        have HE1 := Lib.hid hb1
        clear hc1 hb1
        go_wp2_with fail
        refine HC1.out.mono ?_
        rintro r w2 ⟨rfl, hb2⟩
        have HB2 := Lib.hid (HB1.out.trans (hb2.mono HB1.out.size))
        clear hb2 HC1
        cases b1 with
        | false =>
          go_wp2
          go_meet
          case rel => exact ⟨rfl, HB2.out⟩
        | true =>
          have hc1 := HAH.out _ HB2.out q s hs
          obtain ⟨b2, hb2⟩ : ∃ b, ahN L q s = b := ⟨_, rfl⟩
          rw [hb2] at hc1
          have HC1 := Lib.hid hc1
          have HE2 := Lib.hid hb2
          clear hc1 hb2
          go_wp2_with fail
          refine HC1.out.mono ?_
          rintro r w3 ⟨rfl, hb3⟩
          have HB3 := Lib.hid (HB2.out.trans (hb3.mono HB2.out.size))
          clear hb3 HC1
          cases b2 with
          | false =>
            go_wp2
            go_meet
            case rel => exact ⟨rfl, HB3.out⟩
          | true =>
            have hc1 := HAH.out _ HB3.out p s hs
            rw [HTR.out HE1.out HE2.out] at hc1
            have HC1 := Lib.hid hc1
            clear hc1
            go_wp2_with fail
            refine HC1.out.mono ?_
            rintro r w4 ⟨rfl, hb4⟩
            have HB4 := Lib.hid (HB3.out.trans (hb4.mono HB3.out.size))
            clear hb4 HC1
            go_wp2
            go_meet
            case rel => exact ⟨rfl, HB4.out⟩
      case rest =>
      obtain ⟨rfl, hbc⟩ := hcut
      have HBc := Lib.hid hbc
      clear hbc HB1
      go_upto_region 9 with fail
      go_cut [80] (fun v wx => v = .bool false ∧ Below w.heap.size w wx)
      case first =>
        have hrow := HR.out.below HBc.out
        obtain ⟨b, off, rfl, _, x0, x1, x2, _⟩ := hrow.rd.ev (at_evAt (L := L) (i := p) (by rw [HL.out]; exact hp))
        obtain ⟨b', off', eA, _, y0, y1, y2, _⟩ := hrow.rd.ev (at_evAt (L := L) (i := s) (by rw [HL.out]; exact hs))
        cases eA
        have x0 := cell_regrown x0
        have x1 := cell_regrown x1
        have x2 := cell_regrown x2
        have y0 := cell_regrown y0
        have y1 := cell_regrown y1
        have y2 := cell_regrown y2
        have hDs := fun (h1 : p < s) (h2 : (trOf L).D p s) => HD.out h1 h2
        obtain ⟨xk, hxk⟩ : ∃ z, z = (evAt L p).kind := ⟨_, rfl⟩
        obtain ⟨xt, hxt⟩ : ∃ z, z = (evAt L p).thread := ⟨_, rfl⟩
        obtain ⟨xi, hxi⟩ : ∃ z, z = (evAt L p).id := ⟨_, rfl⟩
        obtain ⟨yk, hyk⟩ : ∃ z, z = (evAt L s).kind := ⟨_, rfl⟩
        obtain ⟨yt, hyt⟩ : ∃ z, z = (evAt L s).thread := ⟨_, rfl⟩
        obtain ⟨yi, hyi⟩ : ∃ z, z = (evAt L s).id := ⟨_, rfl⟩
        rw [← hxk] at x0
        rw [← hxt] at x1
        rw [← hxi] at x2
        rw [← hyk] at y0
        rw [← hyt] at y1
        rw [← hyi] at y2
        have HDS := Lib.hid hDs
        have HXK := Lib.hid hxk
        have HXT := Lib.hid hxt
        have HXI := Lib.hid hxi
        have HYK := Lib.hid hyk
        have HYT := Lib.hid hyt
        have HYI := Lib.hid hyi
        have z1 : (p : Int) < (len : Int) := by omega
        have z2 : (s : Int) < (len : Int) := by omega
        have z3 : (0 : Int) ≤ (p : Int) := by omega
        have z4 : (0 : Int) ≤ (s : Int) := by omega
        clear hDs hxk hxt hxi hyk hyt hyi hrow
        by_cases hlt : p < s
        · have d1 : (p : Int) < (s : Int) := by omega
          obtain ⟨c0, hc0⟩ : ∃ z, (xt == yt) = z := ⟨_, rfl⟩
          cases c0 with
          | false =>
            refine wp_region_quiet_below (by kernel_rfl) (by kernel_rfl) ?_
            repeat (first | go_big_quiet_step (fail) | quiet_step (fail))
            refine wpQuiet_nil ?_
            intro W2 hW2e
            obtain ⟨⟨dq, osq⟩, hW2⟩ := hW2e
            have hbl2 : Below w.heap.size w W2 := by rw [hW2]; exact HBc.out.trans ((below_regrown wc dq osq).mono HBc.out.size)
            have HBL2 := Lib.hid hbl2
            clear hW2 hbl2
            go_wp2
            go_meet
            case rel => exact ⟨rfl, HBL2.out⟩
          | true =>
            have hD := HDS.out hlt ?_
            rotate_left
            · have e := eq_of_beq hc0; rw [HXT.out, HYT.out] at e; exact .inl e
            have hcc : ∀ (d : Nat) (os : Array Obj), Calls Try.prog 17 #[.slice (some ⟨b, off, none⟩) len c, .int .i64 p, .int .i64 s] (Go.Sort.grow (redrawn wc d) os) fun r w' => r = .returned (.bool true) ∧ ∃ p : Regrown, w' = Go.Sort.grow (redrawn wc p.d) p.os := by
              intro d os
              have h := HAH.out _ (HBc.out.trans ((below_regrown wc d os).mono HBc.out.size)) p s hs
              rw [hD] at h
              exact Calls.regrown_of h
            have HC := Lib.hid hcc
            clear hcc hD
            refine wp_region_quiet_below (by kernel_rfl) (by kernel_rfl) ?_
            repeat (first | go_big_quiet_step ((first | (go_at_call 17; exact HC.out _ _))) | quiet_step ((first | (go_at_call 17; exact HC.out _ _))))
            refine wpQuiet_nil ?_
            intro W2 hW2e
            obtain ⟨⟨dq, osq⟩, hW2⟩ := hW2e
            have hbl2 : Below w.heap.size w W2 := by rw [hW2]; exact HBc.out.trans ((below_regrown wc dq osq).mono HBc.out.size)
            have HBL2 := Lib.hid hbl2
            clear hW2 hbl2
            go_wp2
            go_meet
            case rel => exact ⟨rfl, HBL2.out⟩
        · have d1 : ¬ ((p : Int) < (s : Int)) := by omega
          refine wp_region_quiet_below (by kernel_rfl) (by kernel_rfl) ?_
          repeat (first | go_big_quiet_step (fail) | quiet_step (fail))
          refine wpQuiet_nil ?_
          intro W2 hW2e
          obtain ⟨⟨dq, osq⟩, hW2⟩ := hW2e
          have hbl2 : Below w.heap.size w W2 := by rw [hW2]; exact HBc.out.trans ((below_regrown wc dq osq).mono HBc.out.size)
          have HBL2 := Lib.hid hbl2
          clear hW2 hbl2
          go_wp2
          go_meet
          case rel => exact ⟨rfl, HBL2.out⟩
      case rest =>
      obtain ⟨rfl, hbc⟩ := hcut
      clear HBc
      have HBc := Lib.hid hbc
      clear hbc
      go_upto_region 11 with fail
      go_cut [111] (fun v wx => v = .bool false ∧ Below w.heap.size w wx)
      case first =>
        have hrow := HR.out.below HBc.out
        obtain ⟨b, off, rfl, _, x0, x1, x2, _⟩ := hrow.rd.ev (at_evAt (L := L) (i := p) (by rw [HL.out]; exact hp))
        obtain ⟨b', off', eA, _, y0, y1, y2, _⟩ := hrow.rd.ev (at_evAt (L := L) (i := s) (by rw [HL.out]; exact hs))
        cases eA
        have x0 := cell_regrown x0
        have x1 := cell_regrown x1
        have x2 := cell_regrown x2
        have y0 := cell_regrown y0
        have y1 := cell_regrown y1
        have y2 := cell_regrown y2
        have hDs := fun (h1 : p < s) (h2 : (trOf L).D p s) => HD.out h1 h2
        obtain ⟨xk, hxk⟩ : ∃ z, z = (evAt L p).kind := ⟨_, rfl⟩
        obtain ⟨xt, hxt⟩ : ∃ z, z = (evAt L p).thread := ⟨_, rfl⟩
        obtain ⟨xi, hxi⟩ : ∃ z, z = (evAt L p).id := ⟨_, rfl⟩
        obtain ⟨yk, hyk⟩ : ∃ z, z = (evAt L s).kind := ⟨_, rfl⟩
        obtain ⟨yt, hyt⟩ : ∃ z, z = (evAt L s).thread := ⟨_, rfl⟩
        obtain ⟨yi, hyi⟩ : ∃ z, z = (evAt L s).id := ⟨_, rfl⟩
        rw [← hxk] at x0
        rw [← hxt] at x1
        rw [← hxi] at x2
        rw [← hyk] at y0
        rw [← hyt] at y1
        rw [← hyi] at y2
        have HDS := Lib.hid hDs
        have HXK := Lib.hid hxk
        have HXT := Lib.hid hxt
        have HXI := Lib.hid hxi
        have HYK := Lib.hid hyk
        have HYT := Lib.hid hyt
        have HYI := Lib.hid hyi
        have z1 : (p : Int) < (len : Int) := by omega
        have z2 : (s : Int) < (len : Int) := by omega
        have z3 : (0 : Int) ≤ (p : Int) := by omega
        have z4 : (0 : Int) ≤ (s : Int) := by omega
        clear hDs hxk hxt hxi hyk hyt hyi hrow
        by_cases hlt : p < s
        · have d1 : (p : Int) < (s : Int) := by omega
          obtain ⟨c0, hc0⟩ : ∃ z, (yk == 8) = z := ⟨_, rfl⟩
          cases c0 with
          | false =>
            refine wp_region_quiet_below (by kernel_rfl) (by kernel_rfl) ?_
            repeat (first | go_big_quiet_step (fail) | quiet_step (fail))
            refine wpQuiet_nil ?_
            intro W2 hW2e
            obtain ⟨⟨dq, osq⟩, hW2⟩ := hW2e
            have hbl2 : Below w.heap.size w W2 := by rw [hW2]; exact HBc.out.trans ((below_regrown wc dq osq).mono HBc.out.size)
            have HBL2 := Lib.hid hbl2
            clear hW2 hbl2
            go_wp2
            go_meet
            case rel => exact ⟨rfl, HBL2.out⟩
          | true =>
            obtain ⟨c1, hc1⟩ : ∃ z, (xt == yi) = z := ⟨_, rfl⟩
            cases c1 with
            | false =>
              refine wp_region_quiet_below (by kernel_rfl) (by kernel_rfl) ?_
              repeat (first | go_big_quiet_step (fail) | quiet_step (fail))
              refine wpQuiet_nil ?_
              intro W2 hW2e
              obtain ⟨⟨dq, osq⟩, hW2⟩ := hW2e
              have hbl2 : Below w.heap.size w W2 := by rw [hW2]; exact HBc.out.trans ((below_regrown wc dq osq).mono HBc.out.size)
              have HBL2 := Lib.hid hbl2
              clear hW2 hbl2
              go_wp2
              go_meet
              case rel => exact ⟨rfl, HBL2.out⟩
            | true =>
              have hD := HDS.out hlt ?_
              rotate_left
              · have e0 := eq_of_beq hc0; have e1 := eq_of_beq hc1; rw [HYK.out] at e0; rw [HXT.out, HYI.out] at e1; exact .inr (.inr (.inl ⟨e0, e1⟩))
              have hcc : ∀ (d : Nat) (os : Array Obj), Calls Try.prog 17 #[.slice (some ⟨b, off, none⟩) len c, .int .i64 p, .int .i64 s] (Go.Sort.grow (redrawn wc d) os) fun r w' => r = .returned (.bool true) ∧ ∃ p : Regrown, w' = Go.Sort.grow (redrawn wc p.d) p.os := by
                intro d os
                have h := HAH.out _ (HBc.out.trans ((below_regrown wc d os).mono HBc.out.size)) p s hs
                rw [hD] at h
                exact Calls.regrown_of h
              have HC := Lib.hid hcc
              clear hcc hD
              refine wp_region_quiet_below (by kernel_rfl) (by kernel_rfl) ?_
              repeat (first | go_big_quiet_step ((first | (go_at_call 17; exact HC.out _ _))) | quiet_step ((first | (go_at_call 17; exact HC.out _ _))))
              refine wpQuiet_nil ?_
              intro W2 hW2e
              obtain ⟨⟨dq, osq⟩, hW2⟩ := hW2e
              have hbl2 : Below w.heap.size w W2 := by rw [hW2]; exact HBc.out.trans ((below_regrown wc dq osq).mono HBc.out.size)
              have HBL2 := Lib.hid hbl2
              clear hW2 hbl2
              go_wp2
              go_meet
              case rel => exact ⟨rfl, HBL2.out⟩
        · have d1 : ¬ ((p : Int) < (s : Int)) := by omega
          refine wp_region_quiet_below (by kernel_rfl) (by kernel_rfl) ?_
          repeat (first | go_big_quiet_step (fail) | quiet_step (fail))
          refine wpQuiet_nil ?_
          intro W2 hW2e
          obtain ⟨⟨dq, osq⟩, hW2⟩ := hW2e
          have hbl2 : Below w.heap.size w W2 := by rw [hW2]; exact HBc.out.trans ((below_regrown wc dq osq).mono HBc.out.size)
          have HBL2 := Lib.hid hbl2
          clear hW2 hbl2
          go_wp2
          go_meet
          case rel => exact ⟨rfl, HBL2.out⟩
      case rest =>
      obtain ⟨rfl, hbc⟩ := hcut
      clear HBc
      have HBc := Lib.hid hbc
      clear hbc
      go_upto_region 13 with fail
      go_cut [142] (fun v wx => v = .bool false ∧ Below w.heap.size w wx)
      case first =>
        have hrow := HR.out.below HBc.out
        obtain ⟨b, off, rfl, _, x0, x1, x2, _⟩ := hrow.rd.ev (at_evAt (L := L) (i := p) (by rw [HL.out]; exact hp))
        obtain ⟨b', off', eA, _, y0, y1, y2, _⟩ := hrow.rd.ev (at_evAt (L := L) (i := s) (by rw [HL.out]; exact hs))
        cases eA
        have x0 := cell_regrown x0
        have x1 := cell_regrown x1
        have x2 := cell_regrown x2
        have y0 := cell_regrown y0
        have y1 := cell_regrown y1
        have y2 := cell_regrown y2
        have hDs := fun (h1 : p < s) (h2 : (trOf L).D p s) => HD.out h1 h2
        obtain ⟨xk, hxk⟩ : ∃ z, z = (evAt L p).kind := ⟨_, rfl⟩
        obtain ⟨xt, hxt⟩ : ∃ z, z = (evAt L p).thread := ⟨_, rfl⟩
        obtain ⟨xi, hxi⟩ : ∃ z, z = (evAt L p).id := ⟨_, rfl⟩
        obtain ⟨yk, hyk⟩ : ∃ z, z = (evAt L s).kind := ⟨_, rfl⟩
        obtain ⟨yt, hyt⟩ : ∃ z, z = (evAt L s).thread := ⟨_, rfl⟩
        obtain ⟨yi, hyi⟩ : ∃ z, z = (evAt L s).id := ⟨_, rfl⟩
        rw [← hxk] at x0
        rw [← hxt] at x1
        rw [← hxi] at x2
        rw [← hyk] at y0
        rw [← hyt] at y1
        rw [← hyi] at y2
        have HDS := Lib.hid hDs
        have HXK := Lib.hid hxk
        have HXT := Lib.hid hxt
        have HXI := Lib.hid hxi
        have HYK := Lib.hid hyk
        have HYT := Lib.hid hyt
        have HYI := Lib.hid hyi
        have z1 : (p : Int) < (len : Int) := by omega
        have z2 : (s : Int) < (len : Int) := by omega
        have z3 : (0 : Int) ≤ (p : Int) := by omega
        have z4 : (0 : Int) ≤ (s : Int) := by omega
        clear hDs hxk hxt hxi hyk hyt hyi hrow
        by_cases hlt : p < s
        · have d1 : (p : Int) < (s : Int) := by omega
          obtain ⟨c0, hc0⟩ : ∃ z, (xk == 7) = z := ⟨_, rfl⟩
          cases c0 with
          | false =>
            refine wp_region_quiet_below (by kernel_rfl) (by kernel_rfl) ?_
            repeat (first | go_big_quiet_step (fail) | quiet_step (fail))
            refine wpQuiet_nil ?_
            intro W2 hW2e
            obtain ⟨⟨dq, osq⟩, hW2⟩ := hW2e
            have hbl2 : Below w.heap.size w W2 := by rw [hW2]; exact HBc.out.trans ((below_regrown wc dq osq).mono HBc.out.size)
            have HBL2 := Lib.hid hbl2
            clear hW2 hbl2
            go_wp2
            go_meet
            case rel => exact ⟨rfl, HBL2.out⟩
          | true =>
            obtain ⟨c1, hc1⟩ : ∃ z, (xi == yt) = z := ⟨_, rfl⟩
            cases c1 with
            | false =>
              refine wp_region_quiet_below (by kernel_rfl) (by kernel_rfl) ?_
              repeat (first | go_big_quiet_step (fail) | quiet_step (fail))
              refine wpQuiet_nil ?_
              intro W2 hW2e
              obtain ⟨⟨dq, osq⟩, hW2⟩ := hW2e
              have hbl2 : Below w.heap.size w W2 := by rw [hW2]; exact HBc.out.trans ((below_regrown wc dq osq).mono HBc.out.size)
              have HBL2 := Lib.hid hbl2
              clear hW2 hbl2
              go_wp2
              go_meet
              case rel => exact ⟨rfl, HBL2.out⟩
            | true =>
              have hD := HDS.out hlt ?_
              rotate_left
              · have e0 := eq_of_beq hc0; have e1 := eq_of_beq hc1; rw [HXK.out] at e0; rw [HXI.out, HYT.out] at e1; exact .inr (.inl ⟨e0, e1⟩)
              have hcc : ∀ (d : Nat) (os : Array Obj), Calls Try.prog 17 #[.slice (some ⟨b, off, none⟩) len c, .int .i64 p, .int .i64 s] (Go.Sort.grow (redrawn wc d) os) fun r w' => r = .returned (.bool true) ∧ ∃ p : Regrown, w' = Go.Sort.grow (redrawn wc p.d) p.os := by
                intro d os
                have h := HAH.out _ (HBc.out.trans ((below_regrown wc d os).mono HBc.out.size)) p s hs
                rw [hD] at h
                exact Calls.regrown_of h
              have HC := Lib.hid hcc
              clear hcc hD
              refine wp_region_quiet_below (by kernel_rfl) (by kernel_rfl) ?_
              repeat (first | go_big_quiet_step ((first | (go_at_call 17; exact HC.out _ _))) | quiet_step ((first | (go_at_call 17; exact HC.out _ _))))
              refine wpQuiet_nil ?_
              intro W2 hW2e
              obtain ⟨⟨dq, osq⟩, hW2⟩ := hW2e
              have hbl2 : Below w.heap.size w W2 := by rw [hW2]; exact HBc.out.trans ((below_regrown wc dq osq).mono HBc.out.size)
              have HBL2 := Lib.hid hbl2
              clear hW2 hbl2
              go_wp2
              go_meet
              case rel => exact ⟨rfl, HBL2.out⟩
        · have d1 : ¬ ((p : Int) < (s : Int)) := by omega
          refine wp_region_quiet_below (by kernel_rfl) (by kernel_rfl) ?_
          repeat (first | go_big_quiet_step (fail) | quiet_step (fail))
          refine wpQuiet_nil ?_
          intro W2 hW2e
          obtain ⟨⟨dq, osq⟩, hW2⟩ := hW2e
          have hbl2 : Below w.heap.size w W2 := by rw [hW2]; exact HBc.out.trans ((below_regrown wc dq osq).mono HBc.out.size)
          have HBL2 := Lib.hid hbl2
          clear hW2 hbl2
          go_wp2
          go_meet
          case rel => exact ⟨rfl, HBL2.out⟩
      case rest =>
      obtain ⟨rfl, hbc⟩ := hcut
      clear HBc
      have HBc := Lib.hid hbc
      clear hbc
      have hc1 := HAH.out _ HBc.out s s hs
      rw [ahN_self] at hc1
      have HC1 := Lib.hid hc1
      clear hc1
      go_wp2_with fail
      refine HC1.out.mono ?_
      rintro r w2 ⟨rfl, hb2⟩
      have HB2 := Lib.hid (HBc.out.trans (hb2.mono HBc.out.size))
      clear hb2 HC1
      have hc1 := HAH.out _ HB2.out p s hs
      obtain ⟨b1, hb1⟩ : ∃ b, ahN L p s = b := ⟨_, rfl⟩
      rw [hb1] at hc1
      have HC1 := Lib.hid hc1
      have HE1 := Lib.hid hb1
      clear hc1 hb1
      go_wp2_with fail
      refine HC1.out.mono ?_
      rintro r w3 ⟨rfl, hb3⟩
      have HB3 := Lib.hid (HB2.out.trans (hb3.mono HB2.out.size))
      clear hb3 HC1
      cases b1 with
      | false =>
        go_wp2_with fail
        refine (awake_any _).mono ?_
        rintro r w8 ⟨rfl, hb8⟩
        have HB8 := Lib.hid (HB3.out.trans (hb8.mono HB3.out.size))
        clear hb8
        go_wp2
        go_ret
        exact ⟨rfl, HB8.out⟩
      | true =>
        have hc1 := HAH.out _ HB3.out s p hp
        rw [show ahN L s p = false from (ahN_two L p s).resolve_left (by rw [HE1.out]; simp)] at hc1
        have HC1 := Lib.hid hc1
        clear hc1
        go_wp2_with fail
        refine HC1.out.mono ?_
        rintro r w4 ⟨rfl, hb4⟩
        have HB4 := Lib.hid (HB3.out.trans (hb4.mono HB3.out.size))
        clear hb4 HC1
        go_wp2_with fail
        refine (awake_any _).mono ?_
        rintro r w8 ⟨rfl, hb8⟩
        have HB8 := Lib.hid (HB4.out.trans (hb8.mono HB4.out.size))
        clear hb8
        go_wp2
        go_ret
        exact ⟨rfl, HB8.out⟩
end Go.Proofs.Ytpcjcmbhoglnfaa
