/- RaceAhead: the walk. -/
import Derived.Test.YtpcjcmbhoglnfaaOr
import Derived.Test.YtpcjcmbhoglnfaaRd
import Derived.Test.YtpcjcmbhoglnfaaBa
namespace Go.Proofs.Ytpcjcmbhoglnfaa
open Go.RowKit Go.ChangeMaps Go.MapKept
set_option linter.unusedVariables false
set_option linter.unusedSimpArgs false

set_option maxRecDepth 100000 in
set_option maxHeartbeats 6400000 in
theorem ahead_no {w : World} (A : Option Addr) (len c : Nat) (L : List Ev) (h : EvRow w A len c L) (i k : Int) (hn : i < 0 ∨ k ≤ i ∨ (len : Int) ≤ k ∨ mayB L = false) :
    Calls Try.prog 17 #[.slice A len c, .int .i64 i, .int .i64 k] w fun r w' => r = .returned (.bool false) ∧ Below w.heap.size w w' := by
  have HB := Lib.hid (Below.refl w.heap.size w)
  by_cases h1 : i < 0
  · clear hn h
    go_enter Try.func17, Try.ntmps17
    go_wp2
    go_ret
    exact ⟨rfl, HB.out⟩
  by_cases h2 : k ≤ i
  · clear hn h
    go_enter Try.func17, Try.ntmps17
    go_wp2
    go_ret
    exact ⟨rfl, HB.out⟩
  by_cases h3 : (len : Int) ≤ k
  · clear hn h
    go_enter Try.func17, Try.ntmps17
    go_wp2
    go_ret
    exact ⟨rfl, HB.out⟩
  have hm : mayB L = false := by
    rcases hn with h | h | h | h
    · omega
    · omega
    · omega
    · exact h
  have hN := h.N
  have HMAY := Lib.hid (may_any (c := c) false h.len (by omega) h.rd h.ok hm)
  simp only [Bool.false_eq_true, if_false] at HMAY
  clear hn h hm
  go_enter Try.func17, Try.ntmps17
  go_wp2_with fail
  refine HMAY.out.mono ?_
  rintro r w1 ⟨rfl, hb1⟩
  have HB1 := Lib.hid hb1
  clear hb1
  go_wp2
  go_ret
  exact ⟨rfl, HB1.out⟩

set_option maxRecDepth 100000 in
set_option maxHeartbeats 12800000 in
theorem raceAhead_walk (A : Option Addr) (c : Nat) (L : List Ev) (a1 a2 : Int) (w : World) (rd : Rd w w.heap.size 4 evC A L) (g : ∀ x ∈ L, EvOk w w.heap.size x) (hc : L.length ≤ c) (hm : c ≤ maxLen) (i1 : (Lit.int .i64 a1).wf = true) (i2 : (Lit.int .i64 a2).wf = true) :
    Calls Try.prog 9 #[.slice A L.length c, .int .i64 a1, .int .i64 a2] w fun r w' => r = .returned (.bool true) ∧ Below w.heap.size w w' := by
  clear i1 i2
  obtain ⟨len, hlen⟩ : ∃ n, L.length = n := ⟨_, rfl⟩
  obtain ⟨sb, hsb⟩ : ∃ b, shortB L = b := ⟨_, rfl⟩
  have HLG := Lib.hid (long_any A len c L w hlen rd sb hsb)
  rw [hlen] at hc ⊢
  cases sb with
  | false =>
    have HB := Lib.hid (Below.refl w.heap.size w)
    clear rd g hlen hsb
    go_enter Try.func9, Try.ntmps9
    go_wp2_with fail
    refine HLG.out.mono ?_
    rintro r w1 ⟨rfl, rfl⟩
    go_wp2
    go_ret
    exact ⟨rfl, HB.out⟩
  | true =>
    have HR := Lib.hid (shortB_row hlen rd g hc hsb)
    obtain ⟨mb, hmb⟩ : ∃ b, mayB L = b := ⟨_, rfl⟩
    have hn120 : len ≤ 120 := by
      unfold shortB at hsb
      rw [Bool.and_eq_true] at hsb
      have := of_decide_eq_true hsb.1
      omega
    have HM := Lib.hid hmb
    have HL := Lib.hid hlen
    have HRD := Lib.hid (refRead_any A len c L HR.out)
    clear rd g hlen hsb hmb
    cases mb with
    | false =>
      go_enter Try.func9, Try.ntmps9
      go_wp2_with fail
      refine HLG.out.mono ?_
      rintro r w1 ⟨rfl, rfl⟩
      clear HLG
      go_wp2_with fail
      refine HRD.out.mono ?_
      rintro r w1 ⟨ri, rn, rfl, hri, hb1⟩
      have hri0 : ¬ ri < 0 := by
        have := hri
        rw [HM.out] at this
        have := of_decide_eq_true this
        omega
      have HB1 := Lib.hid hb1
      clear hri hb1
      go_wp2_with fail
      refine (ahead_no A len c L (HR.out.below HB1.out) a1 a2 (.inr (.inr (.inr HM.out)))).mono ?_
      rintro r w2 ⟨rfl, hb2⟩
      have HB2 := Lib.hid (HB1.out.trans (hb2.mono HB1.out.size))
      clear hb2
      go_wp2_with fail
      refine (awake_any _).mono ?_
      rintro r w8 ⟨rfl, hb8⟩
      have HB8 := Lib.hid (HB2.out.trans (hb8.mono HB2.out.size))
      clear hb8
      go_wp2
      go_ret
      exact ⟨rfl, HB8.out⟩
    | true =>
      by_cases hin : 0 ≤ a1 ∧ a1 < a2 ∧ a2 < (len : Int)
      · obtain ⟨i, rfl⟩ := Int.eq_ofNat_of_zero_le hin.1
        obtain ⟨k, rfl⟩ := Int.eq_ofNat_of_zero_le (show 0 ≤ a2 by omega)
        have hik : i < k := by omega
        have hk : k < len := by omega
        have hikI : (i : Int) < (k : Int) := hin.2.1
        have hkI : (k : Int) < (len : Int) := hin.2.2
        have hi0 : (0 : Int) ≤ (i : Int) := hin.1
        have hk0 : (0 : Int) ≤ (k : Int) := by omega
        clear hin
        obtain ⟨b, hb⟩ : ∃ b, ahB L i k = b := ⟨_, rfl⟩
        have HN := Lib.hid (show ahN L i k = b by unfold ahN; rw [hb, decide_eq_true hik]; rfl)
        have HAH := Lib.hid (fun W (hW : Below w.heap.size w W) => ahead_yes A len c L (HR.out.below hW) i k hik hk HM.out b hb)
        clear hb
        go_enter Try.func9, Try.ntmps9
        go_wp2_with fail
        refine HLG.out.mono ?_
        rintro r w1 ⟨rfl, rfl⟩
        clear HLG
        go_wp2_with fail
        refine HRD.out.mono ?_
        rintro r w1 ⟨ri, rn, rfl, hri, hb1⟩
        have hri0 : ri < 0 := by
          have := hri
          rw [HM.out] at this
          have := of_decide_eq_false this
          omega
        have HB1 := Lib.hid hb1
        clear hri hb1
        go_wp2_with fail
        refine (order_any A len c L (HR.out.below HB1.out) HM.out).mono ?_
        rintro r w2 ⟨Ao, co, rfl, hout, hb2⟩
        rw [HL.out] at hout ⊢
        obtain ⟨go, gr, c3, rfl, o1, o2⟩ := hout.at_ hk hik
        rw [HN.out] at o2
        have HB2 := Lib.hid (HB1.out.trans (hb2.mono HB1.out.size))
        clear hout hb2
        go_wp2_with fail
        refine (HAH.out _ HB2.out).mono ?_
        rintro r w3 ⟨rfl, hb2⟩
        have HB3 := Lib.hid (HB2.out.trans (hb2.mono HB2.out.size))
        have hbb : (b == b) = true := by simp
        clear hb2 o1 o2
        go_wp2_with fail
        refine (awake_any _).mono ?_
        rintro r w8 ⟨rfl, hb8⟩
        have HB8 := Lib.hid (HB3.out.trans (hb8.mono HB3.out.size))
        clear hb8
        go_wp2
        go_ret
        exact ⟨rfl, HB8.out⟩
      · have hno : a1 < 0 ∨ a2 ≤ a1 ∨ (len : Int) ≤ a2 := by omega
        have HNO := Lib.hid (fun W (hW : Below w.heap.size w W) => ahead_no A len c L (HR.out.below hW) a1 a2 (by rcases hno with h | h | h; exact .inl h; exact .inr (.inl h); exact .inr (.inr (.inl h))))
        clear hin
        have hc3 : a1 < 0 ∨ (0 ≤ a1 ∧ a2 ≤ a1) ∨ (0 ≤ a1 ∧ a1 < a2 ∧ (len : Int) ≤ a2) := by omega
        clear hno
        rcases hc3 with hc3 | ⟨hc3, hc4⟩ | ⟨hc3, hc4, hc5⟩
        all_goals
          go_enter Try.func9, Try.ntmps9
          go_wp2_with fail
          refine HLG.out.mono ?_
          rintro r w1 ⟨rfl, rfl⟩
          clear HLG
          go_wp2_with fail
          refine HRD.out.mono ?_
          rintro r w1 ⟨ri, rn, rfl, hri, hb1⟩
          have hri0 : ri < 0 := by
            have := hri
            rw [HM.out] at this
            have := of_decide_eq_false this
            omega
          have HB1 := Lib.hid hb1
          clear hri hb1
          go_wp2_with fail
          refine (HNO.out _ HB1.out).mono ?_
          rintro r w2 ⟨rfl, hb2⟩
          have HB2 := Lib.hid (HB1.out.trans (hb2.mono HB1.out.size))
          clear hb2
          go_wp2_with fail
          refine (awake_any _).mono ?_
          rintro r w8 ⟨rfl, hb8⟩
          have HB8 := Lib.hid (HB2.out.trans (hb8.mono HB2.out.size))
          clear hb8
          go_wp2
          go_ret
          exact ⟨rfl, HB8.out⟩
end Go.Proofs.Ytpcjcmbhoglnfaa

