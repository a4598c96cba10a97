/- Threads: contracts of what only looks: Runs, Panicked, Depth, Parent, Len, refuse. -/
import Derived.Test.YtnhhinlhfaapcaaA
namespace Go.Proofs.Ytnhhinlhfaapcaa
open Go.RowKit
set_option linter.unusedVariables false
set_option linter.unusedSimpArgs false

def noTh : Th := ⟨-1, false, false, []⟩
def at_ (t : Tab) (n : Int) : Th := if hasB t n then t.th n.toNat else noTh
theorem at_in {t : Tab} {i : Nat} (hi : i < t.n) : at_ t (i : Int) = t.th i := by unfold at_; rw [hasB_iff.2 ⟨by omega, by omega⟩]; rfl
theorem has_in {t : Tab} {i : Nat} (hi : i < t.n) : hasB t (i : Int) = true := hasB_iff.2 ⟨by omega, by omega⟩
theorem has_cases (t : Tab) (n : Int) : hasB t n = false ∨ ∃ i : Nat, n = (i : Int) ∧ i < t.n := by
  cases h : hasB t n
  · exact .inl rfl
  · obtain ⟨h1, h2⟩ := hasB_iff.1 h
    exact .inr ⟨n.toNat, by omega, by omega⟩

theorem runs_any (g B : Nat) (t : Tab) (n : Int) (w : World) (h : TabR w B g t) : Calls Try.prog 13 #[.pointer (some ⟨g, 0, none⟩), .int .i64 n] w fun r w' => r = .returned (.bool (hasB t n && !(at_ t n).ended)) ∧ w = w' := by
  have HH := Lib.hid (has_any g B t n w h)
  rcases has_cases t n with hn | ⟨i, rfl, hi⟩
  · have HA := Lib.hid (show at_ t n = noTh by unfold at_; rw [hn]; rfl)
    have HN := Lib.hid hn
    rw [hn] at HH
    clear h hn
    go_enter Try.func13, Try.ntmps13
    go_wp2_with fail
    refine HH.out.mono ?_
    rintro r w1 ⟨rfl, rfl⟩
    go_wp2
    go_ret
    exact ⟨by rw [HN.out]; rfl, rfl⟩
  · obtain ⟨v, S, C, h⟩ := h
    obtain ⟨gl, cl, rfl⟩ := h.l
    have c0 := h.box
    obtain ⟨d0, d1, d2, d3⟩ := h.cells hi
    obtain ⟨As, cs, hs, hs1, hs2, hs3⟩ := h.sform hi
    rw [hs] at d3
    have HA := Lib.hid (at_in hi)
    have HN := Lib.hid (has_in hi)
    rw [has_in hi] at HH
    have hiI : (i : Int) < (t.n : Int) := by omega
    have hi0 : (0 : Int) ≤ (i : Int) := by omega
    obtain ⟨x, hx⟩ : ∃ x, x = t.th i := ⟨_, rfl⟩
    rw [← hx] at d0 d1 d2 HA
    obtain ⟨ln, hln⟩ : ∃ m, dep t i = m := ⟨_, rfl⟩
    rw [hln] at d3
    have HLN := Lib.hid (show x.scopes.length = ln by rw [hx]; exact hln)
    clear h hs hs1 hs2 hs3 hx hln
    obtain ⟨xe, hxe⟩ : ∃ b, x.ended = b := ⟨_, rfl⟩
    rw [hxe] at d1
    have HXE := Lib.hid hxe
    clear hxe
    go_enter Try.func13, Try.ntmps13
    go_wp2_with fail
    refine HH.out.mono ?_
    rintro r w1 ⟨rfl, rfl⟩
    go_wp2
    go_ret
    exact ⟨by rw [HN.out, HA.out, HXE.out]; rfl, rfl⟩

theorem panicked_any (g B : Nat) (t : Tab) (n : Int) (w : World) (h : TabR w B g t) : Calls Try.prog 14 #[.pointer (some ⟨g, 0, none⟩), .int .i64 n] w fun r w' => r = .returned (.bool (hasB t n && (at_ t n).panicked)) ∧ w = w' := by
  have HH := Lib.hid (has_any g B t n w h)
  rcases has_cases t n with hn | ⟨i, rfl, hi⟩
  · have HA := Lib.hid (show at_ t n = noTh by unfold at_; rw [hn]; rfl)
    have HN := Lib.hid hn
    rw [hn] at HH
    clear h hn
    go_enter Try.func14, Try.ntmps14
    go_wp2_with fail
    refine HH.out.mono ?_
    rintro r w1 ⟨rfl, rfl⟩
    go_wp2
    go_ret
    exact ⟨by rw [HN.out]; rfl, rfl⟩
  · obtain ⟨v, S, C, h⟩ := h
    obtain ⟨gl, cl, rfl⟩ := h.l
    have c0 := h.box
    obtain ⟨d0, d1, d2, d3⟩ := h.cells hi
    obtain ⟨As, cs, hs, hs1, hs2, hs3⟩ := h.sform hi
    rw [hs] at d3
    have HA := Lib.hid (at_in hi)
    have HN := Lib.hid (has_in hi)
    rw [has_in hi] at HH
    have hiI : (i : Int) < (t.n : Int) := by omega
    have hi0 : (0 : Int) ≤ (i : Int) := by omega
    obtain ⟨x, hx⟩ : ∃ x, x = t.th i := ⟨_, rfl⟩
    rw [← hx] at d0 d1 d2 HA
    obtain ⟨ln, hln⟩ : ∃ m, dep t i = m := ⟨_, rfl⟩
    rw [hln] at d3
    have HLN := Lib.hid (show x.scopes.length = ln by rw [hx]; exact hln)
    clear h hs hs1 hs2 hs3 hx hln
    obtain ⟨xe, hxe⟩ : ∃ b, x.ended = b := ⟨_, rfl⟩
    rw [hxe] at d1
    have HXE := Lib.hid hxe
    clear hxe
    go_enter Try.func14, Try.ntmps14
    go_wp2_with fail
    refine HH.out.mono ?_
    rintro r w1 ⟨rfl, rfl⟩
    go_wp2
    go_ret
    exact ⟨by rw [HN.out, HA.out]; rfl, rfl⟩

theorem depth_any (g B : Nat) (t : Tab) (n : Int) (w : World) (h : TabR w B g t) : Calls Try.prog 16 #[.pointer (some ⟨g, 0, none⟩), .int .i64 n] w fun r w' => r = .returned (.int .i64 (at_ t n).scopes.length) ∧ w = w' := by
  have HH := Lib.hid (has_any g B t n w h)
  rcases has_cases t n with hn | ⟨i, rfl, hi⟩
  · have HA := Lib.hid (show at_ t n = noTh by unfold at_; rw [hn]; rfl)
    have HN := Lib.hid hn
    rw [hn] at HH
    clear h hn
    go_enter Try.func16, Try.ntmps16
    go_wp2_with fail
    refine HH.out.mono ?_
    rintro r w1 ⟨rfl, rfl⟩
    go_wp2
    go_ret
    exact ⟨by rw [HA.out]; rfl, rfl⟩
  · obtain ⟨v, S, C, h⟩ := h
    obtain ⟨gl, cl, rfl⟩ := h.l
    have c0 := h.box
    obtain ⟨d0, d1, d2, d3⟩ := h.cells hi
    obtain ⟨As, cs, hs, hs1, hs2, hs3⟩ := h.sform hi
    rw [hs] at d3
    have HA := Lib.hid (at_in hi)
    have HN := Lib.hid (has_in hi)
    rw [has_in hi] at HH
    have hiI : (i : Int) < (t.n : Int) := by omega
    have hi0 : (0 : Int) ≤ (i : Int) := by omega
    obtain ⟨x, hx⟩ : ∃ x, x = t.th i := ⟨_, rfl⟩
    rw [← hx] at d0 d1 d2 HA
    obtain ⟨ln, hln⟩ : ∃ m, dep t i = m := ⟨_, rfl⟩
    rw [hln] at d3
    have HLN := Lib.hid (show x.scopes.length = ln by rw [hx]; exact hln)
    clear h hs hs1 hs2 hs3 hx hln
    obtain ⟨xe, hxe⟩ : ∃ b, x.ended = b := ⟨_, rfl⟩
    rw [hxe] at d1
    have HXE := Lib.hid hxe
    clear hxe
    go_enter Try.func16, Try.ntmps16
    go_wp2_with fail
    refine HH.out.mono ?_
    rintro r w1 ⟨rfl, rfl⟩
    go_wp2
    go_ret
    exact ⟨by rw [HA.out, HLN.out]; rfl, rfl⟩

theorem parent_any (g B : Nat) (t : Tab) (n : Int) (w : World) (h : TabR w B g t) : Calls Try.prog 22 #[.pointer (some ⟨g, 0, none⟩), .int .i64 n] w fun r w' => r = .returned (.int .i64 (at_ t n).parent) ∧ w = w' := by
  have HH := Lib.hid (has_any g B t n w h)
  rcases has_cases t n with hn | ⟨i, rfl, hi⟩
  · have HA := Lib.hid (show at_ t n = noTh by unfold at_; rw [hn]; rfl)
    have HN := Lib.hid hn
    rw [hn] at HH
    clear h hn
    go_enter Try.func22, Try.ntmps22
    go_wp2_with fail
    refine HH.out.mono ?_
    rintro r w1 ⟨rfl, rfl⟩
    go_wp2
    go_ret
    exact ⟨by rw [HA.out]; rfl, rfl⟩
  · obtain ⟨v, S, C, h⟩ := h
    obtain ⟨gl, cl, rfl⟩ := h.l
    have c0 := h.box
    obtain ⟨d0, d1, d2, d3⟩ := h.cells hi
    obtain ⟨As, cs, hs, hs1, hs2, hs3⟩ := h.sform hi
    rw [hs] at d3
    have HA := Lib.hid (at_in hi)
    have HN := Lib.hid (has_in hi)
    rw [has_in hi] at HH
    have hiI : (i : Int) < (t.n : Int) := by omega
    have hi0 : (0 : Int) ≤ (i : Int) := by omega
    obtain ⟨x, hx⟩ : ∃ x, x = t.th i := ⟨_, rfl⟩
    rw [← hx] at d0 d1 d2 HA
    obtain ⟨ln, hln⟩ : ∃ m, dep t i = m := ⟨_, rfl⟩
    rw [hln] at d3
    have HLN := Lib.hid (show x.scopes.length = ln by rw [hx]; exact hln)
    clear h hs hs1 hs2 hs3 hx hln
    obtain ⟨xe, hxe⟩ : ∃ b, x.ended = b := ⟨_, rfl⟩
    rw [hxe] at d1
    have HXE := Lib.hid hxe
    clear hxe
    go_enter Try.func22, Try.ntmps22
    go_wp2_with fail
    refine HH.out.mono ?_
    rintro r w1 ⟨rfl, rfl⟩
    go_wp2
    go_ret
    exact ⟨by rw [HA.out]; rfl, rfl⟩

theorem len_any (g B : Nat) (t : Tab) (w : World) (h : TabR w B g t) : Calls Try.prog 18 #[.pointer (some ⟨g, 0, none⟩)] w fun r w' => r = .returned (.int .i64 t.n) ∧ w = w' := by
  have HH := Lib.hid (none_any g B t w h)
  obtain ⟨v, S, C, h⟩ := h
  obtain ⟨gl, cl, rfl⟩ := h.l
  have c0 := h.box
  clear h
  go_enter Try.func18, Try.ntmps18
  go_wp2_with fail
  refine HH.out.mono ?_
  rintro r w1 ⟨rfl, rfl⟩
  go_wp2
  go_ret
  exact ⟨rfl, rfl⟩
/-- why nothing is done -/
def refB (t : Tab) (n : Int) (k : Int) : Bool := !hasB t n || (at_ t n).ended || decide (((at_ t n).scopes.length : Int) < k)
theorem refuse_any (g B : Nat) (t : Tab) (n k : Int) (w : World) (h : TabR w B g t) (e : Int) (he : (if refB t n k then (2 : Int) else 0) = e) : Calls Try.prog 32 #[.pointer (some ⟨g, 0, none⟩), .int .i64 n, .int .i64 k] w fun r w' => r = .returned (.int .i64 e) ∧ w = w' := by
  have HH := Lib.hid (has_any g B t n w h)
  have HO := Lib.hid (none_any g B t w h)
  rcases has_cases t n with hn | ⟨i, rfl, hi⟩
  · obtain rfl : e = 2 := by rw [← he]; unfold refB; rw [hn]; rfl
    rw [hn] at HH
    clear h hn he
    go_enter Try.func32, Try.ntmps32
    go_wp2_with fail
    refine HO.out.mono ?_
    rintro r w1 ⟨rfl, rfl⟩
    go_wp2_with fail
    refine HH.out.mono ?_
    rintro r w1 ⟨rfl, rfl⟩
    go_wp2
    go_ret
    exact ⟨rfl, rfl⟩
  · obtain ⟨v, S, C, h⟩ := h
    obtain ⟨gl, cl, rfl⟩ := h.l
    have c0 := h.box
    obtain ⟨d0, d1, d2, d3⟩ := h.cells hi
    obtain ⟨As, cs, hs, hs1, hs2, hs3⟩ := h.sform hi
    rw [hs] at d3
    rw [has_in hi] at HH
    have hiI : (i : Int) < (t.n : Int) := by omega
    have hi0 : (0 : Int) ≤ (i : Int) := by omega
    obtain ⟨ln, hln⟩ : ∃ m, dep t i = m := ⟨_, rfl⟩
    rw [hln] at d3
    obtain ⟨xe, hxe⟩ : ∃ x, (t.th i).ended = x := ⟨_, rfl⟩
    rw [hxe] at d1
    have hbb : refB t i k = (xe || decide ((ln : Int) < k)) := by unfold refB; rw [has_in hi, at_in hi, hxe, ← hln]; rfl
    rw [hbb] at he
    clear h hs hs1 hs2 hs3 hln hbb hxe
    cases xe
    · obtain ⟨q, hq⟩ : ∃ q, decide ((ln : Int) < k) = q := ⟨_, rfl⟩
      rw [hq] at he
      cases q
      all_goals
        simp at he
        subst he
        go_enter Try.func32, Try.ntmps32
        go_wp2_with fail
        refine HO.out.mono ?_
        rintro r w1 ⟨rfl, rfl⟩
        go_wp2_with fail
        refine HH.out.mono ?_
        rintro r w1 ⟨rfl, rfl⟩
        go_wp2
        go_ret
        exact ⟨rfl, rfl⟩
    · simp at he
      subst he
      go_enter Try.func32, Try.ntmps32
      go_wp2_with fail
      refine HO.out.mono ?_
      rintro r w1 ⟨rfl, rfl⟩
      go_wp2_with fail
      refine HH.out.mono ?_
      rintro r w1 ⟨rfl, rfl⟩
      go_wp2
      go_ret
      exact ⟨rfl, rfl⟩
end Go.Proofs.Ytnhhinlhfaapcaa

