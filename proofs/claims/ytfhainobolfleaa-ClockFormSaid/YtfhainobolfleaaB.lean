/- Clock: contracts of the document's Form, Same, Within. -/
import Derived.Test.YtfhainobolfleaaA
namespace Go.Proofs.Ytfhainobolfleaa
open Go.RowKit
set_option linter.unusedVariables false

def atN (C : List Int) (i : Nat) : Int := atZ C i
theorem upL_take (C : List Int) : ∀ m, m ≤ C.length → upL (atN C) m = C.take m
  | 0, _ => rfl
  | m + 1, h => by
    have hm : C[m]? = some C[m] := List.getElem?_eq_getElem (by omega)
    rw [upL_succ, upL_take C m (by omega), List.take_add_one, hm]
    have := atZ_in hm
    simp [atN, this]
theorem formL_take (C : List Int) {n m : Nat} (h : trim (atN C) n = m) (hm : m ≤ C.length) : formL (atN C) n = C.take m := by
  unfold formL; rw [h]; exact upL_take C m hm

set_option maxHeartbeats 800000 in
theorem refForm_any (A : Option Addr) (len c : Nat) (C : List Int) (w : World) (hlen : C.length = len) (hc : len ≤ c) (hN : len ≤ 1000000) (hcm : c ≤ maxLen) (h : Rd w w.heap.size 1 intC A C) :
    Calls Try.prog 20 #[.slice A len c] w fun r w' => ∃ v, r = .returned v ∧ w'.ownsRow w.heap.size 3 1 v (formL (atN C) len).length ((formL (atN C) len).flatMap intC) ∧ Below w.heap.size w w' := by
  obtain ⟨i0, hi0, hz0, hz1, hz2⟩ := info_parts info3
  have HL := Lib.hid hlen
  clear hlen
  unfold maxLen at hcm
  go_enter Try.func20, Try.ntmps20
  go_wp2
  go_loop [3] (fun n => ∃ m : Nat, m ≤ len ∧ n = .int .i64 m ∧ trim (atN C) len = trim (atN C) m) (fun n => (intOf n).toNat)
  case atStart => exact ⟨len, Nat.le_refl _, rfl, rfl⟩
  case round =>
    obtain ⟨m, hm, rfl, htr⟩ := hrel
    have HTR := Lib.hid htr
    clear htr
    have fin : ∀ (v : Value) (w1 : World) (q : Nat), q ≤ len → trim (atN C) len = q → w1.ownsRow w.heap.size 3 1 v q ((C.take q).flatMap intC) → w1.ownsRow w.heap.size 3 1 v (formL (atN C) len).length ((formL (atN C) len).flatMap intC) := by
      intro v w1 q hq htq ho
      have e := formL_take C htq (by rw [HL.out]; exact hq)
      rw [e, List.length_take, HL.out, Nat.min_eq_left hq]
      exact ho
    have FIN := Lib.hid fin
    clear fin
    rcases Nat.eq_zero_or_pos m with h0 | h0
    · subst h0
      go_wp2_with (at_builtin; (refine wpList_append_rd _ rfl _ _ 22 rfl w.heap.size 3 i0 (.int .i64 0) 1 8 Try.underlying22 hi0 hz0 hz1 hz2 rfl (by decide) (.slice none 0 0) 0 [] rfl (World.ownsRow_nil _ _ _ _) w.heap.size _ 0 _ intC intC_len intC_one [] rfl rfl (.inl rfl) (by unfold maxLen; omega) (by omega) (Nat.le_refl _) ?_); intro v1 w1 hown1 hg1 _)
      go_ret
      exact ⟨_, rfl, FIN.out v1 w1 0 (by omega) HTR.out (by simpa using hown1), (Below.refl _ _).grown hg1 (Nat.le_refl _) (by simp [Value.ownBlock])⟩
    · obtain ⟨j, rfl⟩ : ∃ j, m = j + 1 := ⟨m - 1, by omega⟩
      obtain ⟨b, off, x, hx, rfl, hb, hcx⟩ := h.int (k := j) (by rw [HL.out]; omega)
      have hjl : (j : Int) < (len : Int) := by omega
      have hjn : (0 : Int) ≤ (j : Int) := by omega
      by_cases hx0 : x = 0
      · subst hx0
        have HG := Lib.hid (trim_succ_eq (atN C) j (atZ_in hx))
        clear hx
        go_wp2
        go_round
        case rel => exact ⟨j, by omega, by go_num, HTR.out.trans HG.out⟩
        case measure => simp [intOf] <;> omega
      · have HG := Lib.hid (trim_succ_ne (atN C) j (by unfold atN; rw [atZ_in hx]; exact hx0))
        have b0 : (x == 0) = false := by simpa using hx0
        clear hx hx0
        have hlt : ((C.take (j + 1)).length) = j + 1 := by rw [List.length_take, HL.out]; omega
        have HLT := Lib.hid hlt
        clear hlt
        go_wp2_with (at_builtin; refine wpList_append_rd _ rfl _ _ 22 rfl w.heap.size 3 i0 (.int .i64 0) 1 8 Try.underlying22 hi0 hz0 hz1 hz2 rfl (by decide) (.slice none 0 0) 0 [] rfl (World.ownsRow_nil _ _ _ _) w.heap.size _ (j + 1) _ intC intC_len intC_one (C.take (j + 1)) HLT.out rfl (h.take (j + 1)) (by unfold maxLen; omega) (by omega) (Nat.le_refl _) ?_; intro v1 w1 hown1 hg1 _)
        go_ret
        exact ⟨_, rfl, FIN.out v1 w1 (j + 1) (by omega) (HTR.out.trans HG.out) (by simpa using hown1), (Below.refl _ _).grown hg1 (Nat.le_refl _) (by simp [Value.ownBlock])⟩

theorem take_eq_succ {L M : List Int} {k : Nat} {x y : Int} (h : L.take k = M.take k) (hx : L[k]? = some x) (hy : M[k]? = some y) (hxy : x = y) : L.take (k + 1) = M.take (k + 1) := by
  rw [List.take_add_one, List.take_add_one, h, hx, hy, hxy]

set_option maxHeartbeats 800000 in
theorem refSame_any (A1 A2 : Option Addr) (l1 c1 l2 c2 B : Nat) (L M : List Int) (w : World) (h1 : L.length = l1) (h2 : M.length = l2) (r1 : Rd w B 1 intC A1 L) (r2 : Rd w B 1 intC A2 M) (hN : l1 ≤ 1000000) :
    Calls Try.prog 14 #[.slice A1 l1 c1, .slice A2 l2 c2] w fun r w' => r = .returned (.bool (decide (L = M))) ∧ ∃ n, w' = w.drewN n := by
  by_cases hne : l1 = l2
  · subst hne
    have H1 := Lib.hid h1
    have H2 := Lib.hid h2
    clear h1 h2
    go_enter Try.func14, Try.ntmps14
    go_wp2
    go_loopw [5] (fun i wr => ∃ k : Nat, k ≤ l1 ∧ i = .int .i64 k ∧ L.take k = M.take k ∧ ∃ n, wr = w.drewN n) (fun i _ => l1 - (intOf i).toNat)
    case atStart => exact ⟨0, by omega, rfl, rfl, 0, rfl⟩
    case round =>
      obtain ⟨k, hk, rfl, htk, nd, rfl⟩ := hrel
      have HTK := Lib.hid htk
      clear htk
      by_cases hlt : k < l1
      · obtain ⟨b, off, x, hx, rfl, hb, hc⟩ := r1.int (k := k) (by rw [H1.out]; exact hlt)
        obtain ⟨b', off', y, hy, rfl, hb', hc'⟩ := r2.int (k := k) (by rw [H2.out]; exact hlt)
        have HX := Lib.hid hx
        have HY := Lib.hid hy
        have hi : (k : Int) < (l1 : Int) := by omega
        have hi0 : (0 : Int) ≤ (k : Int) := by omega
        clear hx hy
        by_cases hxy : x = y
        · subst hxy
          go_wp2
          go_quiet (fail)
          go_wp2
          go_roundw
          case rel => exact ⟨k + 1, by omega, by go_num, take_eq_succ HTK.out HX.out HY.out rfl, _, rfl⟩
          case measure => simp [intOf] <;> omega
        · have bn : (x != y) = true := by simpa using hxy
          have hLM : ¬ L = M := by
            intro e
            have h1 := HX.out
            rw [e, HY.out] at h1
            cases h1
            exact hxy rfl
          have hd : decide (L = M) = false := decide_eq_false hLM
          have HD := Lib.hid hd
          clear hLM hd hxy
          go_wp2
          go_quiet (fail)
          go_wp2
          go_ret
          exact ⟨by rw [HD.out]; rfl, _, World.drewN_drewN _ _ _⟩
      · obtain rfl : k = l1 := by omega
        have hd : decide (L = M) = true := by
          have := HTK.out
          rw [List.take_of_length_le (by rw [H1.out]; exact Nat.le_refl _), List.take_of_length_le (by rw [H2.out]; exact Nat.le_refl _)] at this
          exact decide_eq_true this
        have HD := Lib.hid hd
        clear hd
        go_wp2
        go_ret
        exact ⟨by rw [HD.out]; rfl, _, rfl⟩
  · have hd : decide (L = M) = false := decide_eq_false fun e => hne (by rw [← h1, ← h2, e])
    rw [hd]
    have bn : ((l1 : Int) != (l2 : Int)) = true := by rw [bne_iff_ne]; omega
    clear hd h1 h2 hne
    go_enter Try.func14, Try.ntmps14
    go_wp2
    go_ret
    exact ⟨rfl, 0, rfl⟩
end Go.Proofs.Ytfhainobolfleaa
