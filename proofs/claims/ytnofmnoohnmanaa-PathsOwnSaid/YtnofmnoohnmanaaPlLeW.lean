/- PathsLeast: the walk. -/
import Derived.Test.YtnofmnoohnmanaaPlI
import Derived.Test.YtnofmnoohnmanaaPlP
namespace Go.Proofs.Ytnofmnoohnmanaa
open Go.RowKit
set_option linter.unusedVariables false
set_option linter.unusedSimpArgs false


theorem rows_of {w0 w W : World} {Ks : List PKey} {v : Value} {len : Nat} (h : LeastAt w0 Ks Ks v w) (hb : Below w.heap.size w W) (hlen : Ks.length ≤ len) (hl : len ≤ 1000) : ∃ (A : Option Addr) (n c : Nat) (O : List Pl), v = .slice A n c ∧ PlRow W A n c O ∧ O.map Pl.key = leastP Ks Ks := by
  obtain ⟨O, hown, hok, hkey⟩ := h
  obtain ⟨A, c, rfl, hrd, h1, h2⟩ := own_rd plC_len hown
  have hn : O.length ≤ len := by
    have := congrArg List.length hkey
    rw [List.length_map] at this
    rw [this]; exact Nat.le_trans (leastP_le _ _) hlen
  exact ⟨A, _, c, O, rfl, ⟨rfl, (hrd.below hb).more hb.size, fun y hy => ((hok y hy).below hb).ok, h1, by omega⟩, hkey⟩
set_option maxHeartbeats 6400000 in
set_option maxRecDepth 100000 in
theorem pathsLeast_walk (A0 : Option Addr) (c0 : Nat) (L0 : List Pl) (w : World) (rd0 : Rd w w.heap.size 2 plC A0 L0) (g0 : ∀ x ∈ L0, PlOk w w.heap.size x) (hc0 : L0.length ≤ c0) (hm0 : c0 ≤ maxLen) :
    Calls Try.prog 5 #[.slice A0 L0.length c0] w fun r w' => r = .returned (.bool true) ∧ Below w.heap.size w w' := by
  obtain ⟨mb, hmb⟩ : ∃ b, manyB L0 = b := ⟨_, rfl⟩
  obtain ⟨len, hlen⟩ : ∃ n, L0.length = n := ⟨_, rfl⟩
  rw [hlen] at hc0 ⊢
  have HM := Lib.hid (many_any A0 len c0 L0 w hlen rd0 g0 hc0 hm0 mb hmb)
  cases mb with
  | true =>
    clear rd0 g0 hlen hmb
    go_enter Try.func5, Try.ntmps5
    go_wp2_with fail
    refine HM.out.mono ?_
    rintro r w1 ⟨rfl, hb1⟩
    have HB := Lib.hid hb1
    clear hb1
    go_wp2
    go_ret
    exact ⟨rfl, HB.out⟩
  | false =>
    obtain ⟨h40, hlong⟩ := manyB_no hmb
    have H := Lib.hid (PlRow.mk hlen rd0 g0 hc0 (by omega))
    have HP := Lib.hid (show ∀ x ∈ L0, x.path.length ≤ 1000000 from fun x hx => Nat.le_trans (longB_no (hlong x hx)).1 (by omega))
    rw [hlen] at h40
    have HLEN := Lib.hid hlen
    clear rd0 g0 hlen hmb hlong
    go_enter Try.func5, Try.ntmps5
    go_wp2_with fail
    refine HM.out.mono ?_
    rintro r w1 ⟨rfl, hb1⟩
    have HB1 := Lib.hid hb1
    clear hb1 HM
    have HC := Lib.hid (least_any A0 len c0 L0 w1 (H.out.below HB1.out) (by omega) HP.out)
    go_wp2_with fail
    refine HC.out.mono ?_
    rintro r w2 ⟨v2, rfl, hl2, hb2⟩
    have HB2 := Lib.hid (HB1.out.trans (hb2.mono HB1.out.size))
    have HL2 := Lib.hid hl2
    clear hl2 hb2 HC
    have HC := Lib.hid (rleast_any A0 len c0 L0 w2 (H.out.below HB2.out) (by omega))
    go_wp2_with fail
    refine HC.out.mono ?_
    rintro r w3 ⟨v3, rfl, hl3, hb3⟩
    have HB3 := Lib.hid (HB2.out.trans (hb3.mono HB2.out.size))
    obtain ⟨A, n, c, O, rfl, hrow, hkey⟩ := rows_of (len := len) HL2.out hb3 (by rw [List.length_map, HLEN.out]; exact Nat.le_refl _) (by omega)
    obtain ⟨R, hown, hsub, hkeyR, hRl⟩ := hl3
    obtain ⟨A', c', rfl, hrd', h1, h2⟩ := own_rd plC_len hown
    have hRO : R.length = n := by
      have e1 := congrArg List.length hkey
      have e2 := congrArg List.length hkeyR
      rw [List.length_map] at e1 e2
      rw [← hrow.ln, e1, e2, leastP_all, List.length_map, HLEN.out]
    have hrowR : PlRow w3 A' n c' R := ⟨hRO, hrd', fun y hy => (H.out.below HB3.out).ok y (hsub y hy), by rw [← hRO]; exact h1, by omega⟩
    have HS := Lib.hid (sameAll_any A A' n c c' O R w3 hrow hrowR (by rw [hkey, hkeyR, leastP_all, List.length_map, HLEN.out]))
    rw [hRO]
    clear hb3 hrow hkey hown hsub hkeyR hrd' hrowR hRO HC h1 h2
    go_wp2_with fail
    refine HS.out.mono ?_
    rintro r w4 ⟨rfl, hb4⟩
    have HB4 := Lib.hid (HB3.out.trans (hb4.mono HB3.out.size))
    clear hb4 HS
    go_wp2_with fail
    refine (awake_yes _).mono ?_
    rintro r w5 ⟨rfl, hb5⟩
    have HB5 := Lib.hid (HB4.out.trans (hb5.mono HB4.out.size))
    clear hb5
    go_wp2
    go_ret
    exact ⟨rfl, HB5.out⟩
end Go.Proofs.Ytnofmnoohnmanaa
