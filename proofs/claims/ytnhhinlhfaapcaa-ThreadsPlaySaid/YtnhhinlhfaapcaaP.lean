/- Threads: act; a list of calls in memory. -/
import Derived.Test.YtnhhinlhfaapcaaO
namespace Go.Proofs.Ytnhhinlhfaapcaa
open Go.RowKit
set_option linter.unusedVariables false
set_option linter.unusedSimpArgs false

structure Ac where
  kind : Int
  n : Int
  pan : Bool
def acC (a : Ac) : List Value := [.int .u8 a.kind, .int .i64 a.n, .bool a.pan]
def acV (a : Ac) : Value := .agg #[.int .u8 a.kind, .int .i64 a.n, .bool a.pan]
def actF (t : Tab) (a : Ac) : Tab := if a.kind.tmod 4 = 0 then opnF t a.n else if a.kind.tmod 4 = 1 then spnF t a.n else if a.kind.tmod 4 = 2 then endF t a.n a.pan else clsF t a.n
theorem Tok.act {k : Nat} {t : Tab} (a : Ac) (h : Tok k t) : Tok (k + 1) (actF t a) := by
  unfold actF
  split
  · exact h.opn a.n
  split
  · exact (h.spn a.n).up (by omega)
  split
  · exact (h.end_ a.n a.pan).up (by omega)
  · exact (h.cls a.n).up (by omega)
theorem Left.pre {w w1 w' : World} {B g : Nat} {t t0 : Tab} (h0 : TabR w B g t0) (hb : Below w.heap.size w w1) (h : Left w1 B g t w') : Left w B g t w' := by
  have hk := Kpt.same h0 hb
  obtain ⟨v, S, C, hx⟩ := h0
  exact ⟨h.1, (hb.mono (Nat.le_trans hx.hB (Nat.le_of_lt hx.lt))).trans h.2.1, hk.trans h.2.2⟩
set_option maxHeartbeats 1600000 in
theorem act_ok {k : Nat} {t : Tab} {W : World} {B g : Nat} (hk : k ≤ 1000000) (h : TabR W B g t) (ht : Tok k t) (a : Ac) (h0 : 0 ≤ a.kind) (h1 : a.kind ≤ 255) : Calls Try.prog 11 #[.pointer (some ⟨g, 0, none⟩), acV a] W fun r w' => (∃ v, r = .returned v) ∧ Left W B g (actF t a) w' := by
  obtain ⟨kd, n, p⟩ := a
  have hbx : Below W.heap.size W (W.alloc (.cells #[.int .u8 kd, .int .i64 n, .bool p] 28)) := (Below.refl _ W).alloc (Nat.le_refl _) _
  have hT := h.below hbx
  have HL := Lib.hid (fun t' w' => Left.pre (t := t') (w' := w') h hbx)
  have H0 := Lib.hid ((open_ok hk hT ht n).mono (fun r w' h => (⟨⟨_, h.1⟩, h.2⟩ : (∃ e, r = .returned (.int .i64 e)) ∧ Left _ B g (opnF t n) w')))
  have H1 := Lib.hid (spawn_ok hk hT ht n)
  have H2 := Lib.hid ((end_ok hT n p).mono (fun r w' h => (⟨⟨_, h.1⟩, h.2⟩ : (∃ e, r = .returned (.int .i64 e)) ∧ Left _ B g (endF t n p) w')))
  have H3 := Lib.hid (close_ok hT ht n)
  obtain ⟨r, hr⟩ : ∃ r, kd.tmod 4 = r := ⟨_, rfl⟩
  have hr0 : 0 ≤ r ∧ r < 4 := by
    rw [← hr]
    exact ⟨Int.tmod_nonneg _ h0, Int.tmod_lt_of_pos _ (by omega)⟩
  have HR := Lib.hid hr
  have hA : ∀ q, r = q → Hid (actF t ⟨kd, n, p⟩ = (if q = 0 then opnF t n else if q = 1 then spnF t n else if q = 2 then endF t n p else clsF t n)) := fun q e => Lib.hid (by subst e; unfold actF; rw [HR.out])
  clear h hT ht hbx
  unfold acV
  simp only at h0 h1
  rcases (by omega : r = 0 ∨ r = 1 ∨ r = 2 ∨ r = 3) with e | e | e | e
  · have HA := hA _ e
    clear hA HR
    rw [e] at hr
    clear e hr0
    go_enter Try.func11, Try.ntmps11
    go_wp2_with fail
    refine H0.out.mono ?_
    rintro r w1 ⟨⟨e, rfl⟩, hL⟩
    have HLL := Lib.hid (HL.out _ _ hL)
    clear hL
    go_wp2
    go_end0
    exact ⟨⟨_, rfl⟩, by rw [HA.out]; exact HLL.out⟩
  · have HA := hA _ e
    clear hA HR
    rw [e] at hr
    clear e hr0
    go_enter Try.func11, Try.ntmps11
    go_wp2_with fail
    refine H1.out.mono ?_
    rintro r w1 ⟨rfl, hL⟩
    have HLL := Lib.hid (HL.out _ _ hL)
    clear hL
    go_wp2
    go_end0
    exact ⟨⟨_, rfl⟩, by rw [HA.out]; exact HLL.out⟩
  · have HA := hA _ e
    clear hA HR
    rw [e] at hr
    clear e hr0
    go_enter Try.func11, Try.ntmps11
    go_wp2_with fail
    refine H2.out.mono ?_
    rintro r w1 ⟨⟨e, rfl⟩, hL⟩
    have HLL := Lib.hid (HL.out _ _ hL)
    clear hL
    go_wp2
    go_end0
    exact ⟨⟨_, rfl⟩, by rw [HA.out]; exact HLL.out⟩
  · have HA := hA _ e
    clear hA HR
    rw [e] at hr
    clear e hr0
    go_enter Try.func11, Try.ntmps11
    go_wp2_with fail
    refine H3.out.mono ?_
    rintro r w1 ⟨rfl, hL⟩
    have HLL := Lib.hid (HL.out _ _ hL)
    clear hL
    go_wp2
    go_end0
    exact ⟨⟨_, rfl⟩, by rw [HA.out]; exact HLL.out⟩
end Go.Proofs.Ytnhhinlhfaapcaa
