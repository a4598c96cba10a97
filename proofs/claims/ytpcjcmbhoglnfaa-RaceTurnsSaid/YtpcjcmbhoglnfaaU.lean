/- Race: the contract of a trace's does: joined. -/
import Derived.Test.YtpcjcmbhoglnfaaU1
import Derived.Test.YtpcjcmbhoglnfaaU1b
import Derived.Test.YtpcjcmbhoglnfaaU2
import Derived.Test.YtpcjcmbhoglnfaaU3
namespace Go.Proofs.Ytpcjcmbhoglnfaa
open Go.RowKit
set_option linter.unusedVariables false
set_option linter.unusedSimpArgs false

set_option maxRecDepth 100000 in
set_option maxHeartbeats 3200000 in
theorem does_any (B gs : Nat) (E : List Bool) (x : Ev) (w : World) (h : TS w B gs E) (hE : E.length ≤ 1000000) (hx : EvOk w w.heap.size x) :
    Calls Try.prog 49 #[.pointer (some ⟨gs, 0, none⟩), .agg #[.int .u8 x.kind, .int .i64 x.thread, .int .i64 x.id, .slice x.pa x.path.length x.pc]] w (DoesP w B gs E x) := by
  have hts := h
  have hgl := h.lt
  obtain ⟨hB, v, hb, hown⟩ := h
  obtain ⟨A, c, rfl⟩ := own_slice hown
  obtain ⟨n, hn⟩ : ∃ n, n = E.length := ⟨_, rfl⟩
  rw [← hn] at hown hb hE
  have h0 := hb.cell 0
  rw [show ∀ v : Value, (#[v] : Array Value)[0]? = some v from fun _ => rfl] at h0
  have hrd := hx.rd
  have hbig : x.path.length ≤ maxLen := Nat.le_trans hx.cap hx.big
  obtain ⟨kd, th, id, pa, pc, P⟩ := x
  obtain ⟨pl, hpl⟩ : ∃ pl, P.length = pl := ⟨_, rfl⟩
  simp only [hpl] at hrd hbig ⊢
  have hpath : ∀ W : World, Below w.heap.size w W → Calls Try.prog 51 #[.slice pa pl pc] W fun r w' => r = .returned (.bool (pathOk P)) ∧ W = w' := fun W hW => path_any pa pl pc w.heap.size P W hpl hbig (hrd.below hW)
  have hbel : ∀ (o : Obj) (k : Nat), Below w.heap.size w ((w.alloc o).drewN k) := fun o k => below_drewN ((Below.refl _ w).alloc (Nat.le_refl _) o) k
  have HBL := Lib.hid hbel
  have HTS := Lib.hid hts
  clear hbel
  by_cases t0 : th < 0
  · have hf : doesF E ⟨kd, th, id, pa, pc, P⟩ = (false, E) := by unfold doesF; rw [if_pos (.inl t0)]
    have HF := Lib.hid hf
    have d0 : decide (th < 0) = true := decide_eq_true t0
    clear hf t0 hpath hn hown hb hE hpl hts hrd hbig hx hB
    go_enter Try.func49, Try.ntmps49
    go_wp2
    go_quiet (fail)
    go_wp2
    go_ret
    exact DoesP.same HTS.out (HBL.out _ _) HF.out
  have d0 : decide (th < 0) = false := decide_eq_false t0
  by_cases t1 : (n : Int) ≤ th
  · have hf : doesF E ⟨kd, th, id, pa, pc, P⟩ = (false, E) := by unfold doesF; rw [if_pos (.inr (.inl (by rw [← hn]; exact t1)))]
    have HF := Lib.hid hf
    have d1 : decide ((n : Int) ≤ th) = true := decide_eq_true t1
    clear hf t0 t1 hpath hn hown hb hE hpl hts hrd hbig hx hB
    go_enter Try.func49, Try.ntmps49
    go_wp2
    go_quiet (fail)
    go_wp2
    go_ret
    exact DoesP.same HTS.out (HBL.out _ _) HF.out
  have d1 : decide ((n : Int) ≤ th) = false := decide_eq_false t1
  obtain ⟨t, rfl⟩ : ∃ t : Nat, th = t := ⟨th.toNat, by omega⟩
  have htn : t < n := by omega
  have hti : (t : Int) < (n : Int) := by omega
  have ht0 : (0 : Int) ≤ (t : Int) := by omega
  obtain ⟨q, hq⟩ : ∃ q, n = q + 1 := ⟨n - 1, by omega⟩
  obtain ⟨g, cc, hv⟩ := own_succ (by rw [← hq]; exact hown)
  rw [← hq] at hv
  rw [Value.slice.injEq] at hv
  obtain ⟨rfl, _, rfl⟩ := hv
  clear hq q
  obtain ⟨b0, hb0⟩ : ∃ b, E[t]? = some b := ⟨_, List.getElem?_eq_getElem (by rw [← hn]; exact htn)⟩
  cases b0 with
  | true =>
    have hct : w.cell? ⟨g, t, none⟩ = some (.bool true) := by
      have := hown.cellAt t (by omega)
      rw [this]; simp [hb0]
    have hglt : g < w.heap.size := World.block_lt_of_cell? w ⟨g, t, none⟩ hct
    have hf : doesF E ⟨kd, (t : Int), id, pa, pc, P⟩ = (false, E) := by unfold doesF; rw [if_pos (.inr (.inr (by simpa using getD_at hb0)))]
    have HF := Lib.hid hf
    clear hf hb0 t0 t1 hpath hn hown hb hE hpl hts hrd hbig hx hB
    go_enter Try.func49, Try.ntmps49
    go_wp2
    go_quiet (fail)
    go_wp2
    go_ret
    exact DoesP.same HTS.out (HBL.out _ _) HF.out
  | false =>
    have H : DC w B gs g c n t E pa pc pl P := ⟨hts, hB, hn, hE, hpl, hb, hown, htn, hb0, hpath⟩
    by_cases k1 : kd = 1
    · subst k1; exact does_1 id H
    by_cases k2 : kd = 2
    · subst k2; exact does_2 id H
    by_cases k3 : kd = 3
    · subst k3; exact does_3 id H
    by_cases k4 : kd = 4
    · subst k4; exact does_4 id H
    by_cases k5 : kd = 5
    · subst k5; exact does_5 id H
    by_cases k6 : kd = 6
    · subst k6; exact does_6 id H
    by_cases k7 : kd = 7
    · subst k7; exact does_7 id H
    by_cases k8 : kd = 8
    · subst k8; exact does_8 id H
    by_cases k9 : kd = 9
    · subst k9; exact does_9 id H
    exact does_else kd id k1 k2 k3 k4 k5 k6 k7 k8 k9 H
end Go.Proofs.Ytpcjcmbhoglnfaa
