/- LocksPlay: the walk. -/
import Derived.Test.YthbajgpoldajmaaQ
import Derived.Deep.RegionHeld3
namespace Go.Proofs.Ythbajgpoldajmaa
open Go.RowKit Go.ChangeMaps Go.MapKept
set_option linter.unusedVariables false
set_option linter.unusedSimpArgs false

theorem Both.below {w w' : World} {gc gm gr B N : Nat} {S : LS} {M : List Mu} (h : Both w gc gm gr B N S M) (hb : Below w.heap.size w w') : Both w' gc gm gr B N S M :=
  ⟨h.l.below hb (Nat.le_refl _), h.r.below hb, h.u, h.e, h.n, h.c1, h.c2⟩
/-- what is held while two answers are held against each other -/
def Hold (w0 : World) (D gc gm gr B N : Nat) (S : LS) (M : List Mu) (W : World) : Prop := Both W gc gm gr B N S M ∧ Below D w0 W
theorem Both.drew {w : World} {gc gm gr B N : Nat} {S : LS} {M : List Mu} (h : Both w gc gm gr B N S M) : Both w.drew gc gm gr B N S M := h.below (Below.refl _ w).drew
theorem Hold.drew {w0 W : World} {D gc gm gr B N : Nat} {S : LS} {M : List Mu} (h : Hold w0 D gc gm gr B N S M W) : Hold w0 D gc gm gr B N S M W.drew := ⟨h.1.drew, h.2.drew⟩
section
variable {w0 W : World} {D gc gm gr B N b o : Nat} {S : LS} {M : List Mu} {i : Int} {x : Value}
theorem hold_13 (h : W.cell? ⟨b, o, none⟩ = some x ∧ Hold w0 D gc gm gr B N S M W) (hb : b < D) (hD : D ≤ w0.heap.size) (hi : (Lit.int .i64 i).wf = true) (v : Int) (hv : (findV S i).1 = v) :
    Calls Try.prog 13 #[.pointer (some ⟨gc, 0, none⟩), .int .i64 i] W fun r w' => r = .returned (.int .i64 v) ∧ (w'.cell? ⟨b, o, none⟩ = some x ∧ Hold w0 D gc gm gr B N S M w') := by
  obtain ⟨hc, hB, hb0⟩ := h
  refine (holder_any v hB.l hi hv).mono ?_
  rintro r w' ⟨rfl, hb1⟩
  have hs := hb0.size
  exact ⟨rfl, (hb1.cell (p := ⟨b, o, none⟩) (show b < W.heap.size by omega)).trans hc, hB.below hb1, hb0.trans (hb1.mono (by omega))⟩
theorem hold_14 (h : W.cell? ⟨b, o, none⟩ = some x ∧ Hold w0 D gc gm gr B N S M W) (hb : b < D) (hD : D ≤ w0.heap.size) (hi : (Lit.int .i64 i).wf = true) (v : Bool) (hv : (findV S i).2 = v) :
    Calls Try.prog 14 #[.pointer (some ⟨gc, 0, none⟩), .int .i64 i] W fun r w' => r = .returned (.bool v) ∧ (w'.cell? ⟨b, o, none⟩ = some x ∧ Hold w0 D gc gm gr B N S M w') := by
  obtain ⟨hc, hB, hb0⟩ := h
  refine (poisoned_any v hB.l hi hv).mono ?_
  rintro r w' ⟨rfl, hb1⟩
  have hs := hb0.size
  exact ⟨rfl, (hb1.cell (p := ⟨b, o, none⟩) (show b < W.heap.size by omega)).trans hc, hB.below hb1, hb0.trans (hb1.mono (by omega))⟩
theorem hold_17 (h : W.cell? ⟨b, o, none⟩ = some x ∧ Hold w0 D gc gm gr B N S M W) (hN : N ≤ 90000) (v : Int) (hv : (findV S i).1 = v) :
    Calls Try.prog 17 #[.pointer (some ⟨gr, 0, none⟩), .int .i64 i] W fun r w' => r = .returned (.int .i64 v) ∧ (w'.cell? ⟨b, o, none⟩ = some x ∧ Hold w0 D gc gm gr B N S M w') := by
  have hB := h.2.1
  refine (refHolder_any v hB.r hB.u (by have := hB.n; omega) (by rw [hB.e]; exact hv)).mono ?_
  rintro r w' ⟨rfl, rfl⟩
  exact ⟨rfl, h⟩
theorem hold_18 (h : W.cell? ⟨b, o, none⟩ = some x ∧ Hold w0 D gc gm gr B N S M W) (hN : N ≤ 90000) (v : Bool) (hv : (findV S i).2 = v) :
    Calls Try.prog 18 #[.pointer (some ⟨gr, 0, none⟩), .int .i64 i] W fun r w' => r = .returned (.bool v) ∧ (w'.cell? ⟨b, o, none⟩ = some x ∧ Hold w0 D gc gm gr B N S M w') := by
  have hB := h.2.1
  refine (refPoisoned_any v hB.r hB.u (by have := hB.n; omega) (by rw [hB.e]; exact hv)).mono ?_
  rintro r w' ⟨rfl, rfl⟩
  exact ⟨rfl, h⟩
end

set_option maxRecDepth 100000 in
set_option maxHeartbeats 12800000 in
theorem locksPlayWalk (A0 : Option Addr) (c0 : Nat) (L0 : List Acte) (w : World) (rd0 : Rd w w.heap.size 4 actC A0 L0) (g0 : ∀ x ∈ L0, x.wf) :
    Calls Try.prog 4 #[.slice A0 L0.length c0] w fun e w' => e = .returned (.bool true) ∧ Below w.heap.size w w' := by
  have HG := Lib.hid g0
  obtain ⟨l0, hl0⟩ : ∃ l, l = L0.length := ⟨_, rfl⟩
  rw [← hl0]
  have H0 := Lib.hid hl0
  have R0 := Lib.hid rd0
  clear hl0 rd0 g0
  by_cases hb1 : 200 < l0
  · have q1 : (200 : Int) < (l0 : Int) := by omega
    go_enter Try.func4, Try.ntmps4
    go_wp2
    go_ret
    exact ⟨rfl, Below.refl _ _⟩
  have q1 : decide ((200 : Int) < (l0 : Int)) = false := by simp; omega
  have hn1 : l0 ≤ 200 := by omega
  clear hb1
  go_enter Try.func4, Try.ntmps4
  go_wp2_with fail
  refine (new_any w).mono ?_
  rintro r w1 ⟨gc, gm, rfl, hL0, hB0, hgm, hgc⟩
  have hlt := hL0.lt
  have hstart : Both (w1.alloc (.cells #[.slice none 0 0] 41)) gc gm w1.heap.size w1.heap.size 0 (fun _ => none) [] :=
    ⟨hL0.alloc _, ⟨Nat.le_refl _, _, Blk.new w1 41 _, World.ownsRow_nil _ _ _ _⟩, List.Pairwise.nil, rfl, Nat.le_refl _, hlt.1, hlt.2⟩
  have hBs : Below w.heap.size w (w1.alloc (.cells #[.slice none 0 0] 41)) := hB0.alloc hB0.size _
  have HS := Lib.hid hstart
  have HBS := Lib.hid hBs
  have HGM := Lib.hid hgm
  have HW1 := Lib.hid hB0.size
  clear hstart hBs hgm hgc hL0 hB0 hlt
  go_wp2
  clear q1
  go_loopw [5, 6] (fun i j wr => ∃ (k : Nat) (S : LS) (M : List Mu), k ≤ l0 ∧ i = .int .i64 k ∧ Both wr gc gm w1.heap.size w1.heap.size k S M ∧ Below w.heap.size w wr) (fun i _ _ => l0 - (intOf i).toNat)
  case atStart => exact ⟨0, _, _, by omega, rfl, HS.out, HBS.out⟩
  case round =>
    obtain ⟨k, S, M, hk, rfl, hB, hBl⟩ := hrel
    by_cases hlt : k < l0
    · have hx := R0.out
      obtain ⟨b, off, rfl, hb, hc⟩ := hx.at_ (k := k) (by rw [← H0.out]; exact hlt)
      obtain ⟨⟨kd, i, t, p⟩, hxk⟩ : ∃ x, x = L0[k]'(by rw [← H0.out]; exact hlt) := ⟨_, rfl⟩
      rw [← hxk] at hc
      have hwf : Acte.wf ⟨kd, i, t, p⟩ := by rw [hxk]; exact HG.out _ (List.getElem_mem _)
      have HWF := Lib.hid hwf
      have d0 := (hBl.cell (p := ⟨b, off + k * 4, none⟩) hb).trans (by simpa using hc 0 _ rfl)
      have d1 := (hBl.cell (p := ⟨b, off + k * 4 + 1, none⟩) hb).trans (hc 1 _ rfl)
      have d2 := (hBl.cell (p := ⟨b, off + k * 4 + 2, none⟩) hb).trans (hc 2 _ rfl)
      have d3 := (hBl.cell (p := ⟨b, off + k * 4 + 3, none⟩) hb).trans (hc 3 _ rfl)
      have hki : (k : Int) < (l0 : Int) := by omega
      have hone := one_any w.heap.size hB (by omega) hwf hBl.size HGM.out HW1.out
      have HBL := Lib.hid hBl
      have HB := Lib.hid hb
      clear hwf hc hxk hB hx hBl hb
      go_wp2_with fail
      refine hone.mono ?_
      rintro r w2 ⟨rfl, ⟨M', hB2⟩, hb2⟩
      have hBl2 := HBL.out.trans hb2
      obtain ⟨S', hS'⟩ : ∃ S', doS S ⟨kd, i, t, p⟩ = S' := ⟨_, rfl⟩
      rw [hS'] at hB2
      have HB2 := Lib.hid hB2
      have HBL2 := Lib.hid hBl2
      clear hB2 hBl2 hb2 hS' hone d0 d1 d2 d3
      go_wp2
      go_loopw [6] (fun j wq => ∃ q : Nat, q ≤ k + 1 ∧ j = .int .i64 q ∧ Both wq gc gm w1.heap.size w1.heap.size (k + 1) S' M' ∧ Below w.heap.size w wq) (fun j _ => k + 1 - (intOf j).toNat)
      case atStart => exact ⟨0, by omega, rfl, HB2.out, HBL2.out⟩
      case round =>
        obtain ⟨q, hq, rfl, hBq, hBlq⟩ := hrel
        by_cases hql : q < k + 1
        · have hqn : q < l0 := by omega
          obtain ⟨b2, off2, eA, hb2, hc2⟩ := R0.out.at_ (k := q) (by rw [← H0.out]; exact hqn)
          cases eA
          obtain ⟨⟨kd2, i2, t2, p2⟩, hxq⟩ : ∃ x, x = L0[q]'(by rw [← H0.out]; exact hqn) := ⟨_, rfl⟩
          rw [← hxq] at hc2
          have hwf2 : Acte.wf ⟨kd2, i2, t2, p2⟩ := by rw [hxq]; exact HG.out _ (List.getElem_mem _)
          have hi2 := Lib.hid hwf2.2.1
          have d1 := (hBlq.cell (p := ⟨b, off + q * 4 + 1, none⟩) HB.out).trans (hc2 1 _ rfl)
          simp only at d1
          have hS0 := And.intro d1 (show Hold w w.heap.size gc gm w1.heap.size w1.heap.size (k + 1) S' M' _ from ⟨hBq, hBlq⟩).drew
          obtain ⟨hv, hhv⟩ : ∃ v, (findV S' i2).1 = v := ⟨_, rfl⟩
          obtain ⟨pv, hpv⟩ : ∃ v, (findV S' i2).2 = v := ⟨_, rfl⟩
          have z1 : (hv != hv) = false := by simp
          have z2 : (pv != pv) = false := by simp
          have hqi : (q : Int) < (l0 : Int) := by omega
          have hq0 : (0 : Int) ≤ (q : Int) := by omega
          have h13 := fun (W : World) (h : W.cell? ⟨b, off + q * 4 + 1, none⟩ = some (.int .i64 i2) ∧ Hold w w.heap.size gc gm w1.heap.size w1.heap.size (k + 1) S' M' W) => hold_13 h HB.out (Nat.le_refl _) hi2.out hv hhv
          have h14 := fun (W : World) (h : W.cell? ⟨b, off + q * 4 + 1, none⟩ = some (.int .i64 i2) ∧ Hold w w.heap.size gc gm w1.heap.size w1.heap.size (k + 1) S' M' W) => hold_14 h HB.out (Nat.le_refl _) hi2.out pv hpv
          have h17 := fun (W : World) (h : W.cell? ⟨b, off + q * 4 + 1, none⟩ = some (.int .i64 i2) ∧ Hold w w.heap.size gc gm w1.heap.size w1.heap.size (k + 1) S' M' W) => hold_17 h (by omega) hv hhv
          have h18 := fun (W : World) (h : W.cell? ⟨b, off + q * 4 + 1, none⟩ = some (.int .i64 i2) ∧ Hold w w.heap.size gc gm w1.heap.size w1.heap.size (k + 1) S' M' W) => hold_18 h (by omega) pv hpv
          have H13 := Lib.hid h13
          have H14 := Lib.hid h14
          have H17 := Lib.hid h17
          have H18 := Lib.hid h18
          clear h13 h14 h17 h18 hhv hpv hc2 hxq hwf2 hBq hBlq hb2
          go_wp2
          go_region_held3 (fun w' => w'.cell? ⟨b, off + q * 4 + 1, none⟩ = some (.int .i64 i2) ∧ Hold w w.heap.size gc gm w1.heap.size w1.heap.size (k + 1) S' M' w') (first | exact hS0 | assumption)
            (first
              | (go_at_call 13; refine (H13.out _ (by assumption)).mono ?_; rintro r w2 ⟨rfl, hS1⟩)
              | (go_at_call 14; refine (H14.out _ (by assumption)).mono ?_; rintro r w2 ⟨rfl, hS1⟩)
              | (go_at_call 17; refine (H17.out _ (by assumption)).mono ?_; rintro r w2 ⟨rfl, hS1⟩)
              | (go_at_call 18; refine (H18.out _ (by assumption)).mono ?_; rintro r w2 ⟨rfl, hS1⟩))
          all_goals
            go_wp2
            go_roundw
            case rel => exact ⟨q + 1, by omega, by go_num, hS1.2.1, hS1.2.2⟩
            case measure => simp [intOf] <;> omega
        · go_wp2
          go_roundw
          case rel => exact ⟨k + 1, S', M', by omega, by go_num, hBq, hBlq⟩
          case measure => simp [intOf] <;> omega
    · obtain rfl : k = l0 := by omega
      go_wp2
      go_ret
      exact ⟨rfl, hBl⟩
end Go.Proofs.Ythbajgpoldajmaa
