/- Locks: contracts of Make, Lock, Unlock, Drop, Holder, Poisoned, New. -/
import Derived.Test.YthbajgpoldajmaaA
namespace Go.Proofs.Ythbajgpoldajmaa
open Go.RowKit Go.ChangeMaps Go.MapKept
open Go.Maps (Keyed)
set_option linter.unusedVariables false

theorem grown_of_below {w w' : World} (h : Below w.heap.size w w') (row : Option Nat) : w.grownBy w' row := ⟨h.os, h.tape, h.output, h.size, fun i hi _ => h.block i hi⟩
theorem grown_trans {w w1 w2 : World} {row : Option Nat} (h1 : w.grownBy w1 row) (h2 : w1.grownBy w2 row) : w.grownBy w2 row :=
  ⟨h2.os.trans h1.os, h2.tape.trans h1.tape, h2.output.trans h1.output, Nat.le_trans h1.size h2.size, fun k hk hne => (h2.block k (Nat.lt_of_lt_of_le hk h1.size) hne).trans (h1.block k hk hne)⟩
theorem LIs.mono {w : World} {gc gm N N' : Nat} {S : LS} (h : LIs w gc gm N S) (hN : N ≤ N') : LIs w gc gm N' S := by
  obtain ⟨f, hb, hm, r⟩ := h
  exact ⟨f, hb, hm.mono hN, r⟩
theorem LIs.lt {w : World} {gc gm N : Nat} {S : LS} (h : LIs w gc gm N S) : gc < w.heap.size ∧ gm < w.heap.size := by
  obtain ⟨f, hb, hm, _⟩ := h
  exact ⟨hb.lt, hm.lt⟩
theorem LIs.kept {w w' : World} {gc gm N : Nat} {S : LS} (h : LIs w gc gm N S) (h1 : w'.heap[gc]? = w.heap[gc]?) (h2 : w'.heap[gm]? = w.heap[gm]?) : LIs w' gc gm N S := by
  obtain ⟨f, hb, hm, r⟩ := h
  exact ⟨f, h1.trans hb, hm.of_block h2, r⟩
theorem LIs.below {w w' : World} {B gc gm N : Nat} {S : LS} (h : LIs w gc gm N S) (hb : Below B w w') (hB : w.heap.size ≤ B) : LIs w' gc gm N S := by
  have := h.lt
  exact h.kept (hb.block gc (by omega)) (hb.block gm (by omega))
theorem LIs.alloc {w : World} {gc gm N : Nat} {S : LS} (h : LIs w gc gm N S) (o : Obj) : LIs (w.alloc o) gc gm N S :=
  h.kept (Below.heap_alloc w o gc h.lt.1) (Below.heap_alloc w o gm h.lt.2)
theorem LIs.drew {w : World} {gc gm N : Nat} {S : LS} (h : LIs w gc gm N S) : LIs w.drew gc gm N S := h.kept rfl rfl
theorem LIs.drewN {w : World} {gc gm N : Nat} {S : LS} (h : LIs w gc gm N S) (n : Nat) : LIs (w.drewN n) gc gm N S := h.kept rfl rfl
theorem LIs.set_ {w : World} {gc gm N : Nat} {S : LS} (h : LIs w gc gm N S) {p : Addr} (u : Value) (h1 : gc ≠ p.block) (h2 : gm ≠ p.block) : LIs (w.setCell p u) gc gm N S :=
  h.kept (Below.heap_setCell w p u gc h1) (Below.heap_setCell w p u gm h2)

def setS (S : LS) (i : Int) (v : Option (Int × Bool)) : LS := fun j => if j = i then v else S j
theorem setS_same (S : LS) (i : Int) (v : Option (Int × Bool)) : setS S i v i = v := if_pos rfl
theorem setS_other (S : LS) {i j : Int} (v : Option (Int × Bool)) (h : j ≠ i) : setS S i v j = S j := if_neg h

/-- what an update of the map leaves -/
theorem LIs.update {w : World} {gc gm N : Nat} {S : LS} (h : LIs w gc gm N S) {i : Int} (hi : (Lit.int .i64 i).wf = true) (x : Int × Bool) (hx : -1 ≤ x.1 ∧ x.1 ≤ 9223372036854775807) :
    ∃ w', (Instr.mapUpdate 25 (.map (some gm)) (.int .i64 i) (.agg #[.int .i64 x.1, .bool x.2])).run Try.prog w = .ok () w' ∧ LIs w' gc gm (N + 1) (setS S i (some x)) ∧ w.grownBy w' (some gm) := by
  obtain ⟨f, hb, hm, hf, hr⟩ := h
  obtain ⟨kl, hk⟩ := key3 hi
  obtain ⟨w', h1, h2, h3⟩ := hm.update law3 Try.underlying25 hk (mutV x)
  refine ⟨w', h1, ⟨_, hb.grown h3 (by have := hm.ne_blk hb; simpa using fun h => this h.symm), h2, ?_, ?_⟩, h3⟩
  · intro j hj
    by_cases e : j = i
    · subst e; rw [upd_same, setS_same]; rfl
    · rw [upd_other _ _ (by simpa using e), setS_other _ _ e, hf j hj]
  · intro j y hy
    by_cases e : j = i
    · subst e; rw [setS_same] at hy; cases hy; exact hx
    · rw [setS_other _ _ e] at hy; exact hr j y hy
theorem LIs.delete {w : World} {gc gm N : Nat} {S : LS} (h : LIs w gc gm N S) {i : Int} (hi : (Lit.int .i64 i).wf = true) (ty : TypeId) :
    ∃ w', (Builtin.delete_ #[25, 3] ty #[.map (some gm), .int .i64 i]).run Try.prog w = .ok (.tuple #[]) w' ∧ LIs w' gc gm N (setS S i none) ∧ w.grownBy w' (some gm) := by
  obtain ⟨f, hb, hm, hf, hr⟩ := h
  obtain ⟨kl, hk⟩ := key3 hi
  obtain ⟨w', h1, h2, h3⟩ := hm.delete law3 Try.underlying25 hk ty
  refine ⟨w', h1, ⟨_, hb.grown h3 (by have := hm.ne_blk hb; simpa using fun h => this h.symm), h2, ?_, ?_⟩, h3⟩
  · intro j hj
    by_cases e : j = i
    · subst e; rw [upd_same, setS_same]; rfl
    · rw [upd_other _ _ (by simpa using e), setS_other _ _ e, hf j hj]
  · intro j y hy
    by_cases e : j = i
    · subst e; rw [setS_same] at hy; cases hy
    · rw [setS_other _ _ e] at hy; exact hr j y hy
theorem LIs.cell0 {w : World} {gc gm N : Nat} {S : LS} (h : LIs w gc gm N S) : w.cell? ⟨gc, 0, none⟩ = some (.map (some gm)) := by
  obtain ⟨f, hb, _⟩ := h
  have := hb.cell 0
  simpa using this
theorem LIs.blk {w : World} {gc gm N : Nat} {S : LS} (h : LIs w gc gm N S) : Blk w gc 27 #[.map (some gm)] := by
  obtain ⟨f, hb, _⟩ := h
  exact hb
theorem LIs.bd {w : World} {gc gm N : Nat} {S : LS} (h : LIs w gc gm N S) (i : Int) : -1 ≤ (findV S i).1 ∧ (findV S i).1 ≤ 9223372036854775807 := by
  obtain ⟨f, hb, hm, hf, hr⟩ := h
  unfold findV
  cases e : S i with
  | none => simp
  | some x => exact hr i x e

theorem holder_any {gc gm N : Nat} {S : LS} {i : Int} {w : World} (v : Int) (h : LIs w gc gm N S) (hi : (Lit.int .i64 i).wf = true) (hv : (findV S i).1 = v) :
    Calls Try.prog 13 #[.pointer (some ⟨gc, 0, none⟩), .int .i64 i] w fun r w' => r = .returned (.int .i64 v) ∧ Below w.heap.size w w' := by
  have hc := find_any gc gm N S i w h hi
  obtain ⟨p, hp⟩ : ∃ p, p = (findV S i).2 := ⟨_, rfl⟩
  obtain ⟨b, hb⟩ : ∃ b, b = (S i).isSome := ⟨_, rfl⟩
  rw [hv, ← hp, ← hb] at hc
  clear hv hp hb
  go_enter Try.func13, Try.ntmps13
  go_wp2_with (go_at_call 21; refine hc.mono ?_; rintro r w' ⟨rfl, hb1⟩)
  go_ret
  exact ⟨rfl, hb1.alloc hb1.size _⟩
theorem poisoned_any {gc gm N : Nat} {S : LS} {i : Int} {w : World} (v : Bool) (h : LIs w gc gm N S) (hi : (Lit.int .i64 i).wf = true) (hv : (findV S i).2 = v) :
    Calls Try.prog 14 #[.pointer (some ⟨gc, 0, none⟩), .int .i64 i] w fun r w' => r = .returned (.bool v) ∧ Below w.heap.size w w' := by
  have hc := find_any gc gm N S i w h hi
  obtain ⟨p, hp⟩ : ∃ p, p = (findV S i).1 := ⟨_, rfl⟩
  obtain ⟨b, hb⟩ : ∃ b, b = (S i).isSome := ⟨_, rfl⟩
  rw [hv, ← hp, ← hb] at hc
  clear hv hp hb
  go_enter Try.func14, Try.ntmps14
  go_wp2_with (go_at_call 21; refine hc.mono ?_; rintro r w' ⟨rfl, hb1⟩)
  go_ret
  exact ⟨rfl, hb1.alloc hb1.size _⟩

def makeS (S : LS) (i : Int) : LS := if (S i).isSome then S else setS S i (some (-1, false))
theorem make_any {gc gm N : Nat} {S : LS} (S' : LS) {i : Int} {w : World} (h : LIs w gc gm N S) (hi : (Lit.int .i64 i).wf = true) (hs : makeS S i = S') :
    Calls Try.prog 9 #[.pointer (some ⟨gc, 0, none⟩), .int .i64 i] w fun r w' => r = .returned (.tuple #[]) ∧ LIs w' gc gm (N + 1) S' ∧ w.grownBy w' (some gm) := by
  subst hs
  have hc := find_any gc gm N S i w h hi
  have HI := Lib.hid hi
  have HL := Lib.hid h
  obtain ⟨v, hv⟩ : ∃ v, v = (findV S i).1 := ⟨_, rfl⟩
  obtain ⟨p, hp⟩ : ∃ p, p = (findV S i).2 := ⟨_, rfl⟩
  cases e : (S i).isSome with
  | true =>
    have hS : makeS S i = S := by unfold makeS; rw [e]; rfl
    have HS := Lib.hid hS
    rw [← hv, ← hp, e] at hc
    clear hv hp e hS h hi
    go_enter Try.func9, Try.ntmps9
    go_wp2_with (go_at_call 21; refine hc.mono ?_; rintro r w1 ⟨rfl, hb1⟩)
    go_end0
    rw [HS.out]
    exact ⟨rfl, ((HL.out.below hb1 (Nat.le_refl _)).alloc _).mono (by omega), grown_of_below (hb1.alloc hb1.size _) _⟩
  | false =>
    have hS : makeS S i = setS S i (some (-1, false)) := by unfold makeS; rw [e]; rfl
    have hn : S i = none := by simpa using e
    have hv1 : v = -1 := by rw [hv]; unfold findV; rw [hn]; rfl
    have hp1 : p = false := by rw [hp]; unfold findV; rw [hn]; rfl
    have HS := Lib.hid hS
    rw [← hv, ← hp, e, hv1, hp1] at hc
    clear hv hp e hS hn hv1 hp1 h hi
    go_enter Try.func9, Try.ntmps9
    go_wp2_with fail
    refine hc.mono ?_
    rintro r w1 ⟨rfl, hb1⟩
    have hL1 := HL.out.below hb1 (Nat.le_refl _)
    have hn1 := none_any gc gm (w1.alloc (.cells #[.int .i64 (-1), .bool false] 52)) (hL1.alloc _).blk
    go_wp2_with (go_at_call 22; refine hn1.mono ?_; rintro r w' ⟨rfl, rfl⟩)
    have hL2 := (hL1.alloc (.cells #[.int .i64 (-1), .bool false] 52)).drew
    obtain ⟨w3, hrun, hL3, hg3⟩ := hL2.update HI.out (-1, false) (by decide)
    have h0 := (hL1.alloc (.cells #[.int .i64 (-1), .bool false] 52)).cell0
    have hL3' := hL3
    rw [← HS.out] at hL3'
    have HR := Lib.hid hL3'
    have HG := Lib.hid (grown_trans (grown_of_below (hb1.alloc hb1.size (.cells #[.int .i64 (-1), .bool false] 52)).drew (some gm)) hg3)
    clear hL3 hL3' hg3 hL2 hL1 hb1 hc hn1
    go_region
    go_wp2
    go_end0
    exact ⟨rfl, HR.out, HG.out⟩

theorem closure_23 (bx bl bi gc gm N : Nat) (S : LS) (i h : Int) (p : Bool) (u : FrameMode) (W : World) (hL : LIs W gc gm N S) (hx : Blk W bx 52 #[.int .i64 h, .bool p]) (hl : Blk W bl 24 #[.pointer (some ⟨gc, 0, none⟩)]) (hb : Blk W bi 3 #[.int .i64 i]) (hi : (Lit.int .i64 i).wf = true) (bd : -1 ≤ h ∧ h ≤ 9223372036854775807) :
    CallsD Try.prog 23 #[.pointer (some ⟨bx, 0, none⟩), .pointer (some ⟨bl, 0, none⟩), .pointer (some ⟨bi, 0, none⟩)] u W fun e u' w' => u' = u ∧ (e = .returned (.tuple #[]) ∧ LIs w' gc gm (N + 1) (setS S i (some (h, p))) ∧ W.grownBy w' (some gm)) := by
  obtain ⟨w3, hrun, hL3, hg3⟩ := hL.drew.update hi (h, p) bd
  have h0 := hL.cell0
  have x0 := hx.cell 0
  have x1 := hx.cell 1
  have l0 := hl.cell 0
  have b0 := hb.cell 0
  simp at x0 x1 l0 b0
  have HR := Lib.hid hL3
  have HG := Lib.hid hg3
  have hg0 : W.grownBy w3 (some gm) := grown_trans (grown_of_below (Below.refl _ W).drew _) hg3
  have HG0 := Lib.hid hg0
  clear hL3 hg3 hL hx hl hb hi bd hg0
  go_enter_d Try.func23, Try.ntmps23
  go_region
  go_wp2
  go_end0
  exact ⟨rfl, HR.out, HG0.out⟩

theorem closure_24 (bx bl bi gc gm N : Nat) (S : LS) (i h : Int) (p : Bool) (u : FrameMode) (W : World) (hL : LIs W gc gm N S) (hx : Blk W bx 52 #[.int .i64 h, .bool p]) (hl : Blk W bl 24 #[.pointer (some ⟨gc, 0, none⟩)]) (hb : Blk W bi 3 #[.int .i64 i]) (hi : (Lit.int .i64 i).wf = true) (bd : -1 ≤ h ∧ h ≤ 9223372036854775807) :
    CallsD Try.prog 24 #[.pointer (some ⟨bx, 0, none⟩), .pointer (some ⟨bl, 0, none⟩), .pointer (some ⟨bi, 0, none⟩)] u W fun e u' w' => u' = u ∧ (e = .returned (.tuple #[]) ∧ LIs w' gc gm (N + 1) (setS S i (some (h, p))) ∧ W.grownBy w' (some gm)) := by
  obtain ⟨w3, hrun, hL3, hg3⟩ := hL.drew.update hi (h, p) bd
  have h0 := hL.cell0
  have x0 := hx.cell 0
  have x1 := hx.cell 1
  have l0 := hl.cell 0
  have b0 := hb.cell 0
  simp at x0 x1 l0 b0
  have HR := Lib.hid hL3
  have HG := Lib.hid hg3
  have hg0 : W.grownBy w3 (some gm) := grown_trans (grown_of_below (Below.refl _ W).drew _) hg3
  have HG0 := Lib.hid hg0
  clear hL3 hg3 hL hx hl hb hi bd hg0
  go_enter_d Try.func24, Try.ntmps24
  go_region
  go_wp2
  go_end0
  exact ⟨rfl, HR.out, HG0.out⟩

def lockB (S : LS) (i t : Int) : Bool := (S i).isSome && decide ((findV S i).1 < 0) && decide (0 ≤ t)
def lockS (S : LS) (i t : Int) : LS := if lockB S i t then setS S i (some (t, (findV S i).2)) else S

set_option maxHeartbeats 1600000 in
theorem lock_any {gc gm N : Nat} {S : LS} (S' : LS) (b : Bool) {i t : Int} {w : World} (h : LIs w gc gm N S) (hi : (Lit.int .i64 i).wf = true) (ht : (Lit.int .i64 t).wf = true) (hb : lockB S i t = b) (hs : lockS S i t = S') :
    Calls Try.prog 10 #[.pointer (some ⟨gc, 0, none⟩), .int .i64 i, .int .i64 t] w fun r w' => r = .returned (.bool b) ∧ LIs w' gc gm (N + 1) S' ∧ w.grownBy w' (some gm) := by
  have htb : t ≤ 9223372036854775807 := by
    simp [Lit.wf, IntKind.min, IntKind.max, IntKind.signed, IntKind.bits] at ht
    exact ht.2
  obtain ⟨W, hW⟩ : ∃ W, W = (w.alloc (.cells #[.pointer (some ⟨gc, 0, none⟩)] 24)).alloc (.cells #[.int .i64 i] 3) := ⟨_, rfl⟩
  have hLW : LIs W gc gm N S := by rw [hW]; exact (h.alloc _).alloc _
  have hBW : Below w.heap.size w W := by rw [hW]; exact ((Below.refl _ w).alloc (Nat.le_refl _) _).alloc (by simp) _
  have hl : Blk W w.heap.size 24 #[.pointer (some ⟨gc, 0, none⟩)] := by rw [hW]; exact (Blk.new w 24 _).alloc _
  have hbi : Blk W (w.heap.size + 1) 3 #[.int .i64 i] := by
    rw [hW]
    have := Blk.new (w.alloc (.cells #[.pointer (some ⟨gc, 0, none⟩)] 24)) 3 #[.int .i64 i]
    rwa [World.size_alloc] at this
  have hc := find_any gc gm N S i W hLW hi
  have hmf : ∀ (fn : Fn) (first cap : Array Value) (w : World), (Instr.makeFunc fn first cap).run Try.prog w = .ok (.func fn first cap) w := fun _ _ _ _ => rfl
  have hfb := hLW.bd i
  obtain ⟨v, hv⟩ : ∃ v, v = (findV S i).1 := ⟨_, rfl⟩
  obtain ⟨p, hp⟩ : ∃ p, p = (findV S i).2 := ⟨_, rfl⟩
  obtain ⟨q, hq⟩ : ∃ q, q = (S i).isSome := ⟨_, rfl⟩
  rw [← hv, ← hp, ← hq] at hc
  rw [← hv] at hfb
  have hbb : b = (q && decide (v < 0) && decide (0 ≤ t)) := by rw [← hb, hq, hv]; rfl
  have hss : S' = if b then setS S i (some (t, p)) else S := by rw [← hs, hp]; unfold lockS; rw [hb]
  have HI := Lib.hid hi
  have HLW := Lib.hid hLW
  have HBW := Lib.hid hBW
  have HL := Lib.hid hl
  have HBI := Lib.hid hbi
  have HTB := Lib.hid htb
  have HSS := Lib.hid hss
  clear hb hs hv hp hq hi ht htb hLW hBW hl hbi hss h
  have stay : ∀ (w1 : World) (o : Obj), b = false → Below W.heap.size W w1 → LIs (w1.alloc o) gc gm (N + 1) S' ∧ w.grownBy (w1.alloc o) (some gm) := by
    intro w1 o hbf hb1
    refine ⟨?_, grown_of_below ((HBW.out.trans (hb1.mono HBW.out.size)).alloc (by have := HBW.out.size; have := hb1.size; omega) o) _⟩
    rw [HSS.out, hbf]
    exact ((HLW.out.below hb1 (Nat.le_refl _)).alloc o).mono (by omega)
  have HST := Lib.hid stay
  clear stay
  rw [hW] at hc HST
  cases q with
  | false =>
    obtain rfl : b = false := by rw [hbb]; rfl
    clear hbb
    go_enter_defers Try.func10, Try.ntmps10
    go_wp2_with (go_at_call 21; refine hc.mono ?_; rintro r w1 ⟨rfl, hb1⟩)
    exact ⟨_, results_tmp rfl _ _ _, rfl, HST.out w1 _ (by first | exact rfl | trivial) hb1⟩
  | true =>
    by_cases hv : v < 0
    · by_cases ht0 : t < 0
      · obtain rfl : b = false := by rw [hbb]; simp [hv]; omega
        clear hbb
        go_enter_defers Try.func10, Try.ntmps10
        go_wp2_with (go_at_call 21; refine hc.mono ?_; rintro r w1 ⟨rfl, hb1⟩)
        exact ⟨_, results_tmp rfl _ _ _, rfl, HST.out w1 _ (by first | exact rfl | trivial) hb1⟩
      · obtain rfl : b = true := by rw [hbb]; simp [hv]; omega
        have hvd : decide (0 ≤ v) = false := by simp; omega
        have htd : decide (t < 0) = false := by simp; omega
        have HT0 := Lib.hid ht0
        clear hbb hv ht0
        go_enter_defers Try.func10, Try.ntmps10
        go_wp2_with (go_at_call 21; refine hc.mono ?_; rintro r w1 ⟨rfl, hb1⟩)
        rw [← hW] at hb1
        have hL1 := HLW.out.below hb1 (Nat.le_refl _)
        have hs1 : W.heap.size = w.heap.size + 1 + 1 := by rw [hW]; simp
        have hl1 := HL.out.below hb1 (by omega)
        have hbi1 := HBI.out.below hb1 (by omega)
        refine leaves_cons (f := 23) (args := #[.pointer (some ⟨w1.heap.size, 0, none⟩), .pointer (some ⟨w.heap.size, 0, none⟩), .pointer (some ⟨w.heap.size + 1, 0, none⟩)]) (by simp) (by simp [go_sem]) ?_
        refine (closure_23 w1.heap.size w.heap.size (w.heap.size + 1) gc gm N S i t p .returning _ (hL1.alloc _) (Blk.new w1 52 _) (hl1.alloc _) (hbi1.alloc _) HI.out ⟨by have := HT0.out; omega, HTB.out⟩).mono ?_
        rintro e u' w3 ⟨rfl, rfl, hL3, hg3⟩
        refine ⟨_, results_tmp rfl _ _ _, rfl, ?_, ?_⟩
        · have e := HSS.out
          simp only [if_true] at e
          rw [e]; exact hL3
        · exact grown_trans (grown_of_below ((HBW.out.trans (hb1.mono HBW.out.size)).alloc (by have := HBW.out.size; have := hb1.size; omega) _) _) hg3
    · obtain rfl : b = false := by rw [hbb]; simp [hv]
      have hvd : decide (0 ≤ v) = true := by simp; omega
      clear hbb
      go_enter_defers Try.func10, Try.ntmps10
      go_wp2_with (go_at_call 21; refine hc.mono ?_; rintro r w1 ⟨rfl, hb1⟩)
      exact ⟨_, results_tmp rfl _ _ _, rfl, HST.out w1 _ (by first | exact rfl | trivial) hb1⟩

theorem new_any (w : World) : Calls Try.prog 15 #[] w fun r w' => ∃ gc gm, r = .returned (.pointer (some ⟨gc, 0, none⟩)) ∧ LIs w' gc gm 0 (fun _ => none) ∧ Below w.heap.size w w' ∧ w.heap.size ≤ gm ∧ w.heap.size ≤ gc := by
  have hmm := @run_makeMap Try.prog
  go_enter Try.func15, Try.ntmps15
  go_wp2
  go_ret
  refine ⟨w.heap.size + 1, w.heap.size, rfl, ⟨fun _ => none, ?_, (MapIs.made w _ _).alloc _, fun _ _ => rfl, fun _ _ h => by cases h⟩, ?_, Nat.le_refl _, by omega⟩
  · have := Blk.new (w.alloc (.map #[] 0)) 27 #[.map (some w.heap.size)]
    rwa [World.size_alloc] at this
  · exact ((Below.refl _ _).alloc (Nat.le_refl _) _).alloc (by simp) _

/-! ### Drop: 0: dropped (or not there), 4: it is held -/
def dropR (S : LS) (i : Int) : Int := if 0 ≤ (findV S i).1 then 4 else 0
def dropS (S : LS) (i : Int) : LS := if 0 ≤ (findV S i).1 then S else setS S i none
theorem drop_any {gc gm N : Nat} {S : LS} (S' : LS) (v : Int) {i : Int} {w : World} (h : LIs w gc gm N S) (hi : (Lit.int .i64 i).wf = true) (hv : dropR S i = v) (hs : dropS S i = S') :
    Calls Try.prog 12 #[.pointer (some ⟨gc, 0, none⟩), .int .i64 i] w fun r w' => r = .returned (.int .u8 v) ∧ LIs w' gc gm (N + 1) S' ∧ w.grownBy w' (some gm) := by
  have hc := find_any gc gm N S i w h hi
  have HI := Lib.hid hi
  have HL := Lib.hid h
  obtain ⟨x, hx⟩ : ∃ x, x = (findV S i).1 := ⟨_, rfl⟩
  obtain ⟨p, hp⟩ : ∃ p, p = (findV S i).2 := ⟨_, rfl⟩
  obtain ⟨q, hq⟩ : ∃ q, q = (S i).isSome := ⟨_, rfl⟩
  rw [← hx, ← hp, ← hq] at hc
  have hv' : v = if 0 ≤ x then 4 else 0 := by rw [← hv, hx]; rfl
  have hs' : S' = if 0 ≤ x then S else setS S i none := by rw [← hs, hx]; rfl
  clear hv hs hx hp hq h hi
  by_cases h0 : 0 ≤ x
  · rw [if_pos h0] at hv' hs'
    subst hv' hs'
    have hd : decide (0 ≤ x) = true := by simpa using h0
    clear h0
    go_enter Try.func12, Try.ntmps12
    go_wp2_with fail
    refine hc.mono ?_
    rintro r w1 ⟨rfl, hb1⟩
    have hL1 := HL.out.below hb1 (Nat.le_refl _)
    have hn1 := none_any gc gm (w1.alloc (.cells #[.int .i64 x, .bool p] 52)) (hL1.alloc _).blk
    go_wp2_with (go_at_call 22; refine hn1.mono ?_; rintro r w' ⟨rfl, rfl⟩)
    go_ret
    exact ⟨rfl, (hL1.alloc _).mono (by omega), grown_of_below (hb1.alloc hb1.size _) _⟩
  · rw [if_neg h0] at hv' hs'
    subst hv' hs'
    have hd : decide (0 ≤ x) = false := by simpa using h0
    clear h0
    go_enter Try.func12, Try.ntmps12
    go_wp2_with fail
    refine hc.mono ?_
    rintro r w1 ⟨rfl, hb1⟩
    have hL1 := HL.out.below hb1 (Nat.le_refl _)
    have hn1 := none_any gc gm (w1.alloc (.cells #[.int .i64 x, .bool p] 52)) (hL1.alloc _).blk
    have h0 := (hL1.alloc (.cells #[.int .i64 x, .bool p] 52)).cell0
    obtain ⟨w3, hrun, hL3, hg3⟩ := (hL1.alloc (.cells #[.int .i64 x, .bool p] 52)).delete HI.out 0
    go_wp2_with (go_at_call 22; refine hn1.mono ?_; rintro r w' ⟨rfl, rfl⟩)
    go_ret
    exact ⟨rfl, hL3.mono (by omega), grown_trans (grown_of_below (hb1.alloc hb1.size _) _) hg3⟩
end Go.Proofs.Ythbajgpoldajmaa
