/- Locks: the contract of Unlock. -/
import Derived.Test.YthbajgpoldajmaaB
namespace Go.Proofs.Ythbajgpoldajmaa
open Go.RowKit Go.ChangeMaps Go.MapKept
open Go.Maps (Keyed)
set_option linter.unusedVariables false

def unlockB (S : LS) (i t : Int) : Bool := (S i).isSome && decide (0 ≤ t) && decide ((findV S i).1 = t)
def unlockS (S : LS) (i t : Int) (b : Bool) : LS := if unlockB S i t then setS S i (some (-1, (findV S i).2 || b)) else S
def unlockR (S : LS) (i t : Int) : Int := if unlockB S i t then 0 else 5

set_option maxHeartbeats 1600000 in
theorem unlock_any {gc gm N : Nat} {S : LS} (S' : LS) (r0 : Int) {i t : Int} {po : Bool} {w : World} (h : LIs w gc gm N S) (hi : (Lit.int .i64 i).wf = true) (hb : unlockR S i t = r0) (hs : unlockS S i t po = S') :
    Calls Try.prog 11 #[.pointer (some ⟨gc, 0, none⟩), .int .i64 i, .int .i64 t, .bool po] w fun r w' => r = .returned (.int .u8 r0) ∧ LIs w' gc gm (N + 1) S' ∧ w.grownBy w' (some gm) := by
  obtain ⟨W, hW⟩ : ∃ W, W = (w.alloc (.cells #[.pointer (some ⟨gc, 0, none⟩)] 24)).alloc (.cells #[.int .i64 i] 3) := ⟨_, rfl⟩
  have hLW : LIs W gc gm N S := by rw [hW]; exact (h.alloc _).alloc _
  have hBW : Below w.heap.size w W := by rw [hW]; exact ((Below.refl _ w).alloc (Nat.le_refl _) _).alloc (by simp) _
  have hl : Blk W w.heap.size 24 #[.pointer (some ⟨gc, 0, none⟩)] := by rw [hW]; exact (Blk.new w 24 _).alloc _
  have hbi : Blk W (w.heap.size + 1) 3 #[.int .i64 i] := by
    rw [hW]
    have := Blk.new (w.alloc (.cells #[.pointer (some ⟨gc, 0, none⟩)] 24)) 3 #[.int .i64 i]
    rwa [World.size_alloc] at this
  have hc := find_any gc gm N S i W hLW hi
  have hmf : ∀ (fn : Fn) (first cap : Array Value) (w : World), (Instr.makeFunc fn first cap).run Try.prog w = .ok (.func fn first cap) w := fun _ _ _ _ => rfl
  obtain ⟨v, hv⟩ : ∃ v, v = (findV S i).1 := ⟨_, rfl⟩
  obtain ⟨p, hp⟩ : ∃ p, p = (findV S i).2 := ⟨_, rfl⟩
  obtain ⟨q, hq⟩ : ∃ q, q = (S i).isSome := ⟨_, rfl⟩
  obtain ⟨b, hb0⟩ : ∃ b, b = unlockB S i t := ⟨_, rfl⟩
  rw [← hv, ← hp, ← hq] at hc
  have hbb : b = (q && decide (0 ≤ t) && decide (v = t)) := by rw [hb0, hq, hv]; rfl
  have hrr : r0 = if b then 0 else 5 := by rw [← hb, hb0]; rfl
  have hss : S' = if b then setS S i (some (-1, p || po)) else S := by rw [← hs, hp, hb0]; rfl
  have HI := Lib.hid hi
  have HLW := Lib.hid hLW
  have HBW := Lib.hid hBW
  have HL := Lib.hid hl
  have HBI := Lib.hid hbi
  clear hb hs hv hp hq hi hLW hBW hl hbi h hb0
  have stay : ∀ (w1 : World) (o : Obj), Below W.heap.size W w1 → LIs (w1.alloc o) gc gm (N + 1) S ∧ w.grownBy (w1.alloc o) (some gm) := by
    intro w1 o hb1
    refine ⟨?_, grown_of_below ((HBW.out.trans (hb1.mono HBW.out.size)).alloc (by have := HBW.out.size; have := hb1.size; omega) o) _⟩
    exact ((HLW.out.below hb1 (Nat.le_refl _)).alloc o).mono (by omega)
  have HST := Lib.hid stay
  clear stay
  rw [hW] at hc
  cases b with
  | false =>
    obtain rfl : S' = S := by simpa using hss
    obtain rfl : r0 = 5 := by simpa using hrr
    have hd : ¬ (q = true ∧ 0 ≤ t ∧ v = t) := by
      rintro ⟨rfl, h1, h2⟩
      simp [h1, h2] at hbb
    clear hss hrr hbb
    go_enter_defers Try.func11, Try.ntmps11
    go_wp2_with fail
    refine hc.mono ?_
    rintro r w1 ⟨rfl, hb1⟩
    rw [← hW] at hb1
    have hn1 := none_any gc gm (w1.alloc (.cells #[.int .i64 v, .bool p] 52)) ((HLW.out.below hb1 (Nat.le_refl _)).alloc _).blk
    have hs1 : W.heap.size = w.heap.size + 1 + 1 := by rw [hW]; simp
    have l0 := ((HL.out.below hb1 (by omega)).alloc (.cells #[.int .i64 v, .bool p] 52)).cell 0
    have e0 : (#[Value.pointer (some ⟨gc, 0, none⟩)] : Array Value)[0]? = some (Value.pointer (some ⟨gc, 0, none⟩)) := rfl
    rw [e0] at l0
    clear e0
    clear hs1 hc hW
    cases q with
    | false =>
      clear hd
      go_wp2_with (go_at_call 22; refine hn1.mono ?_; rintro r w' ⟨rfl, rfl⟩)
      exact ⟨_, results_tmp rfl _ _ _, rfl, HST.out w1 _ hb1⟩
    | true =>
      by_cases ht : t < 0
      · clear hd
        have h1 : decide (t < 0) = true := by simpa using ht
        go_wp2_with (go_at_call 22; refine hn1.mono ?_; rintro r w' ⟨rfl, rfl⟩)
        exact ⟨_, results_tmp rfl _ _ _, rfl, HST.out w1 _ hb1⟩
      · have hne : v ≠ t := fun e => hd ⟨rfl, by omega, e⟩
        have h1 : decide (t < 0) = false := by simpa using ht
        have h2 : (v != t) = true := by simpa using hne
        clear hd ht hne
        go_wp2_with (go_at_call 22; refine hn1.mono ?_; rintro r w' ⟨rfl, rfl⟩)
        exact ⟨_, results_tmp rfl _ _ _, rfl, HST.out w1 _ hb1⟩
  | true =>
    obtain rfl : S' = setS S i (some (-1, p || po)) := by simpa using hss
    obtain rfl : r0 = 0 := by simpa using hrr
    have hd : q = true ∧ 0 ≤ t ∧ v = t := by
      have := hbb.symm
      simp at this
      exact ⟨this.1.1, this.1.2, this.2⟩
    obtain ⟨rfl, ht, rfl⟩ := hd
    have h1 : decide (v < 0) = false := by simp; omega
    clear hss hrr hbb ht
    go_enter_defers Try.func11, Try.ntmps11
    go_wp2_with fail
    refine hc.mono ?_
    rintro r w1 ⟨rfl, hb1⟩
    rw [← hW] at hb1
    have hL1 := HLW.out.below hb1 (Nat.le_refl _)
    have hn1 := none_any gc gm (w1.alloc (.cells #[.int .i64 v, .bool p] 52)) (hL1.alloc _).blk
    have hs1 : W.heap.size = w.heap.size + 1 + 1 := by rw [hW]; simp
    have hl1 := HL.out.below hb1 (by omega)
    have hbi1 := HBI.out.below hb1 (by omega)
    have l0 := (hl1.alloc (.cells #[.int .i64 v, .bool p] 52)).cell 0
    have e0 : (#[Value.pointer (some ⟨gc, 0, none⟩)] : Array Value)[0]? = some (Value.pointer (some ⟨gc, 0, none⟩)) := rfl
    rw [e0] at l0
    clear e0
    clear hs1 hc hW
    cases p
    all_goals
      go_wp2_with (go_at_call 22; refine hn1.mono ?_; rintro r w' ⟨rfl, rfl⟩)
      refine leaves_cons (f := 24) (args := #[.pointer (some ⟨w1.heap.size, 0, none⟩), .pointer (some ⟨w.heap.size, 0, none⟩), .pointer (some ⟨w.heap.size + 1, 0, none⟩)]) (by simp) (by simp [go_sem]) ?_
      refine (closure_24 w1.heap.size w.heap.size (w.heap.size + 1) gc gm N S i (-1) _ .returning _ (hL1.alloc _) (Blk.new w1 52 _) (hl1.alloc _) (hbi1.alloc _) HI.out (by decide)).mono ?_
      rintro e u' w3 ⟨rfl, rfl, hL3, hg3⟩
      refine ⟨_, results_tmp rfl _ _ _, rfl, ?_, ?_⟩
      · simpa using hL3
      · exact grown_trans (grown_of_below ((HBW.out.trans (hb1.mono HBW.out.size)).alloc (by have := HBW.out.size; have := hb1.size; omega) _) _) hg3
end Go.Proofs.Ythbajgpoldajmaa
