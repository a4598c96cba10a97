/- Locks: the contract of do, and awake. -/
import Derived.Test.YthbajgpoldajmaaC
namespace Go.Proofs.Ythbajgpoldajmaa
open Go.RowKit Go.ChangeMaps Go.MapKept
open Go.Maps (Keyed)
set_option linter.unusedVariables false

structure Acte where
  kind : Int
  id : Int
  thread : Int
  poison : Bool
instance : Inhabited Acte := ⟨⟨0, 0, 0, false⟩⟩
def Acte.wf (a : Acte) : Prop := (Lit.int .i64 a.kind).wf = true ∧ (Lit.int .i64 a.id).wf = true ∧ (Lit.int .i64 a.thread).wf = true
def actC (a : Acte) : List Value := [.int .i64 a.kind, .int .i64 a.id, .int .i64 a.thread, .bool a.poison]
theorem actC_len (a : Acte) : (actC a).length = 4 := rfl

def doS (S : LS) (a : Acte) : LS :=
  if a.kind = 0 then makeS S a.id else if a.kind = 1 ∨ a.kind = 2 then lockS S a.id a.thread else if a.kind = 3 ∨ a.kind = 4 then unlockS S a.id a.thread a.poison else if a.kind = 5 then dropS S a.id else S
def doB (S : LS) (a : Acte) : Bool :=
  if a.kind = 0 then true else if a.kind = 1 ∨ a.kind = 2 then lockB S a.id a.thread else if a.kind = 3 ∨ a.kind = 4 then unlockB S a.id a.thread else if a.kind = 5 then decide (dropR S a.id = 0) else false

set_option maxHeartbeats 3200000 in
theorem do_any {gc gm N : Nat} {S : LS} (S' : LS) (b : Bool) {k i t : Int} {p : Bool} {w : World} (h : LIs w gc gm N S) (ha : Acte.wf ⟨k, i, t, p⟩) (hb : doB S ⟨k, i, t, p⟩ = b) (hs : doS S ⟨k, i, t, p⟩ = S') :
    Calls Try.prog 20 #[.pointer (some ⟨gc, 0, none⟩), .agg #[.int .i64 k, .int .i64 i, .int .i64 t, .bool p]] w fun r w' => r = .returned (.bool b) ∧ LIs w' gc gm (N + 1) S' ∧ w.grownBy w' (some gm) := by
  obtain ⟨_, hi, ht⟩ := ha
  simp only at hi ht
  have hgm := h.lt.2
  have hbox := Blk.new w 23 #[.int .i64 k, .int .i64 i, .int .i64 t, .bool p]
  have hL := h.alloc (.cells #[.int .i64 k, .int .i64 i, .int .i64 t, .bool p] 23)
  have hg0 : w.grownBy (w.alloc (.cells #[.int .i64 k, .int .i64 i, .int .i64 t, .bool p] 23)) (some gm) := grown_of_below ((Below.refl _ w).alloc (Nat.le_refl _) _) _
  have HBX := Lib.hid hbox
  have HG0 := Lib.hid hg0
  have HGM := Lib.hid hgm
  clear hbox hg0 hgm h

  by_cases k0 : k = 0
  · subst k0
    obtain rfl : b = true := by rw [← hb]; rfl
    have hm := make_any S' hL hi (by rw [← hs]; rfl)
    clear hb hs hi ht hL
    go_enter Try.func20, Try.ntmps20
    go_wp2_with fail
    refine hm.mono ?_
    rintro r w1 ⟨rfl, hL1, hg1⟩
    have hk := (HBX.out.grown hg1 (by have := HGM.out; simp; omega)).cell 0
    have e0 : (#[Value.int .i64 0, .int .i64 i, .int .i64 t, .bool p] : Array Value)[0]? = some (.int .i64 0) := rfl
    rw [e0] at hk
    have HL1 := Lib.hid hL1
    have HG1 := Lib.hid hg1
    clear e0 hL1 hg1 hm
    go_wp2
    go_ret
    exact ⟨rfl, HL1.out, grown_trans HG0.out HG1.out⟩
  by_cases k1 : k = 1
  · subst k1
    have hm := lock_any S' b hL hi ht (by rw [← hb]; simp [doB]) (by rw [← hs]; simp [doS])
    clear hb hs hi ht hL
    go_enter Try.func20, Try.ntmps20
    go_wp2_with fail
    refine hm.mono ?_
    rintro r w1 ⟨rfl, hL1, hg1⟩
    go_wp2
    go_ret
    exact ⟨rfl, hL1, grown_trans HG0.out hg1⟩
  by_cases k2 : k = 2
  · subst k2
    have hm := lock_any S' b hL hi ht (by rw [← hb]; simp [doB]) (by rw [← hs]; simp [doS])
    clear hb hs hi ht hL
    go_enter Try.func20, Try.ntmps20
    go_wp2_with fail
    refine hm.mono ?_
    rintro r w1 ⟨rfl, hL1, hg1⟩
    go_wp2
    go_ret
    exact ⟨rfl, hL1, grown_trans HG0.out hg1⟩
  by_cases k3 : k = 3
  · subst k3
    have hr : unlockR S i t = if b then 0 else 5 := by rw [← hb]; simp [doB, unlockR]
    have hm := unlock_any (po := p) S' _ hL hi hr (by rw [← hs]; simp [doS])
    clear hb hs hi ht hL hr
    cases b
    all_goals
      simp only [if_true, if_false, Bool.false_eq_true] at hm
      go_enter Try.func20, Try.ntmps20
      go_wp2_with fail
      refine hm.mono ?_
      rintro r w1 ⟨rfl, hL1, hg1⟩
      go_wp2
      go_ret
      exact ⟨rfl, hL1, grown_trans HG0.out hg1⟩
  by_cases k4 : k = 4
  · subst k4
    have hr : unlockR S i t = if b then 0 else 5 := by rw [← hb]; simp [doB, unlockR]
    have hm := unlock_any (po := p) S' _ hL hi hr (by rw [← hs]; simp [doS])
    clear hb hs hi ht hL hr
    cases b
    all_goals
      simp only [if_true, if_false, Bool.false_eq_true] at hm
      go_enter Try.func20, Try.ntmps20
      go_wp2_with fail
      refine hm.mono ?_
      rintro r w1 ⟨rfl, hL1, hg1⟩
      go_wp2
      go_ret
      exact ⟨rfl, hL1, grown_trans HG0.out hg1⟩
  by_cases k5 : k = 5
  · subst k5
    have hr : dropR S i = if b then 0 else 4 := by
      rw [← hb]
      simp only [doB, dropR]
      by_cases h0 : 0 ≤ (findV S i).1
      · simp [h0]
      · simp [h0]
    have hm := drop_any S' _ hL hi hr (by rw [← hs]; simp [doS])
    clear hb hs hi ht hL hr
    cases b
    all_goals
      simp only [if_true, if_false, Bool.false_eq_true] at hm
      go_enter Try.func20, Try.ntmps20
      go_wp2_with fail
      refine hm.mono ?_
      rintro r w1 ⟨rfl, hL1, hg1⟩
      go_wp2
      go_ret
      exact ⟨rfl, hL1, grown_trans HG0.out hg1⟩
  obtain rfl : b = false := by rw [← hb]; simp [doB, k0, k1, k2, k3, k4, k5]
  obtain rfl : S' = S := by rw [← hs]; simp [doS, k0, k1, k2, k3, k4, k5]
  have b0 : (k == 0) = false := by simpa using k0
  have b1 : (k == 1) = false := by simpa using k1
  have b2 : (k == 2) = false := by simpa using k2
  have b3 : (k == 3) = false := by simpa using k3
  have b4 : (k == 4) = false := by simpa using k4
  have b5 : (k == 5) = false := by simpa using k5
  have HL := Lib.hid hL
  clear hb hs hi ht hL k0 k1 k2 k3 k4 k5
  go_enter Try.func20, Try.ntmps20
  go_wp2
  go_ret
  exact ⟨rfl, HL.out.mono (by omega), HG0.out⟩

set_option maxRecDepth 100000 in
set_option maxHeartbeats 6400000 in
theorem awake_any (w : World) : Calls Try.prog 19 #[] w fun r w' => r = .returned (.bool true) ∧ Below w.heap.size w w' := by
  go_enter Try.func19, Try.ntmps19
  go_wp2_with fail
  refine (new_any w).mono ?_
  rintro r w0 ⟨gc, gm, rfl, hL0, hB0, hgm, hgc⟩
  have HGM := Lib.hid hgm
  clear hgm hgc
  have fS : ∀ (x : Int × Bool) (i : Int) (y : Option (Int × Bool)), setS (setS (fun _ => none) i (some x)) i y = setS (fun _ => none) i y := by
    intro x i y; funext j; unfold setS; split <;> rfl
  have fN : setS (fun _ => none) 3 none = (fun _ => none : LS) := by funext j; unfold setS; split <;> rfl
  go_wp2_with fail
  refine (make_any (i := 3) (setS (fun _ => none) 3 (some (-1, false))) hL0 (by decide) (by rfl)).mono ?_
  rintro r w1 ⟨rfl, hL1, hg⟩
  have hB1 : Below w.heap.size w w1 := hB0.grown hg hB0.size (fun k e => by cases e; exact HGM.out)
  clear hg hL0 hB0
  go_wp2_with fail
  refine (lock_any (i := 3) (t := 1) (setS (fun _ => none) 3 (some (1, false))) true hL1 (by decide) (by decide) (by decide) (by rw [show lockS (setS (fun _ => none) 3 (some (-1, false))) 3 1 = setS (setS (fun _ => none) 3 (some (-1, false))) 3 (some (1, false)) from rfl, fS])).mono ?_
  rintro r w2 ⟨rfl, hL2, hg⟩
  have hB2 : Below w.heap.size w w2 := hB1.grown hg hB1.size (fun k e => by cases e; exact HGM.out)
  clear hg hL1 hB1
  go_wp2_with fail
  refine (lock_any (i := 3) (t := 2) (setS (fun _ => none) 3 (some (1, false))) false hL2 (by decide) (by decide) (by decide) (by rfl)).mono ?_
  rintro r w3 ⟨rfl, hL3, hg⟩
  have hB3 : Below w.heap.size w w3 := hB2.grown hg hB2.size (fun k e => by cases e; exact HGM.out)
  clear hg hL2 hB2
  go_wp2_with fail
  refine (lock_any (i := 3) (t := 1) (setS (fun _ => none) 3 (some (1, false))) false hL3 (by decide) (by decide) (by decide) (by rfl)).mono ?_
  rintro r w4 ⟨rfl, hL4, hg⟩
  have hB4 : Below w.heap.size w w4 := hB3.grown hg hB3.size (fun k e => by cases e; exact HGM.out)
  clear hg hL3 hB3
  go_wp2_with fail
  refine (lock_any (i := 4) (t := 1) (setS (fun _ => none) 3 (some (1, false))) false hL4 (by decide) (by decide) (by decide) (by rfl)).mono ?_
  rintro r w5 ⟨rfl, hL5, hg⟩
  have hB5 : Below w.heap.size w w5 := hB4.grown hg hB4.size (fun k e => by cases e; exact HGM.out)
  clear hg hL4 hB4
  go_wp2_with fail
  refine (holder_any (i := 3) 1 hL5 (by decide) (by decide)).mono ?_
  rintro r w6 ⟨rfl, hb⟩
  have hL6 := hL5.below hb (Nat.le_refl _)
  have hB6 := hB5.trans (hb.mono hB5.size)
  clear hb hL5 hB5
  go_wp2_with fail
  refine (unlock_any (i := 3) (t := 2) (po := false) (setS (fun _ => none) 3 (some (1, false))) 5 hL6 (by decide) (by decide) (by rfl)).mono ?_
  rintro r w7 ⟨rfl, hL7, hg⟩
  have hB7 : Below w.heap.size w w7 := hB6.grown hg hB6.size (fun k e => by cases e; exact HGM.out)
  clear hg hL6 hB6
  go_wp2_with fail
  refine (drop_any (i := 3) (setS (fun _ => none) 3 (some (1, false))) 4 hL7 (by decide) (by decide) (by rfl)).mono ?_
  rintro r w8 ⟨rfl, hL8, hg⟩
  have hB8 : Below w.heap.size w w8 := hB7.grown hg hB7.size (fun k e => by cases e; exact HGM.out)
  clear hg hL7 hB7
  go_wp2_with fail
  refine (unlock_any (i := 3) (t := 1) (po := true) (setS (fun _ => none) 3 (some (-1, true))) 0 hL8 (by decide) (by decide) (by rw [show unlockS (setS (fun _ => none) 3 (some (1, false))) 3 1 true = setS (setS (fun _ => none) 3 (some (1, false))) 3 (some (-1, true)) from rfl, fS])).mono ?_
  rintro r w9 ⟨rfl, hL9, hg⟩
  have hB9 : Below w.heap.size w w9 := hB8.grown hg hB8.size (fun k e => by cases e; exact HGM.out)
  clear hg hL8 hB8
  go_wp2_with fail
  refine (poisoned_any (i := 3) true hL9 (by decide) (by decide)).mono ?_
  rintro r w10 ⟨rfl, hb⟩
  have hL10 := hL9.below hb (Nat.le_refl _)
  have hB10 := hB9.trans (hb.mono hB9.size)
  clear hb hL9 hB9
  go_wp2_with fail
  refine (holder_any (i := 3) (-1) hL10 (by decide) (by decide)).mono ?_
  rintro r w11 ⟨rfl, hb⟩
  have hL11 := hL10.below hb (Nat.le_refl _)
  have hB11 := hB10.trans (hb.mono hB10.size)
  clear hb hL10 hB10
  go_wp2_with fail
  refine (lock_any (i := 3) (t := 2) (setS (fun _ => none) 3 (some (2, true))) true hL11 (by decide) (by decide) (by decide) (by rw [show lockS (setS (fun _ => none) 3 (some (-1, true))) 3 2 = setS (setS (fun _ => none) 3 (some (-1, true))) 3 (some (2, true)) from rfl, fS])).mono ?_
  rintro r w12 ⟨rfl, hL12, hg⟩
  have hB12 : Below w.heap.size w w12 := hB11.grown hg hB11.size (fun k e => by cases e; exact HGM.out)
  clear hg hL11 hB11
  go_wp2_with fail
  refine (unlock_any (i := 3) (t := 2) (po := false) (setS (fun _ => none) 3 (some (-1, true))) 0 hL12 (by decide) (by decide) (by rw [show unlockS (setS (fun _ => none) 3 (some (2, true))) 3 2 false = setS (setS (fun _ => none) 3 (some (2, true))) 3 (some (-1, true)) from rfl, fS])).mono ?_
  rintro r w13 ⟨rfl, hL13, hg⟩
  have hB13 : Below w.heap.size w w13 := hB12.grown hg hB12.size (fun k e => by cases e; exact HGM.out)
  clear hg hL12 hB12
  go_wp2_with fail
  refine (poisoned_any (i := 3) true hL13 (by decide) (by decide)).mono ?_
  rintro r w14 ⟨rfl, hb⟩
  have hL14 := hL13.below hb (Nat.le_refl _)
  have hB14 := hB13.trans (hb.mono hB13.size)
  clear hb hL13 hB13
  go_wp2_with fail
  refine (drop_any (i := 3) (fun _ => none) 0 hL14 (by decide) (by decide) (by rw [show dropS (setS (fun _ => none) 3 (some (-1, true))) 3 = setS (setS (fun _ => none) 3 (some (-1, true))) 3 none from rfl, fS, fN])).mono ?_
  rintro r w15 ⟨rfl, hL15, hg⟩
  have hB15 : Below w.heap.size w w15 := hB14.grown hg hB14.size (fun k e => by cases e; exact HGM.out)
  clear hg hL14 hB14
  go_wp2_with fail
  refine (lock_any (i := 3) (t := 2) (fun _ => none) false hL15 (by decide) (by decide) (by decide) (by rfl)).mono ?_
  rintro r w16 ⟨rfl, hL16, hg⟩
  have hB16 : Below w.heap.size w w16 := hB15.grown hg hB15.size (fun k e => by cases e; exact HGM.out)
  clear hg hL15 hB15
  go_wp2_with fail
  refine (poisoned_any (i := 3) false hL16 (by decide) (by decide)).mono ?_
  rintro r w17 ⟨rfl, hb⟩
  have hL17 := hL16.below hb (Nat.le_refl _)
  have hB17 := hB16.trans (hb.mono hB16.size)
  clear hb hL16 hB16
  go_wp2
  go_ret
  exact ⟨rfl, hB17⟩
end Go.Proofs.Ythbajgpoldajmaa
