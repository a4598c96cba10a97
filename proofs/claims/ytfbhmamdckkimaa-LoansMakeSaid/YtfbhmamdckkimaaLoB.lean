/- Loans: contracts of the functions that are handed over, and of May. -/
import Derived.Test.YtfbhmamdckkimaaLoA
namespace Go.Proofs.Ytfbhmamdckkimaa
open Go.RowKit
set_option linter.unusedVariables false
set_option linter.unusedSimpArgs false

def PlBox (w : World) (g : Nat) (x : Pl) : Prop := Blk w g 25 #[.string x.name, .slice x.pa x.path.length x.pc]

set_option maxHeartbeats 1600000 in
theorem may1_any (gu gp : Nat) (x : Lo) (p : Pl) (u : Int) (b : Bool) (w : World) (hu : Blk w gu 5 #[.int .u8 u]) (hp : PlBox w gp p) (hx : LoOk w x) (hpk : PlOk w w.heap.size p) (hu0 : 0 ≤ u) (hu1 : u ≤ 255) (hb : clash p.key u x.key = b) :
    Calls Try.prog 29 #[.agg #[.string x.pl.name, .slice x.pl.pa x.pl.path.length x.pl.pc, .bool x.alone, .int .i64 x.till], .pointer (some ⟨gu, 0, none⟩), .pointer (some ⟨gp, 0, none⟩)] w fun r w' => r = .returned (.bool b) ∧ Below w.heap.size w w' := by
  unfold PlBox at hp
  have hb1 : Below w.heap.size w (w.alloc (.cells #[.string x.pl.name, .slice x.pl.pa x.pl.path.length x.pl.pc, .bool x.alone, .int .i64 x.till] 36)) := (Below.refl _ _).alloc (Nat.le_refl _) _
  obtain ⟨mb, hmb⟩ : ∃ mb, meetB x.pl.key p.key = mb := ⟨_, rfl⟩
  have HM := Lib.hid (meets_bool x.pl p hmb _ (hx.pl.next hb1) (hpk.next hb1))
  have HB := Lib.hid hb1
  have q0 := bo0 hu
  have q1 := bx0 hp
  have q2 := bx1 hp
  have z1 := hu.lt
  have z2 := hp.lt
  have hbv : b = ((x.alone || decide (2 < u)) && mb) := by rw [← hb, ← hmb]; rfl
  clear hx hpk hb hb1 hmb hu hp
  obtain ⟨al, hal⟩ : ∃ al, x.alone = al := ⟨_, rfl⟩
  rw [hal] at hbv HM HB ⊢
  clear hal
  cases al with
  | true =>
    have hbv' : b = mb := by rw [hbv]; simp
    subst hbv'
    clear hbv
    go_enter Try.func29, Try.ntmps29
    go_wp2_with fail
    refine HM.out.mono ?_
    rintro r w1 ⟨rfl, h1⟩
    have HB1 := Lib.hid (HB.out.trans (h1.mono HB.out.size))
    clear h1
    go_wp2
    go_ret
    exact ⟨rfl, HB1.out⟩
  | false =>
    by_cases h2 : 2 < u
    · have hbv' : b = mb := by rw [hbv, decide_eq_true h2]; simp
      subst hbv'
      clear hbv
      go_enter Try.func29, Try.ntmps29
      go_wp2_with fail
      refine HM.out.mono ?_
      rintro r w1 ⟨rfl, h1⟩
      have HB1 := Lib.hid (HB.out.trans (h1.mono HB.out.size))
      clear h1
      go_wp2
      go_ret
      exact ⟨rfl, HB1.out⟩
    · have hbv' : b = false := by rw [hbv, decide_eq_false h2]; simp
      subst hbv'
      clear hbv
      go_enter Try.func29, Try.ntmps29
      go_wp2_with fail
      go_ret
      exact ⟨rfl, HB.out⟩
theorem enter_may1 (args : Array Value) (W : World) : (callFunc 29 args).run Try.prog W = .ok (.enter 29 args) W := by kernel_rfl
theorem enter_end1 (args : Array Value) (W : World) : (callFunc 33 args).run Try.prog W = .ok (.enter 33 args) W := by kernel_rfl
theorem enter_of1 (args : Array Value) (W : World) : (callFunc 36 args).run Try.prog W = .ok (.enter 36 args) W := by kernel_rfl
theorem enter_all (args : Array Value) (W : World) : (callFunc 34 args).run Try.prog W = .ok (.enter 34 args) W := by kernel_rfl
theorem enter_is (args : Array Value) (W : World) : (callFunc 35 args).run Try.prog W = .ok (.enter 35 args) W := by kernel_rfl
theorem enter_same11 (args : Array Value) (W : World) : (callFunc 42 args).run Try.prog W = .ok (.enter 42 args) W := by kernel_rfl
theorem enter_same1 (args : Array Value) (W : World) : (callFunc 41 args).run Try.prog W = .ok (.enter 41 args) W := by kernel_rfl

theorem all_any (x : Lo) (w : World) : Calls Try.prog 34 #[.agg #[.string x.pl.name, .slice x.pl.pa x.pl.path.length x.pl.pc, .bool x.alone, .int .i64 x.till]] w fun r w' => r = .returned (.bool true) ∧ Below w.heap.size w w' := by
  go_enter Try.func34, Try.ntmps34
  go_wp2
  go_ret
  exact ⟨rfl, (Below.refl _ _).alloc (Nat.le_refl _) _⟩
theorem end1_any (g : Nat) (x : Lo) (d : Int) (b : Bool) (w : World) (hg : Blk w g 3 #[.int .i64 d]) (hb : decide (x.till < d) = b) : Calls Try.prog 33 #[.agg #[.string x.pl.name, .slice x.pl.pa x.pl.path.length x.pl.pc, .bool x.alone, .int .i64 x.till], .pointer (some ⟨g, 0, none⟩)] w fun r w' => r = .returned (.bool b) ∧ Below w.heap.size w w' := by
  have q0 := bo0 hg
  have z1 := hg.lt
  subst hb
  clear hg
  go_enter Try.func33, Try.ntmps33
  go_wp2
  go_ret
  exact ⟨rfl, (Below.refl _ _).alloc (Nat.le_refl _) _⟩
theorem of1_any (g : Nat) (x : Lo) (s : ByteArray) (b : Bool) (w : World) (hg : Blk w g 9 #[.string s]) (hb : decide (x.pl.name = s) = b) : Calls Try.prog 36 #[.agg #[.string x.pl.name, .slice x.pl.pa x.pl.path.length x.pl.pc, .bool x.alone, .int .i64 x.till], .pointer (some ⟨g, 0, none⟩)] w fun r w' => r = .returned (.bool b) ∧ Below w.heap.size w w' := by
  have q0 := bo0 hg
  have z1 := hg.lt
  have e : (x.pl.name.toList == s.toList) = b := by
    rw [← hb]
    by_cases h : x.pl.name = s
    · rw [h]; simp
    · rw [tol_ne h, decide_eq_false h]
  clear hg hb
  go_enter Try.func36, Try.ntmps36
  go_wp2
  go_ret
  exact ⟨by first | rfl | rw [e], (Below.refl _ _).alloc (Nat.le_refl _) _⟩

set_option maxHeartbeats 1600000 in
theorem is_any (x y : Lo) (b : Bool) (w : World) (hx : LoOk w x) (hy : LoOk w y) (hb : sameLo x.key y.key = b) :
    Calls Try.prog 35 #[.agg #[.string x.pl.name, .slice x.pl.pa x.pl.path.length x.pl.pc, .bool x.alone, .int .i64 x.till], .agg #[.string y.pl.name, .slice y.pl.pa y.pl.path.length y.pl.pc, .bool y.alone, .int .i64 y.till]] w fun r w' => r = .returned (.bool b) ∧ Below w.heap.size w w' := by
  have hb1 : Below w.heap.size w ((w.alloc (.cells #[.string x.pl.name, .slice x.pl.pa x.pl.path.length x.pl.pc, .bool x.alone, .int .i64 x.till] 36)).alloc (.cells #[.string y.pl.name, .slice y.pl.pa y.pl.path.length y.pl.pc, .bool y.alone, .int .i64 y.till] 36)) := ((Below.refl _ _).alloc (Nat.le_refl _) _).alloc (by simp) _
  obtain ⟨sb, hsb⟩ : ∃ sb, sameB x.pl.key y.pl.key = sb := ⟨_, rfl⟩
  have HS := Lib.hid (same_bool x.pl y.pl hsb _ (hx.pl.next hb1) (hy.pl.next hb1))
  have HB := Lib.hid hb1
  have hbv : b = (decide (x.alone = y.alone) && decide (x.till = y.till) && sb) := by rw [← hb, sameLo_eq, ← hsb]; rfl
  clear hx hy hb hb1 hsb
  obtain ⟨a1, ha1⟩ : ∃ a, x.alone = a := ⟨_, rfl⟩
  obtain ⟨a2, ha2⟩ : ∃ a, y.alone = a := ⟨_, rfl⟩
  rw [ha1, ha2] at hbv HS HB ⊢
  clear ha1 ha2
  by_cases ha : a1 = a2
  · subst ha
    have e1 : (a1 == a1) = true := by simp
    by_cases ht : x.till = y.till
    · have e2 : (x.till == y.till) = true := by rw [ht]; simp
      have hbv' : b = sb := by rw [hbv, decide_eq_true ht]; simp
      subst hbv'
      clear hbv ht
      go_enter Try.func35, Try.ntmps35
      go_wp2_with fail
      refine HS.out.mono ?_
      rintro r w1 ⟨rfl, h1⟩
      have HB1 := Lib.hid (HB.out.trans (h1.mono HB.out.size))
      clear h1
      go_wp2
      go_ret
      exact ⟨rfl, HB1.out⟩
    · have e2 : (x.till == y.till) = false := by simpa using ht
      have hbv' : b = false := by rw [hbv, decide_eq_false ht]; simp
      subst hbv'
      clear hbv ht
      go_enter Try.func35, Try.ntmps35
      go_wp2_with fail
      go_ret
      exact ⟨rfl, HB.out⟩
  · have e1 : (a1 == a2) = false := by simpa using ha
    have hbv' : b = false := by rw [hbv, decide_eq_false ha]; simp
    subst hbv'
    clear hbv ha
    go_enter Try.func35, Try.ntmps35
    go_wp2_with fail
    go_ret
    exact ⟨rfl, HB.out⟩

theorem clash_any (Ls : List Lo) (p : PKey) (u : Int) : Ls.any (fun x => clash p u x.key) = (Ls.map Lo.key).any (clash p u) := by rw [List.any_map]; rfl
set_option maxHeartbeats 1600000 in
theorem may_any (A : Option Addr) (len c : Nat) (Ls : List Lo) (p : Pl) (u : Int) (w : World) (h : LoRow w A len c Ls) (hp : PlOk w w.heap.size p) (hu0 : 0 ≤ u) (hu1 : u ≤ 255) (m : Int) (hm : mayL (Ls.map Lo.key) p.key u = m) :
    Calls Try.prog 12 #[.slice A len c, .agg #[.string p.name, .slice p.pa p.path.length p.pc], .int .u8 u] w fun r w' => r = .returned (.int .i64 m) ∧ Below w.heap.size w w' := by
  subst hm
  obtain ⟨W0, hW0⟩ : ∃ W0, W0 = (w.alloc (.cells #[.string p.name, .slice p.pa p.path.length p.pc] 25)).alloc (.cells #[.int .u8 u] 5) := ⟨_, rfl⟩
  have hb0 : Below w.heap.size w W0 := by rw [hW0]; exact ((Below.refl _ _).alloc (Nat.le_refl _) _).alloc (by simp) _
  have hk0 : PlBox W0 w.heap.size p := by unfold PlBox; rw [hW0]; exact (Blk.new w _ _).alloc _
  have hk1 : Blk W0 (w.heap.size + 1) 5 #[.int .u8 u] := by rw [hW0]; exact blk_at (Blk.new (w.alloc _) _ _) (by simp)
  have HB := Lib.hid hb0
  have HW := Lib.hid hW0
  by_cases h1 : u < 1
  · have HM := Lib.hid (show mayL (Ls.map Lo.key) p.key u = 2 by rw [mayL_arg]; exact .inl h1)
    clear h hp hk0 hk1 hb0
    go_enter Try.func12, Try.ntmps12
    go_wp2
    rw [← HW.out]
    go_ret
    exact ⟨by rw [HM.out]; rfl, HB.out⟩
  · by_cases h6 : 6 < u
    · have HM := Lib.hid (show mayL (Ls.map Lo.key) p.key u = 2 by rw [mayL_arg]; exact .inr h6)
      clear h hp hk0 hk1 hb0
      go_enter Try.func12, Try.ntmps12
      go_wp2
      rw [← HW.out]
      go_ret
      exact ⟨by rw [HM.out]; rfl, HB.out⟩
    · obtain ⟨cb, hcb⟩ : ∃ cb, (Ls.map Lo.key).any (clash p.key u) = cb := ⟨_, rfl⟩
      have hrow := h.below hb0
      have HC := Lib.hid (lhas_two 29 (.pointer (some ⟨w.heap.size + 1, 0, none⟩)) (.pointer (some ⟨w.heap.size, 0, none⟩)) (fun x => clash p.key u x.key) A len c Ls W0 hrow cb ((clash_any _ _ _).trans hcb) enter_may1 (fun W hW x hx b hb => may1_any _ _ x p u b W (hk1.below hW hk1.lt) (Blk.below hk0 hW (Blk.lt hk0)) ((hrow.below hW).ok x hx) ((hp.next hb0).next hW) hu0 hu1 hb))
      have HM := Lib.hid (show mayL (Ls.map Lo.key) p.key u = if cb then 141 else 0 by unfold mayL; rw [if_neg (by omega), hcb])
      clear h hp hk0 hk1 hb0 hrow hcb
      go_enter Try.func12, Try.ntmps12
      go_wp2_with fail
      rw [← HW.out]
      refine HC.out.mono ?_
      rintro r w1 ⟨rfl, h1⟩
      have HB1 := Lib.hid (HB.out.trans (h1.mono HB.out.size))
      clear h1
      cases cb
      all_goals
        go_wp2
        go_ret
        exact ⟨by rw [HM.out]; rfl, HB1.out⟩
end Go.Proofs.Ytfbhmamdckkimaa
