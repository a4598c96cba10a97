/- Counts: contracts of the program's methods (fine, Of, Add, Less, New): each does to the memory just what the counts say. -/
import Derived.Test.YtbekljgcbbhnbaaChecked
import Derived.Test.YtbekljgcbbhnbaaKit
import Derived.StillTailTactics
namespace Go.Proofs.Ytbekljgcbbhnbaa
open Go.RowKit Go.ChangeMaps Go.MapKept
open Go.Maps (Keyed)

theorem laidOut : laidOutB Try.prog = true := by kernel_rfl
theorem rowKey : 44 < Try.prog.types.size := of_decide_eq_true (by kernel_rfl)
theorem wideKey : (match Try.prog.underlying 44 with | some (.array _ _) | some (.struct _) => true | _ => false) = true := by kernel_rfl
theorem keyLaw : Keyed Try.prog 44 := Keyed.of_law (deep_law_laid laidOut (m := 2) (by omega) rowKey (by kernel_rfl) wideKey)
theorem keyType44 : Try.prog.keyType 44 = true := by kernel_rfl
theorem cells44 : Try.prog.cellsOf 44 = 2 := by kernel_rfl
theorem cells3 : Try.prog.cellsOf 3 = 1 := by kernel_rfl
theorem nTypes : ∃ m, Try.prog.types.size + 1 = m + 2 := ⟨Try.prog.types.size - 1, by have := rowKey; omega⟩
theorem key_of {i e : Int} (hi : (Lit.int .i64 i).wf = true) (he : (Lit.int .i64 e).wf = true) : ∃ l, keyOf Try.prog 44 (.agg #[.int .i64 i, .int .i64 e]) = some l := by
  obtain ⟨m, hm⟩ := nTypes
  refine ⟨.string (keyBytes [.int .i64 i, .int .i64 e]), ?_⟩
  unfold keyOf
  rw [Try.underlying44, hm]
  simp [keyType44, Value.formed, Try.underlying44, cells44, Value.cells, Program.keyLits, Try.underlying3, cells3, hi, he]
theorem zero3 (w : World) : (zeroValue 3).run Try.prog w = .ok (.int .i64 0) w := by kernel_rfl

/-- is it one of the two ends? -/
def fineB (e : Int) : Bool := e == 0 || e == 1

theorem fine_any (gc gm : Nat) (e : Int) (w : World) (h : Blk w gc 42 #[.map (some gm)]) :
    Calls Try.prog 16 #[.pointer (some ⟨gc, 0, none⟩), .int .i64 e] w fun r w' => r = .returned (.bool (fineB e)) ∧ w = w' := by
  have h0 := h.cell 0
  simp at h0
  have hn := fun (w : World) (r : Option Nat) => run_neq_map_nil (P := Try.prog) w 40 44 3 r Try.underlying40
  by_cases e0 : e = 0
  · subst e0
    go_enter Try.func16, Try.ntmps16
    go_wp2
    go_ret
    exact ⟨rfl, rfl⟩
  · by_cases e1 : e = 1
    · subst e1
      go_enter Try.func16, Try.ntmps16
      go_wp2
      go_ret
      exact ⟨rfl, rfl⟩
    · have hb : fineB e = false := by simp [fineB, e0, e1]
      have b0 : (e == 0) = false := by simpa using e0
      have b1 : (e == 1) = false := by simpa using e1
      rw [hb]
      clear hb
      go_enter Try.func16, Try.ntmps16
      go_wp2
      go_ret
      exact ⟨rfl, rfl⟩

/-- the struct that counts are stands at block gc, and answers c -/
def CIs (w : World) (gc gm N : Nat) (c : Int → Int → Int) : Prop :=
  ∃ f, Blk w gc 42 #[.map (some gm)] ∧ MapIs Try.prog 44 w gm N f ∧
    (∀ i e, (Lit.int .i64 i).wf = true → (Lit.int .i64 e).wf = true → (f (.agg #[.int .i64 i, .int .i64 e])).getD (.int .i64 0) = .int .i64 (c i e)) ∧
    (∀ i e, fineB e = false → c i e = 0) ∧ ∀ i e, 0 ≤ c i e ∧ c i e ≤ N

theorem of_any (gc gm N : Nat) (c : Int → Int → Int) (i e : Int) (w : World) (h : CIs w gc gm N c) (hi : (Lit.int .i64 i).wf = true) (he : (Lit.int .i64 e).wf = true) :
    Calls Try.prog 13 #[.pointer (some ⟨gc, 0, none⟩), .int .i64 i, .int .i64 e] w fun r w' => r = .returned (.int .i64 (c i e)) ∧ w = w' := by
  obtain ⟨f, hb, hm, hf, hz, _⟩ := h
  have h0 := hb.cell 0
  simp at h0
  obtain ⟨kl, hk⟩ := key_of hi he
  have hfie := hf i e hi he
  have hrun := hm.lookup keyLaw Try.underlying40 (zero3 w) hk false
  rw [hfie] at hrun
  simp at hrun
  have hzz := hz i e
  clear hf hfie hz
  by_cases hfine : fineB e = true
  · clear hzz
    have HF := Lib.hid hfine
    have hfb := fine_any gc gm e w hb
    rw [hfine] at hfb
    clear hfine
    go_enter Try.func13, Try.ntmps13
    go_wp2_with (go_at_call 16; refine hfb.mono ?_; rintro r w' ⟨rfl, rfl⟩)
    go_ret
    exact ⟨rfl, rfl⟩
  · have hff : fineB e = false := by simpa using hfine
    have hfb := fine_any gc gm e w hb
    rw [hff] at hfb
    have hc0 := Lib.hid (hzz hff)
    clear hfine hzz hrun hff
    go_enter Try.func13, Try.ntmps13
    go_wp2_with (go_at_call 16; refine hfb.mono ?_; rintro r w' ⟨rfl, rfl⟩)
    go_ret
    exact ⟨by rw [hc0.out]; rfl, rfl⟩

def setC (c : Int → Int → Int) (i e v : Int) : Int → Int → Int := fun a b => if a = i ∧ b = e then v else c a b

theorem CIs.set {w w' : World} {gc gm N N' : Nat} {c : Int → Int → Int} {f f' : Value → Option Value} {i e v : Int} (hb : Blk w gc 42 #[.map (some gm)]) (hm : MapIs Try.prog 44 w gm N f)
    (hf : ∀ i e, (Lit.int .i64 i).wf = true → (Lit.int .i64 e).wf = true → (f (.agg #[.int .i64 i, .int .i64 e])).getD (.int .i64 0) = .int .i64 (c i e))
    (hz : ∀ i e, fineB e = false → c i e = 0) (hc : ∀ i e, 0 ≤ c i e ∧ c i e ≤ N) (hg : w.grownBy w' (some gm)) (hm' : MapIs Try.prog 44 w' gm N' f')
    (hN : N ≤ N') (hfine : fineB e = true) (hv : 0 ≤ v ∧ v ≤ N') (hs : (f' (.agg #[.int .i64 i, .int .i64 e])).getD (.int .i64 0) = .int .i64 v)
    (ho : ∀ x, x ≠ .agg #[.int .i64 i, .int .i64 e] → f' x = f x) : CIs w' gc gm N' (setC c i e v) := by
  refine ⟨f', hb.grown hg (by have := hm.ne_blk hb; simpa using fun h => this h.symm), hm', ?_, ?_, ?_⟩
  · intro a b ha hb'
    unfold setC
    by_cases h : a = i ∧ b = e
    · obtain ⟨rfl, rfl⟩ := h
      rw [if_pos ⟨rfl, rfl⟩]; exact hs
    · rw [if_neg h, ho _ (by simpa using h)]; exact hf a b ha hb'
  · intro a b hab
    unfold setC
    by_cases h : a = i ∧ b = e
    · obtain ⟨rfl, rfl⟩ := h
      rw [hfine] at hab; cases hab
    · rw [if_neg h]; exact hz a b hab
  · intro a b
    unfold setC
    by_cases h : a = i ∧ b = e
    · rw [if_pos h]; exact hv
    · rw [if_neg h]; have := hc a b; omega

theorem add_any (gc gm N : Nat) (c : Int → Int → Int) (i e : Int) (w : World) (h : CIs w gc gm N c) (hi : (Lit.int .i64 i).wf = true) (he : (Lit.int .i64 e).wf = true) (hN : N ≤ 1000000) (hfine : fineB e = true) :
    Calls Try.prog 11 #[.pointer (some ⟨gc, 0, none⟩), .int .i64 i, .int .i64 e] w fun r w' => r = .returned (.int .i64 (c i e + 1)) ∧ CIs w' gc gm (N + 1) (setC c i e (c i e + 1)) ∧ w.grownBy w' (some gm) := by
  obtain ⟨f, hb, hm, hf, hz, hc⟩ := h
  have h0 := hb.cell 0
  simp at h0
  obtain ⟨kl, hk⟩ := key_of hi he
  have hfb := fine_any gc gm e w hb
  rw [hfine] at hfb
  have hfie := hf i e hi he
  have hcie := hc i e
  have hrun := hm.drew.lookup keyLaw Try.underlying40 (zero3 w.drew) hk false
  rw [hfie] at hrun
  simp at hrun
  have HF := Lib.hid hfine
  have HZ := Lib.hid hz
  have HFF := Lib.hid hf
  have HC := Lib.hid hc
  have HFIE := Lib.hid hfie
  clear hfine hz hf hfie hc
  have hmd := hm.drew
  obtain ⟨st, w1, hme, hat, hg1⟩ := hmd.entry keyLaw Try.underlying40 (zero3 w.drew) hk
  rw [HFIE.out] at hme hat
  have hl1 := hat.toIs.lookup keyLaw Try.underlying40 (zero3 w1) hk false
  rw [upd_same] at hl1
  obtain ⟨w2, hes, hm2, hg2⟩ := hat.store 40 (.int .i64 (c i e + 1))
  simp only [goInt] at hme hes
  simp at hl1
  have hC2 : CIs w2 gc gm (N + 1) (setC c i e (c i e + 1)) := by
    have hgg : w.grownBy w2 (some gm) := ⟨hg2.os.trans hg1.os, hg2.tape.trans hg1.tape, hg2.output.trans hg1.output, Nat.le_trans hg1.size hg2.size, fun k hk hne => (hg2.block k (Nat.lt_of_lt_of_le hk hg1.size) hne).trans (hg1.block k hk hne)⟩
    refine CIs.set hb hm HFF.out HZ.out HC.out hgg hm2 (by omega) HF.out ?_ (by rw [upd_same]; rfl) ?_
    · have := HC.out i e; omega
    · intro x hx; rw [upd_other _ _ hx, upd_other _ _ hx]
  have hgg : w.grownBy w2 (some gm) := ⟨hg2.os.trans hg1.os, hg2.tape.trans hg1.tape, hg2.output.trans hg1.output, Nat.le_trans hg1.size hg2.size, fun k hk hne => (hg2.block k (Nat.lt_of_lt_of_le hk hg1.size) hne).trans (hg1.block k hk hne)⟩
  have hof := of_any gc gm (N + 1) _ i e w2 hC2 hi he
  have HGG := Lib.hid hgg
  have HC2 := Lib.hid hC2
  have HOF := Lib.hid hof
  clear hm hmd hat hg1 hg2 hm2 hC2 hgg hof HC HFIE HFF HZ HF
  go_enter Try.func11, Try.ntmps11
  go_wp2_with (go_at_call 16; refine hfb.mono ?_; rintro r w' ⟨rfl, rfl⟩)
  go_region
  go_wp2_with (go_at_call 13; refine HOF.out.mono ?_; rintro r w' ⟨rfl, rfl⟩)
  go_ret
  refine ⟨?_, HC2.out, HGG.out⟩
  simp [setC]

theorem less_none (gc gm N : Nat) (c : Int → Int → Int) (i e : Int) (w : World) (h : CIs w gc gm N c) (hi : (Lit.int .i64 i).wf = true) (he : (Lit.int .i64 e).wf = true) (hn : c i e = 0) :
    Calls Try.prog 9 #[.pointer (some ⟨gc, 0, none⟩), .int .i64 i, .int .i64 e] w fun r w' => r = .returned (.tuple #[.int .i64 0, .bool false]) ∧ w = w' := by
  have hof := of_any gc gm N c i e w h hi he
  rw [hn] at hof
  clear hn h
  go_enter Try.func9, Try.ntmps9
  go_wp2_with (go_at_call 13; refine hof.mono ?_; rintro r w' ⟨rfl, rfl⟩)
  go_ret2
  exact ⟨rfl, rfl⟩

theorem less_some (gc gm N : Nat) (c : Int → Int → Int) (i e : Int) (w : World) (h : CIs w gc gm N c) (hi : (Lit.int .i64 i).wf = true) (he : (Lit.int .i64 e).wf = true) (hN : N ≤ 1000000) (hn : c i e ≠ 0) :
    Calls Try.prog 9 #[.pointer (some ⟨gc, 0, none⟩), .int .i64 i, .int .i64 e] w fun r w' => r = .returned (.tuple #[.int .i64 (c i e - 1), .bool true]) ∧ CIs w' gc gm (N + 1) (setC c i e (c i e - 1)) ∧ w.grownBy w' (some gm) := by
  have hof := of_any gc gm N c i e w h hi he
  obtain ⟨f, hb, hm, hf, hz, hc⟩ := h
  have h0 := hb.cell 0
  simp at h0
  obtain ⟨kl, hk⟩ := key_of hi he
  have hfine : fineB e = true := by
    cases hfe : fineB e
    · exact absurd (hz i e hfe) hn
    · rfl
  have hcie := hc i e
  by_cases h1 : c i e = 1
  · obtain ⟨w1, hrun, hm1, hg1⟩ := hm.delete keyLaw Try.underlying40 hk 0
    have hC := CIs.set (N' := N + 1) hb hm hf hz hc hg1 (hm1.mono (by omega)) (by omega) hfine (v := 0) (by omega) (by rw [upd_same]; rfl) (fun x hx => upd_other _ _ hx)
    rw [h1] at hof ⊢
    have HC := Lib.hid hC
    have HG := Lib.hid hg1
    clear hC hg1 hm1 hm hf hz hc hfine hcie h1 hn
    go_enter Try.func9, Try.ntmps9
    go_wp2_with (go_at_call 13; refine hof.mono ?_; rintro r w' ⟨rfl, rfl⟩)
    go_ret2
    exact ⟨rfl, HC.out, HG.out⟩
  · obtain ⟨w1, hrun, hm1, hg1⟩ := hm.update keyLaw Try.underlying40 hk (.int .i64 (c i e - 1))
    have hC := CIs.set hb hm hf hz hc hg1 hm1 (by omega) hfine (v := c i e - 1) (by omega) (by rw [upd_same]; rfl) (fun x hx => upd_other _ _ hx)
    obtain ⟨k, hck⟩ : ∃ k, k = c i e := ⟨_, rfl⟩
    rw [← hck] at hof hn h1 hcie hrun hC ⊢
    have HC := Lib.hid hC
    have HG := Lib.hid hg1
    have b0 : (k == 0) = false := by simpa using hn
    have b1 : (k == 1) = false := by simpa using h1
    clear hC hg1 hm1 hm hf hz hc hfine hck h1 hn
    obtain ⟨hk0, hk1⟩ := hcie
    go_enter Try.func9, Try.ntmps9
    go_wp2_with (go_at_call 13; refine hof.mono ?_; rintro r w' ⟨rfl, rfl⟩)
    go_ret2
    exact ⟨rfl, HC.out, HG.out⟩

theorem new_any (w : World) : Calls Try.prog 8 #[] w fun r w' => ∃ gc gm, r = .returned (.pointer (some ⟨gc, 0, none⟩)) ∧ CIs w' gc gm 0 (fun _ _ => 0) ∧ Below w.heap.size w w' ∧ w.heap.size ≤ gm ∧ w.heap.size ≤ gc := by
  have hmm := @run_makeMap Try.prog
  go_enter Try.func8, Try.ntmps8
  go_wp2
  go_ret
  refine ⟨w.heap.size + 1, w.heap.size, rfl, ⟨fun _ => none, ?_, (MapIs.made w _ _).alloc _, fun _ _ _ _ => rfl, fun _ _ _ => rfl, fun _ _ => ⟨Int.le_refl _, by simp⟩⟩, ?_, Nat.le_refl _, by omega⟩
  · have := Blk.new (w.alloc (.map #[] 0)) 42 #[.map (some w.heap.size)]
    rwa [World.size_alloc] at this
  · exact ((Below.refl _ _).alloc (Nat.le_refl _) _).alloc (by simp) _

/-- Of another end: nothing. -/
theorem add_no (gc gm N : Nat) (c : Int → Int → Int) (i e : Int) (w : World) (h : CIs w gc gm N c) (hfine : fineB e = false) :
    Calls Try.prog 11 #[.pointer (some ⟨gc, 0, none⟩), .int .i64 i, .int .i64 e] w fun r w' => r = .returned (.int .i64 0) ∧ w = w' := by
  obtain ⟨f, hb, _, _, _, _⟩ := h
  have hfb := fine_any gc gm e w hb
  rw [hfine] at hfb
  clear hfine
  go_enter Try.func11, Try.ntmps11
  go_wp2_with (go_at_call 16; refine hfb.mono ?_; rintro r w' ⟨rfl, rfl⟩)
  go_ret
  exact ⟨rfl, rfl⟩

/-! ### one contract a method, for every end -/
def addR (c : Int → Int → Int) (i e : Int) : Int := if fineB e then c i e + 1 else 0
def addS (c : Int → Int → Int) (i e : Int) : Int → Int → Int := if fineB e then setC c i e (c i e + 1) else c
def lessR (c : Int → Int → Int) (i e : Int) : Int := if c i e = 0 then 0 else c i e - 1
def lessB (c : Int → Int → Int) (i e : Int) : Bool := if c i e = 0 then false else true
def lessS (c : Int → Int → Int) (i e : Int) : Int → Int → Int := if c i e = 0 then c else setC c i e (c i e - 1)

theorem CIs.mono {w : World} {gc gm N N' : Nat} {c : Int → Int → Int} (h : CIs w gc gm N c) (hN : N ≤ N') : CIs w gc gm N' c := by
  obtain ⟨f, hb, hm, hf, hz, hc⟩ := h
  exact ⟨f, hb, hm.mono hN, hf, hz, fun i e => by have := hc i e; omega⟩
theorem CIs.kept {w w' : World} {gc gm N : Nat} {c : Int → Int → Int} (h : CIs w gc gm N c) (h1 : w'.heap[gc]? = w.heap[gc]?) (h2 : w'.heap[gm]? = w.heap[gm]?) : CIs w' gc gm N c := by
  obtain ⟨f, hb, hm, hf, hz, hc⟩ := h
  exact ⟨f, h1.trans hb, hm.of_block h2, hf, hz, hc⟩
theorem CIs.drew {w : World} {gc gm N : Nat} {c : Int → Int → Int} (h : CIs w gc gm N c) : CIs w.drew gc gm N c := h.kept rfl rfl
theorem CIs.drewN {w : World} {gc gm N : Nat} {c : Int → Int → Int} (h : CIs w gc gm N c) (n : Nat) : CIs (w.drewN n) gc gm N c := h.kept rfl rfl
theorem CIs.nonneg {w : World} {gc gm N : Nat} {c : Int → Int → Int} (h : CIs w gc gm N c) (i e : Int) : 0 ≤ c i e ∧ c i e ≤ N := by
  obtain ⟨f, hb, hm, hf, hz, hc⟩ := h
  exact hc i e
theorem CIs.lt {w : World} {gc gm N : Nat} {c : Int → Int → Int} (h : CIs w gc gm N c) : gc < w.heap.size ∧ gm < w.heap.size := by
  obtain ⟨f, hb, hm, _⟩ := h
  exact ⟨hb.lt, hm.lt⟩
theorem CIs.below {w w' : World} {B gc gm N : Nat} {c : Int → Int → Int} (h : CIs w gc gm N c) (hb : Below B w w') (h1 : gc < B) (h2 : gm < B) : CIs w' gc gm N c := h.kept (hb.block gc h1) (hb.block gm h2)

theorem add_all {gc gm N : Nat} {c : Int → Int → Int} (c' : Int → Int → Int) {i e : Int} (v : Int) {w : World} (h : CIs w gc gm N c) (hi : (Lit.int .i64 i).wf = true) (he : (Lit.int .i64 e).wf = true) (hN : N ≤ 1000000)
    (hv : addR c i e = v) (hc' : addS c i e = c') :
    Calls Try.prog 11 #[.pointer (some ⟨gc, 0, none⟩), .int .i64 i, .int .i64 e] w fun r w' => r = .returned (.int .i64 v) ∧ CIs w' gc gm (N + 1) c' ∧ w.grownBy w' (some gm) := by
  subst hv hc'
  unfold addR addS
  cases hf : fineB e
  · exact (add_no gc gm N c i e w h hf).mono fun r w' ⟨h1, h2⟩ => by subst h2; exact ⟨h1, h.mono (by omega), World.grownBy.refl _ _⟩
  · exact add_any gc gm N c i e w h hi he hN hf
theorem less_all {gc gm N : Nat} {c : Int → Int → Int} (c' : Int → Int → Int) {i e : Int} (v : Int) (b : Bool) {w : World} (h : CIs w gc gm N c) (hi : (Lit.int .i64 i).wf = true) (he : (Lit.int .i64 e).wf = true) (hN : N ≤ 1000000)
    (hv : lessR c i e = v) (hb : lessB c i e = b) (hc' : lessS c i e = c') :
    Calls Try.prog 9 #[.pointer (some ⟨gc, 0, none⟩), .int .i64 i, .int .i64 e] w fun r w' => r = .returned (.tuple #[.int .i64 v, .bool b]) ∧ CIs w' gc gm (N + 1) c' ∧ w.grownBy w' (some gm) := by
  subst hv hb hc'
  unfold lessR lessB lessS
  by_cases h0 : c i e = 0
  · simp only [if_pos h0]
    exact (less_none gc gm N c i e w h hi he h0).mono fun r w' ⟨h1, h2⟩ => by subst h2; exact ⟨h1, h.mono (by omega), World.grownBy.refl _ _⟩
  · simp only [if_neg h0]
    exact less_some gc gm N c i e w h hi he hN h0
theorem of_all {gc gm N : Nat} {c : Int → Int → Int} {i e : Int} (v : Int) {w : World} (h : CIs w gc gm N c) (hi : (Lit.int .i64 i).wf = true) (he : (Lit.int .i64 e).wf = true) (hv : c i e = v) :
    Calls Try.prog 13 #[.pointer (some ⟨gc, 0, none⟩), .int .i64 i, .int .i64 e] w fun r w' => r = .returned (.int .i64 v) ∧ w = w' := by
  subst hv
  exact of_any gc gm N c i e w h hi he

theorem below_step {gm : Nat} {w a b : World} (h : Below w.heap.size w a) (hg : a.grownBy b (some gm)) (hgm : w.heap.size ≤ gm) : Below w.heap.size w b := h.grown hg h.size (fun k e => by cases e; exact hgm)

end Go.Proofs.Ytbekljgcbbhnbaa
