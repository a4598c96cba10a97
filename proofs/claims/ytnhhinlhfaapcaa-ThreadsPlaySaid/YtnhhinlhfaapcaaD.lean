/- Threads: contracts of End, Open, New. -/
import Derived.Test.YtnhhinlhfaapcaaC
import Derived.Deep.RegionLawGrows
import Derived.Deep.DeepCutAuto
namespace Go.Proofs.Ytnhhinlhfaapcaa
open Go.RowKit
set_option linter.unusedVariables false
set_option linter.unusedSimpArgs false

theorem info29 : (Try.prog.info? 29).map (fun i => (i.zero, i.size, i.bytes)) = some (some (.slice none 0 0), 1, 24) := by kernel_rfl
theorem TabR.drew_ {w : World} {B g : Nat} {t : Tab} (h : TabR w B g t) : TabR w.drew B g t := h.below (Below.refl _ _).drew
theorem TabX.uniq {W : World} {B g : Nat} {v v' : Value} {S S' : Nat → Value} {C C' : Nat → Nat → Value} {t t' : Tab} (h : TabX W B g v S C t) (h' : TabX W B g v' S' C' t') :
    t.n = t'.n ∧ ∀ i, i < t.n → dep t i = dep t' i ∧ ∀ k, k < dep t i → C i k = C' i k := by
  have e1 : v = v' := Option.some.inj (h.box.symm.trans h'.box)
  subst e1
  obtain ⟨gl, cl, rfl⟩ := h.l
  obtain ⟨gl', cl', e2⟩ := h'.l
  rw [Value.slice.injEq, Option.some.injEq, Addr.mk.injEq] at e2
  obtain ⟨⟨rfl, _⟩, e2, rfl⟩ := e2
  refine ⟨e2, fun i hi => ?_⟩
  have hi' : i < t'.n := by omega
  have h'' : TabX W B g (.slice (some ⟨gl, 0, none⟩) t'.n cl) S' C' t' := by rw [← e2]; exact h'
  have c1 := (h''.cells hi').2.2.2
  have c2 := (h.cells hi).2.2.2
  have e3 : S i = S' i := Option.some.inj (c2.symm.trans c1)
  obtain ⟨A, cap, e4, _⟩ := h.sform hi
  obtain ⟨A', cap', e5, _⟩ := h'.sform hi'
  rw [e3, e5, Value.slice.injEq] at e4
  refine ⟨e4.2.1.symm, fun k hk => ?_⟩
  have r1 := h.os i hi
  have r2 := h'.os i hi'
  obtain ⟨gs, cs, e6⟩ := r1.form (by omega)
  rw [← e3, ← e4.2.1.symm] at r2
  rw [e6] at r1 r2
  have k1 := r1.cell hk
  have k2 := r2.cell hk
  rw [List.getElem?_map, List.getElem?_range hk] at k1 k2
  exact Option.some.inj (k1.symm.trans k2)
/-- no row of threads of the table is one of F -/
def Safe (F : Nat → Prop) (W : World) (B g : Nat) : Prop := ∀ t v S C, TabX W B g v S C t → ∀ i k q, i < t.n → k < dep t i → (C i k).ownBlock = some q → ¬ F q
/-- a block of a type that is none of a table's own, rows of numbers apart -/
def TyF (W : World) (q : Nat) : Prop := ∃ e, Ty W q e ∧ e ≠ 56 ∧ e ≠ 60 ∧ e ≠ 29
theorem TyF.n {W : World} {q p : Nat} {e' : TypeId} (h : TyF W q) (h' : Ty W p e') (he : e' = 56 ∨ e' = 60 ∨ e' = 29) : q ≠ p := by
  obtain ⟨e, h1, h2, h3, h4⟩ := h
  exact h1.ne h' (by rcases he with rfl | rfl | rfl <;> assumption)
/-- blocks that are none of the table's are kept -/
def Kpt (w : World) (B g : Nat) (w' : World) : Prop := ∀ F : Nat → Prop, (∀ q, F q → TyF w q) → Safe F w B g → (∀ q, F q → w'.heap[q]? = w.heap[q]?) ∧ Safe F w' B g
theorem Ty.lt {W : World} {q : Nat} {e : TypeId} (h : Ty W q e) : q < W.heap.size := by
  obtain ⟨cur, r, h⟩ := h
  exact (Array.getElem?_eq_some_iff.1 h).1
theorem TyF.lt {W : World} {q : Nat} (h : TyF W q) : q < W.heap.size := by
  obtain ⟨e, h, _⟩ := h
  exact h.lt
theorem Kpt.of {w w' : World} {B g : Nat} {v v' : Value} {S S' : Nat → Value} {C C' : Nat → Nat → Value} {t t' : Tab} (hx : TabX w B g v S C t) (hx' : TabX w' B g v' S' C' t')
    (hk : ∀ q, TyF w q → (∀ i k, i < t.n → k < dep t i → (C i k).ownBlock ≠ some q) → w'.heap[q]? = w.heap[q]?)
    (hC : ∀ i k q, i < t'.n → k < dep t' i → (C' i k).ownBlock = some q → (∃ i0 k0, i0 < t.n ∧ k0 < dep t i0 ∧ (C i0 k0).ownBlock = some q) ∨ w.heap.size ≤ q) : Kpt w B g w' := by
  intro F hF hs
  refine ⟨fun q hq => hk q (hF q hq) (fun i k hi hk e => hs t v S C hx i k q hi hk e hq), fun t2 v2 S2 C2 hx2 i k q hi hk e hq => ?_⟩
  obtain ⟨e1, e2⟩ := hx'.uniq hx2
  obtain ⟨e3, e4⟩ := e2 i (by omega)
  rw [← e4 k (by omega)] at e
  rcases hC i k q (by omega) (by omega) e with ⟨i0, k0, hi0, hk0, e0⟩ | h
  · exact hs t v S C hx i0 k0 q hi0 hk0 e0 hq
  · have := (hF q hq).lt
    omega
theorem Kpt.same {w w' : World} {B g : Nat} {t : Tab} (h : TabR w B g t) (hb : Below w.heap.size w w') : Kpt w B g w' := by
  obtain ⟨v, S, C, hx⟩ := h
  exact Kpt.of hx (hx.below hb) (fun q hq _ => hb.block q hq.lt) (fun i k q hi hk e => .inl ⟨i, k, hi, hk, e⟩)
theorem Kpt.trans {w w1 w2 : World} {B g : Nat} (h : Kpt w B g w1) (h' : Kpt w1 B g w2) : Kpt w B g w2 := by
  intro F hF hs
  obtain ⟨a, b⟩ := h F hF hs
  obtain ⟨c, d⟩ := h' F (fun q hq => by obtain ⟨e0, ⟨cur, r, e⟩, h1⟩ := hF q hq; exact ⟨e0, ⟨cur, r, (a q hq).trans e⟩, h1⟩) b
  exact ⟨fun q hq => (c q hq).trans (a q hq), d⟩
/-- what a call leaves -/
def Left (w : World) (B g : Nat) (t : Tab) (w' : World) : Prop := TabR w' B g t ∧ Below B w w' ∧ Kpt w B g w'
theorem Left.same {w w' : World} {B g : Nat} {t : Tab} (h : TabR w B g t) (hb : Below w.heap.size w w') : Left w B g t w' := by
  have hk := Kpt.same h hb
  obtain ⟨v, S, C, hx⟩ := h
  exact ⟨⟨v, S, C, hx.below hb⟩, hb.mono (Nat.le_trans hx.hB (Nat.le_of_lt hx.lt)), hk⟩
theorem Left.dr {w w' : World} {B g : Nat} {t : Tab} (h : Left w B g t w') : Left w B g t w'.drew :=
  ⟨h.1.drew_, h.2.1.drew, h.2.2.trans (Kpt.same h.1 (Below.refl _ _).drew)⟩
theorem heap_set_tf {w : World} {q gl o : Nat} {u : Value} {e' : TypeId} (hq : TyF w q) (hg : Ty w gl e') (he : e' = 56 ∨ e' = 60 ∨ e' = 29) : (w.setCell ⟨gl, o, none⟩ u).heap[q]? = w.heap[q]? :=
  Below.heap_setCell w ⟨gl, o, none⟩ u q (hq.n hg he)
theorem Ty.set_ {w : World} {q p o : Nat} {u : Value} {e : TypeId} (hq : Ty w q e) : Ty (w.setCell ⟨p, o, none⟩ u) q e := by
  obtain ⟨cur, r, h⟩ := hq
  by_cases e1 : q = p
  · subst e1
    obtain ⟨hlt, hk⟩ := Array.getElem?_eq_some_iff.1 h
    refine ⟨cur.setIfInBounds o u, r, ?_⟩
    show (w.heap.modify q _)[q]? = _
    rw [Array.getElem?_eq_getElem (by rw [Array.size_modify]; exact hlt), Array.getElem_modify_self, hk]
    rfl
  · exact ⟨cur, r, (Below.heap_setCell w ⟨p, o, none⟩ u q e1).trans h⟩
theorem TyF.set_ {w : World} {q p o : Nat} {u : Value} (hq : TyF w q) : TyF (w.setCell ⟨p, o, none⟩ u) q := by
  obtain ⟨e, h1, h2⟩ := hq
  exact ⟨e, h1.set_, h2⟩
theorem Kpt.ended {w w' : World} {B g gl cl i o o' : Nat} {S : Nat → Value} {C : Nat → Nat → Value} {t : Tab} {u u' : Value} {p : Bool} (hx : TabX w B g (.slice (some ⟨gl, 0, none⟩) t.n cl) S C t) (e : w' = (w.setCell ⟨gl, o, none⟩ u).setCell ⟨gl, o', none⟩ u') (hx' : TabX w' B g (.slice (some ⟨gl, 0, none⟩) t.n cl) S C (endT t i p)) : Kpt w B g w' := by
  have hd : ∀ j, dep (endT t i p) j = dep t j := by
    intro j
    unfold dep endT setTh
    show (if j = i then _ else _ : Th).scopes.length = _
    split
    · rename_i e; subst e; rfl
    · rfl
  refine Kpt.of hx hx' (fun q hq _ => ?_) (fun j k q hj hk e => .inl ⟨j, k, hj, by rw [← hd]; exact hk, e⟩)
  subst e
  exact (heap_set_tf hq.set_ hx.tl.set_ (by decide)).trans (heap_set_tf hq hx.tl (by decide))
theorem refB_no {t : Tab} {n k : Int} (h : refB t n k = false) : ∃ i : Nat, n = (i : Int) ∧ i < t.n ∧ (t.th i).ended = false ∧ k ≤ (dep t i : Int) := by
  unfold refB at h
  rw [Bool.or_eq_false_iff, Bool.or_eq_false_iff] at h
  obtain ⟨⟨h1, h2⟩, h3⟩ := h
  rcases has_cases t n with hn | ⟨i, rfl, hi⟩
  · rw [hn] at h1; cases h1
  · rw [at_in hi] at h2 h3
    exact ⟨i, rfl, hi, h2, by have := of_decide_eq_false h3; unfold dep; omega⟩
def endBad (t : Tab) (n : Int) : Bool := refB t n 0 || decide (0 < (at_ t n).scopes.length)
def endF (t : Tab) (n : Int) (p : Bool) : Tab := if endBad t n then t else endT t n.toNat p
set_option maxHeartbeats 3200000 in
theorem end_any (g B : Nat) (t : Tab) (n : Int) (p : Bool) (w : World) (h : TabR w B g t) :
    Calls Try.prog 19 #[.pointer (some ⟨g, 0, none⟩), .int .i64 n, .bool p] w fun r w' => r = .returned (.int .i64 (if endBad t n then 2 else 0)) ∧ Left w B g (endF t n p) w' := by
  cases hr : refB t n 0
  rotate_left
  · have HF := Lib.hid (refuse_any g B t n 0 w h 2 (by rw [hr]; rfl))
    have HE := Lib.hid (show endBad t n = true by unfold endBad; rw [hr]; rfl)
    have HL := Lib.hid (show Left w B g (endF t n p) w by unfold endF; rw [HE.out]; exact Left.same h (Below.refl _ _))
    rw [HE.out]
    clear h hr
    go_enter Try.func19, Try.ntmps19
    go_wp2_with fail
    refine HF.out.mono ?_
    rintro r w1 ⟨rfl, rfl⟩
    go_wp2
    go_ret
    exact ⟨rfl, HL.out⟩
  · have HF := Lib.hid (refuse_any g B t n 0 w h 0 (by rw [hr]; rfl))
    obtain ⟨i, rfl, hi, _, _⟩ := refB_no hr
    have hEB : endBad t i = decide (0 < dep t i) := by unfold endBad; rw [hr, at_in hi]; rfl
    obtain ⟨v, S, C, hx⟩ := h
    obtain ⟨gl, cl, rfl⟩ := hx.l
    have c0 := hx.box
    obtain ⟨d0, d1, d2, d3⟩ := hx.cells hi
    obtain ⟨As, cs, hs, hs1, hs2, hs3⟩ := hx.sform hi
    rw [hs] at d3
    have fz := hx.ol.frozenAt
    have f1 := fz (i * 4 + 1)
    have f2 := fz (i * 4 + 2)
    have hiI : (i : Int) < (t.n : Int) := by omega
    have hi0 : (0 : Int) ≤ (i : Int) := by omega
    have HX := Lib.hid hx
    have HI := Lib.hid hi
    obtain ⟨ln, hln⟩ : ∃ m, dep t i = m := ⟨_, rfl⟩
    rw [hln] at d3 hEB
    obtain ⟨xe, hxe⟩ : ∃ x, (t.th i).ended = x := ⟨_, rfl⟩
    obtain ⟨xp, hxp⟩ : ∃ x, (t.th i).panicked = x := ⟨_, rfl⟩
    rw [hxe] at d1
    rw [hxp] at d2
    have HGL := Lib.hid (hx.ol.lt gl rfl).1
    clear hx hs hs1 hs2 hs3 fz hr hln hxe hxp d0
    by_cases hl : 0 < ln
    · have hlI : (0 : Int) < (ln : Int) := by omega
      have HE := Lib.hid (show endBad t i = true by rw [hEB, decide_eq_true hl])
      have HL := Lib.hid (show Left w B g (endF t i p) w by unfold endF; rw [HE.out]; exact Left.same ⟨_, _, _, HX.out⟩ (Below.refl _ _))
      rw [HE.out]
      clear hEB
      go_enter Try.func19, Try.ntmps19
      go_wp2_with fail
      refine HF.out.mono ?_
      rintro r w1 ⟨rfl, rfl⟩
      go_wp2
      go_ret
      exact ⟨rfl, HL.out⟩
    · have hlI : ¬ (0 : Int) < (ln : Int) := by omega
      have HE := Lib.hid (show endBad t i = false by rw [hEB, decide_eq_false hl])
      have HT := Lib.hid (show endF t i p = endT t i p by unfold endF; rw [HE.out]; rfl)
      rw [HE.out, HT.out]
      clear hEB
      have HL1 := Lib.hid (show Left w B g (endT t i p) ((w.setCell ⟨gl, i * 4 + 1, none⟩ (.bool true)).setCell ⟨gl, i * 4 + 2, none⟩ (.bool p)) from ⟨⟨_, _, _, HX.out.ended HI.out p⟩, ((Below.refl B w).setCell (p := ⟨gl, i * 4 + 1, none⟩) HGL.out _).setCell (p := ⟨gl, i * 4 + 2, none⟩) HGL.out _, Kpt.ended HX.out rfl (HX.out.ended HI.out p)⟩)
      have HL2 := Lib.hid (show Left w B g (endT t i p) ((w.setCell ⟨gl, i * 4 + 2, none⟩ (.bool p)).setCell ⟨gl, i * 4 + 1, none⟩ (.bool true)) from ⟨⟨_, _, _, HX.out.endedr HI.out p⟩, ((Below.refl B w).setCell (p := ⟨gl, i * 4 + 2, none⟩) HGL.out _).setCell (p := ⟨gl, i * 4 + 1, none⟩) HGL.out _, Kpt.ended HX.out rfl (HX.out.endedr HI.out p)⟩)
      go_enter Try.func19, Try.ntmps19
      go_wp2_with fail
      refine HF.out.mono ?_
      rintro r w1 ⟨rfl, rfl⟩
      go_upto_region 5 with fail
      go_region
      all_goals
        go_wp2
        go_ret
        first
          | exact ⟨rfl, HL1.out⟩
          | exact ⟨rfl, HL2.out⟩
          | exact ⟨rfl, HL1.out.dr⟩
          | exact ⟨rfl, HL2.out.dr⟩
/-- Open -/
theorem open_left {w W w' : World} {B g gl cl i : Nat} {S : Nat → Value} {C : Nat → Nat → Value} {t : Tab} {nv : Value} (hx : TabX w B g (.slice (some ⟨gl, 0, none⟩) t.n cl) S C t) (hi : i < t.n) (hb : Below w.heap.size w W) (hg : W.grownBy w' none)
    (hown : w'.ownsRow W.heap.size 29 1 nv (dep t i + 1) ((List.range (dep t i)).map (C i) ++ [.slice none 0 0])) :
    Left w B g (openT t i) (w'.setCell ⟨gl, i * 4 + 3, none⟩ nv) ∧ w'.cell? ⟨g, 0, none⟩ = some (.slice (some ⟨gl, 0, none⟩) t.n cl) ∧ w'.cell? ⟨gl, i * 4 + 3, none⟩ = some (S i) ∧ w'.frozen? ⟨gl, i * 4 + 3, none⟩ = false := by
  have hbw : Below w.heap.size w w' := hb.grown hg hb.size (by simp)
  have hx' := hx.below hbw
  have hBw : B ≤ w.heap.size := Nat.le_trans hx.hB (Nat.le_of_lt hx.lt)
  have hop := hx'.opened hi (Nat.le_trans hBw hb.size) (fun j q hj hq => Nat.lt_of_lt_of_le ((hx.os j hj).lt q hq).2 hb.size) hown
  refine ⟨⟨⟨_, _, _, hop⟩, (hbw.mono hBw).setCell (p := ⟨gl, i * 4 + 3, none⟩) (hx.ol.lt gl rfl).1 nv, Kpt.of hx hop (fun q hq _ => ?_) (fun j k q hj hk e => ?_)⟩, hx'.box, (hx'.cells hi).2.2.2, hx'.ol.frozenAt _⟩
  · refine (Below.heap_setCell w' ⟨gl, i * 4 + 3, none⟩ nv q (hq.n hx.tl (by decide))).trans (hbw.block q hq.lt)
  · left
    have hj' : j < t.n := hj
    unfold updC at e
    split at e
    · cases e
    · rename_i hne
      refine ⟨j, k, hj', ?_, e⟩
      have hk' : k < ((openT t i).th j).scopes.length := hk
      unfold openT setTh at hk'
      show k < (t.th j).scopes.length
      by_cases ej : j = i
      · subst ej
        have hk2 : k < ((t.th j).scopes ++ [[]]).length := by simpa using hk'
        simp at hk2
        have : ¬ (j = j ∧ k = (t.th j).scopes.length) := hne
        omega
      · have hk2 : k < (if j = i then _ else t.th j : Th).scopes.length := hk'
        rw [if_neg ej] at hk2
        exact hk2
theorem bel_da (w : World) (o : Obj) : Below w.heap.size w (w.drew.alloc o) := ((Below.refl _ w).drew).alloc (Nat.le_refl _) o
theorem bel_ad (w : World) (o : Obj) : Below w.heap.size w (w.alloc o).drew := ((Below.refl _ w).alloc (Nat.le_refl _) o).drew
theorem cell_nil_ad (w : World) : ∀ j u, [Value.slice none 0 0][j]? = some u → ((w.alloc (.cells #[.slice none 0 0] 29)).drew).cell? ((⟨w.heap.size, 0, none⟩ : Addr).add j) = some u := cell_one_new w (.slice none 0 0) 29
theorem cell_nil_da (w : World) : ∀ j u, [Value.slice none 0 0][j]? = some u → (w.drew.alloc (.cells #[.slice none 0 0] 29)).cell? ((⟨w.heap.size, 0, none⟩ : Addr).add j) = some u := cell_one_new w.drew (.slice none 0 0) 29
theorem RowS.hold {w W : World} {B e n c : Nat} {A : Option Addr} {xs : List Value} (h : RowS w B e (.slice A n c) n xs) (hb : Below w.heap.size w W) : ∀ b, A = some b → ∀ j u, xs[j]? = some u → W.cell? (b.add j) = some u := by
  rintro b rfl j u hu
  have h' := h.below hb
  have hj : j < n := by
    rw [← h.1]
    exact (List.getElem?_eq_some_iff.1 hu).1
  obtain ⟨q, cap, e1⟩ := h'.form (by omega)
  rw [Value.slice.injEq, Option.some.injEq] at e1
  obtain ⟨rfl, _, rfl⟩ := e1
  have hc := h'.cell hj
  rw [hu] at hc
  rw [Addr.add_lit, Nat.zero_add]
  exact hc
def opnF (t : Tab) (n : Int) : Tab := if refB t n 0 then t else openT t n.toNat
set_option maxHeartbeats 6400000 in
theorem open_any (g B : Nat) (t : Tab) (n : Int) (w : World) (h : TabR w B g t) (hd : ∀ i, i < t.n → dep t i ≤ 1000000) :
    Calls Try.prog 20 #[.pointer (some ⟨g, 0, none⟩), .int .i64 n] w fun r w' => r = .returned (.int .i64 (if refB t n 0 then 2 else 0)) ∧ Left w B g (opnF t n) w' := by
  cases hr : refB t n 0
  rotate_left
  · have HF := Lib.hid (refuse_any g B t n 0 w h 2 (by rw [hr]; rfl))
    have HL := Lib.hid (show Left w B g (opnF t n) w by unfold opnF; rw [hr]; exact Left.same h (Below.refl _ _))
    clear h hr
    go_enter Try.func20, Try.ntmps20
    go_wp2_with fail
    refine HF.out.mono ?_
    rintro r w1 ⟨rfl, rfl⟩
    go_wp2
    go_ret
    exact ⟨rfl, HL.out⟩
  · have HF := Lib.hid (refuse_any g B t n 0 w h 0 (by rw [hr]; rfl))
    obtain ⟨i, rfl, hi, _, _⟩ := refB_no hr
    have hdi := hd i hi
    have HT := Lib.hid (show opnF t i = openT t i by unfold opnF; rw [hr]; rfl)
    rw [HT.out]
    obtain ⟨j0, hj0, hy0, hy1, hy2⟩ := info_parts info29
    obtain ⟨v, S, C, hx⟩ := h
    obtain ⟨gl, cl, rfl⟩ := hx.l
    have c0 := hx.box
    obtain ⟨d0, d1, d2, d3⟩ := hx.cells hi
    obtain ⟨As, cs, hs, hs1, hs2, hs3⟩ := hx.sform hi
    rw [hs] at d3
    have hiI : (i : Int) < (t.n : Int) := by omega
    have hi0 : (0 : Int) ≤ (i : Int) := by omega
    have HX := Lib.hid hx
    have HI := Lib.hid hi
    have HS := Lib.hid hs
    obtain ⟨ln, hln⟩ : ∃ m, dep t i = m := ⟨_, rfl⟩
    rw [hln] at d3 hs1 hdi
    have HLN := Lib.hid hln
    have HGL := Lib.hid (hx.ol.lt gl rfl).1
    have hrow := hx.os i hi
    rw [hs, hln] at hrow
    have HROW := Lib.hid hrow
    have hcap : (ln : Int) ≤ (cs : Int) := by omega
    clear hx hs hr hln hrow d0 d1 d2 hd
    go_enter Try.func20, Try.ntmps20
    go_wp2_with fail
    refine HF.out.mono ?_
    rintro r w1 ⟨rfl, rfl⟩
    go_upto_region 4 with fail
    have HNO := Lib.hid (show As = none → ln = 0 ∧ ln = 0 by
      intro e
      have := hs2 e
      omega)
    have HLO := Lib.hid (show ((List.range ln).map (C i)).length = ln * 1 by simp)
    have HHO := Lib.hid (fun W (hb : Below w.heap.size w W) => HROW.out.hold hb)
    have HOL := Lib.hid (fun W w' nv (hb : Below w.heap.size w W) (hg : W.grownBy w' none) (hown : w'.ownsRow W.heap.size 29 1 nv (ln + 1) ((List.range ln).map (C i) ++ [.slice none 0 0])) => open_left (nv := nv) HX.out HI.out hb hg (by rw [HLN.out]; exact hown))
    clear hs2 hs3
    have c0a : (w.alloc (.cells #[.slice none 0 0] 29)).cell? ⟨g, 0, none⟩ = some (.slice (some ⟨gl, 0, none⟩) t.n cl) := (HX.out.below ((Below.refl _ _).alloc (Nat.le_refl _) _)).box
    have c0b : (w.drew.alloc (.cells #[.slice none 0 0] 29)).cell? ⟨g, 0, none⟩ = some (.slice (some ⟨gl, 0, none⟩) t.n cl) := (HX.out.below (bel_da _ _)).box
    go_region_law (refine step_append_grows rfl (.tmp 30) (.tmp 31) 58 rfl 29 j0 (.slice none 0 0) 1 24 Try.underlying58 hj0 hy0 hy1 hy2 rfl (by decide) As ln ln ((List.range ln).map (C i)) (by simp [Act.eval, Act.put]) HNO.out HLO.out (HHO.out _ (by first | exact bel_da _ _ | exact bel_ad _ _)) ⟨w.heap.size, 0, none⟩ 1 1 [.slice none 0 0] (by simp [Act.eval, Act.put]) rfl (by first | exact cell_nil_da _ | exact cell_nil_ad _) (by intro u hu; simp at hu; subst hu; rfl) (by omega) (by unfold maxLen; omega) (by omega) ?_; intro v' w' hown hgrow; obtain ⟨hLF, c0, d3, f3⟩ := HOL.out _ _ v' (by first | exact bel_da _ _ | exact bel_ad _ _) hgrow hown; rw [HS.out] at d3; obtain ⟨g', cap', rfl⟩ := own_succ hown)
    all_goals
      have HLF := Lib.hid hLF
      clear c0 d3 f3 hLF hown hgrow c0a c0b
      go_wp2
      go_ret
      exact ⟨rfl, HLF.out⟩
/-- New -/
def newT : Tab := ⟨1, fun _ => noTh⟩
theorem new_tab (w : World) : TabR ((w.alloc (.cells #[.int .i64 (-1), .bool false, .bool false, .slice none 0 0] 60)).alloc (.cells #[.slice (some ⟨w.heap.size, 0, none⟩) 1 1] 56)) w.heap.size (w.heap.size + 1) newT := by
  have h := World.ownsRow_lit (base := w.heap.size) (e := 60) (size := 4) w #[.int .i64 (-1), .bool false, .bool false, .slice none 0 0] 1 (Nat.le_refl _) (by unfold maxLen; omega) rfl
  refine ⟨.slice (some ⟨w.heap.size, 0, none⟩) 1 1, fun _ => .slice none 0 0, fun _ _ => .slice none 0 0, by omega, Nat.zero_lt_one, ?_, h.alloc _, fun i hi => ?_, fun i k hi hk => ?_, fun i j q hi hj => ?_, fun i k j m q hi hk => ?_⟩
  · have hb := Blk.new (w.alloc (.cells #[.int .i64 (-1), .bool false, .bool false, .slice none 0 0] 60)) 56 #[.slice (some ⟨w.heap.size, 0, none⟩) 1 1]
    rw [World.size_alloc] at hb
    exact hb
  · exact RowS.of (World.ownsRow_nil _ _ _ _)
  · exact absurd hk (Nat.not_lt_zero _)
  · intro _ _
    have h1 : i < 1 := hi
    have h2 : j < 1 := hj
    omega
  · exact absurd hk (Nat.not_lt_zero _)
theorem new_any (w : World) : Calls Try.prog 10 #[] w fun r w' => r = .returned (.pointer (some ⟨w.heap.size + 1, 0, none⟩)) ∧ TabR w' w.heap.size (w.heap.size + 1) newT ∧ Below w.heap.size w w' := by
  have HN := Lib.hid (new_tab w)
  have HB := Lib.hid (((Below.refl w.heap.size w).alloc (Nat.le_refl _) (.cells #[.int .i64 (-1), .bool false, .bool false, .slice none 0 0] 60)).alloc (by simp) (.cells #[.slice (some ⟨w.heap.size, 0, none⟩) 1 1] 56))
  go_enter Try.func10, Try.ntmps10
  go_wp2
  go_ret
  exact ⟨rfl, HN.out, HB.out⟩
end Go.Proofs.Ytnhhinlhfaapcaa

