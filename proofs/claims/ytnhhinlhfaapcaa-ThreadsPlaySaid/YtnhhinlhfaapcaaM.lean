/- Threads: slices.AppendSeq over members; Collect, Members. -/
import Derived.Test.YtnhhinlhfaapcaaK
import Derived.Maps.OwnIn
namespace Go.Proofs.Ytnhhinlhfaapcaa
open Go.RowKit Go.Shelf
set_option linter.unusedVariables false
attribute [local go_sem] Oper.semAt_some

theorem own_own {W W' : World} {row : Option Nat} {B e s n : Nat} {v : Value} {xs : List Value} (h : W.ownsRow B e s v n xs) (hg : W.grownBy W' row) (hrow : ∀ r, row = some r → ∃ o : Obj, W.heap[r]? = some o ∧ o.isCells = false) : W'.ownsRow B e s v n xs :=
  own_at_ h (fun q hq => by
    obtain ⟨cur, r, hc⟩ := own_ty h hq
    exact grownBy_keeps_cells hg hrow hc rfl)
theorem own_cellsB {W : World} {B e s n : Nat} {v : Value} {xs : List Value} (h : W.ownsRow B e s v n xs) : ∀ (j : Nat) (o : Obj), v.ownBlock = some j → W.heap[j]? = some o → o.isCells = true := by
  intro j o hj ho
  obtain ⟨cur, r, hc⟩ := own_ty h hj
  rw [hc] at ho
  cases ho
  rfl

theorem own_base {W : World} {B B' e s n : Nat} {v : Value} {xs : List Value} (h : W.ownsRow B e s v n xs) (hb : B' ≤ B) : W.ownsRow B' e s v n xs := by
  obtain ⟨h1, h2⟩ := h
  refine ⟨h1, ?_⟩
  rcases h2 with h | ⟨g, cap, cur, rfl, h2, h3⟩
  · exact .inl h
  · exact .inr ⟨g, cap, cur, rfl, Nat.le_trans hb h2, h3⟩
def prV {t : Tab} (pre : List (Mb t)) : List Value := pre.map fun p => natV p.1
theorem prV_snoc {t : Tab} (pre : List (Mb t)) (x : Nat) (hx : x < t.n) : prV (pre ++ [⟨x, hx⟩]) = prV pre ++ [.int .i64 x] := by simp [prV, natV]
theorem prV_map {t : Tab} (pre : List (Mb t)) : prV pre = (pre.map Subtype.val).map natV := by rw [List.map_map]; rfl

set_option maxRecDepth 100000 in
set_option maxHeartbeats 8000000 in
theorem appendSeq_in (n : Nat) (hn : 3 ≤ n) (b1 b2 g B : Nat) (t : Tab) (N : Int) (w : World) (hx : TabR w B g t) (h1 : w.cell? ⟨b1, 0, none⟩ = some (.pointer (some ⟨g, 0, none⟩))) (h2 : w.cell? ⟨b2, 0, none⟩ = some (.int .i64 N)) (hb1 : b1 < w.heap.size) (hb2 : b2 < w.heap.size) (hm9 : (memL t N).length ≤ 1000) (hml : ∀ m ∈ memL t N, m < t.n) :
    CallsIn Fence.wide n Try.prog 39 #[.slice none 0 0, .func (.func 40) #[] #[.pointer (some ⟨b1, 0, none⟩), .pointer (some ⟨b2, 0, none⟩)]] w fun e W' => ∃ v, e = .returned v ∧ W'.ownsRow w.heap.size 3 1 v (memL t N).length ((memL t N).map natV) ∧ Below w.heap.size w W' := by
  have hn1 : 1 ≤ n := by omega
  obtain ⟨i0, hi0, hz0, hz1, hz2⟩ := info_parts info3
  refine callsIn_of_wp_marks Try.func39 rfl trivial ?_ rfl
  simp only [Try.ntmps39, List.size_toArray, List.length_cons, List.length_nil, Nat.reduceAdd, Nat.reduceSub, Array.replicate_succ, Array.replicate_zero, List.push_toArray, List.append_toArray, List.nil_append, List.cons_append]
  gi_wp2
  have kB : Blk (w.alloc (.cells #[.slice none 0 0] 29)) w.heap.size 29 #[.slice none 0 0] := Blk.new w 29 _
  have hB0 : Below w.heap.size w (w.alloc (.cells #[.slice none 0 0] 29)) := (Below.refl _ w).alloc (Nat.le_refl _) _
  have hst := members_stops (n - 1) (by omega) b1 b2 g B t N w w hx (Below.refl _ _) h1 h2 hb1 hb2 hm9 hml
  refine wpIn_rangeFunc_ownG rfl hn1 (gf := 40) (lb := #[.pointer (some ⟨b1, 0, none⟩), .pointer (some ⟨b2, 0, none⟩)]) rfl trivial (enters_of Try.func40 (by kernel_rfl) rfl)
    hst belowK_t (belowK_b (by simp)) hB0 (fun _ => rfl)
    (fun pre W => (∃ v, Blk W w.heap.size 29 #[v] ∧ W.ownsRow w.heap.size 3 1 v pre.length (prV pre)) ∧ Below w.heap.size w W)
    (fun c pre W => False)
    (OwnFrom.and (Own.from (fun s X Y row hs hg hr => by
      obtain ⟨v, hk, ho⟩ := hs
      exact ⟨v, (grownBy_keeps_cells hg hr hk rfl).trans hk, own_own ho hg hr⟩) _) (ownFrom_below (Nat.le_refl _) (by simp)))
    (fun c => Own.from (fun s X Y row hs hg hr => hs) _)
    ⟨⟨_, kB, ⟨rfl, .inl ⟨rfl, rfl⟩⟩⟩, hB0⟩
    (fun x => { tmps := #[.slice none 0 0, .func (.func 40) #[] #[.pointer (some ⟨b1, 0, none⟩), .pointer (some ⟨b2, 0, none⟩)], .pointer (some ⟨w.heap.size, 0, none⟩), undef, .slice none 0 0, natV x.1, .func (.func 40) #[] #[.pointer (some ⟨b1, 0, none⟩), .pointer (some ⟨b2, 0, none⟩)], natV x.1, undef, undef, undef, undef, undef], defers := [] }) ?assign ?body ?done ?stop
  case assign =>
    intro l x W K hK
    gi_wp2
    exact hK
  case body =>
    rintro l pre ⟨x, hxn⟩ W ⟨⟨v, hk, ho⟩, hB⟩ hlt
    clear hst h1 h2
    have c0 := hk.cell 0
    have f0 := hk.frozen 0
    have l0 := hk.lt
    have HO := Lib.hid ho
    have HK := Lib.hid hk
    have hsz := hB.size
    have hne : v.ownBlock ≠ some w.heap.size := fun e => by
      obtain ⟨cur, r, hc⟩ := own_ty ho e
      rw [hk] at hc
      cases hc
    clear ho hk
    have hlx : pre.length ≤ 1000 := by omega
    unfold natV
    gi_wp2_with (first
      | (gi_at_builtin; refine wpListIn_append_own_at _ rfl _ _ 29 rfl w.heap.size 3 i0 (.int .i64 0) 1 8 Try.underlying29 hi0 hz0 hz1 hz2 rfl (by decide) _ _ _ rfl (HO.out.alloc _) ⟨W.heap.size, 0, none⟩ 1 1 [.int .i64 x] rfl rfl (cell_one_new _ _ _) (by intro u hu; simp at hu; subst hu; rfl) (by unfold maxLen; omega) (by omega) (by simp; omega) ?_; intro nv w2 hown2 hg2 _ hl2; obtain ⟨An, cn, rfl⟩ := own_slice hown2; have hk2 := (HK.out.alloc (.cells #[.int .i64 x] 3)).grown hg2 (fun e => hne e.symm); have c2 := hk2.cell 0; have f2 := hk2.frozen 0; have l2 := hk2.lt; have HK2 := Lib.hid hk2; clear hk2; have HOWN := Lib.hid hown2; clear hown2; have HG2 := Lib.hid hg2; clear hg2; go_frame)
      | gi_in)
    have hBW2 : Below w.heap.size W w2 := ((Below.refl _ W).alloc hsz _).grown HG2.out (by simp; omega) (fun k e => (HO.out.lt k e).1)
    have hown3 := own_far HOWN.out (gset w2 w.heap.size 0 (.slice An (pre.length + 1) cn)) (fun q hq => (own_ty HOWN.out hq).ne HK2.out.ty (by decide))
    refine ⟨(((KeepsOthers.alloc W _).trans (KeepsOthers.of_grownBy HG2.out (own_cellsB (HO.out.alloc _)))).trans (KeepsOthers.setCell _ _ _)).from _, hBW2.setCell (p := ⟨w.heap.size, 0, none⟩) (by simp) _, ⟨⟨_, HK2.out.set_ 0 _, ?_⟩, (hB.trans hBW2).setCell (p := ⟨w.heap.size, 0, none⟩) (by simp) _⟩⟩
    rw [prV_snoc, List.length_append]
    exact hown3
  case done =>
    rintro D' ys W hD hys ⟨⟨v, hk, ho⟩, hB⟩ hK
    clear hst h1 h2
    have hcb : W.cell? ⟨w.heap.size, 0, none⟩ = some v := hk.cell 0
    have HO := Lib.hid ho
    have HK := Lib.hid hk
    clear ho hk
    gi_wp2
    refine ⟨by simp, .inl ⟨_, _, rfl, run_takeDeferred hK, ?_⟩⟩
    refine ⟨v, ?_, v, rfl, ?_, hB.trans (belowK_b (w := w) (Nat.le_refl _) W D' _ _ (by simp at hD; omega) hK rfl rfl)⟩
    · simp [results, Try.f39, go_sem]
    · rw [← hys, List.length_map, ← prV_map]
      exact own_own HO.out (grownBy_putObj' _ D' (.deferred none)) (fun r e => by cases e; exact ⟨_, hK, rfl⟩)
  case stop =>
    rintro D' c pre W hD ⟨k, hk, hpre⟩ h hK
    exact h.elim

theorem collect_in (n : Nat) (hn : 4 ≤ n) (b1 b2 g B : Nat) (t : Tab) (N : Int) (w : World) (hx : TabR w B g t) (h1 : w.cell? ⟨b1, 0, none⟩ = some (.pointer (some ⟨g, 0, none⟩))) (h2 : w.cell? ⟨b2, 0, none⟩ = some (.int .i64 N)) (hb1 : b1 < w.heap.size) (hb2 : b2 < w.heap.size) (hm9 : (memL t N).length ≤ 1000) (hml : ∀ m ∈ memL t N, m < t.n) :
    CallsIn Fence.wide n Try.prog 29 #[.func (.func 40) #[] #[.pointer (some ⟨b1, 0, none⟩), .pointer (some ⟨b2, 0, none⟩)]] w fun e W' => ∃ v, e = .returned v ∧ W'.ownsRow w.heap.size 3 1 v (memL t N).length ((memL t N).map natV) ∧ Below w.heap.size w W' := by
  have hc := appendSeq_in (n - 1) (by omega) b1 b2 g B t N w hx h1 h2 hb1 hb2 hm9 hml
  have HC := Lib.hid hc
  clear hc
  refine callsIn_of_wp Try.func29 rfl trivial ?_ rfl
  simp only [Try.ntmps29, List.size_toArray, List.length_cons, List.length_nil, Nat.reduceAdd, Nat.reduceSub, Array.replicate_succ, Array.replicate_zero, List.push_toArray, List.append_toArray, List.nil_append, List.cons_append]
  gi_wp2_with fail
  refine ⟨trivial, fun _ => by omega, ?_⟩
  refine HC.out.mono ?_
  rintro e w1 ⟨v, rfl, ho, hB⟩
  have HO := Lib.hid ho
  clear ho
  gi_wp2
  go_ret
  exact ⟨v, rfl, HO.out, hB⟩
theorem members_list (g B : Nat) (t : Tab) (N : Int) (w : World) (hx : TabR w B g t) (hm9 : (memL t N).length ≤ 1000) (hml : ∀ m ∈ memL t N, m < t.n) :
    Calls Try.prog 12 #[.pointer (some ⟨g, 0, none⟩), .int .i64 N] w fun e W' => ∃ v, e = .returned v ∧ W'.ownsRow w.heap.size 3 1 v (memL t N).length ((memL t N).map natV) ∧ Below w.heap.size w W' := by
  have hm := members_in 5 g N w
  refine (callsIn_wide (n := 6)).1 ?_
  have HM := Lib.hid hm
  clear hm
  obtain ⟨w1, hw1⟩ : ∃ w1, w1 = (w.alloc (.cells #[.pointer (some ⟨g, 0, none⟩)] 24)).alloc (.cells #[.int .i64 N] 3) := ⟨_, rfl⟩
  have b1 := Boxed.new w 24 (.pointer (some ⟨g, 0, none⟩))
  have b2 := Boxed.new (w.alloc (.cells #[.pointer (some ⟨g, 0, none⟩)] 24)) 3 (.int .i64 N)
  simp only [World.size_alloc] at b2
  have hB0 : Below w.heap.size w w1 := by rw [hw1]; exact ((Below.refl _ w).alloc (Nat.le_refl _) _).alloc (by simp) _
  have hc := collect_in 5 (by omega) w.heap.size (w.heap.size + 1) g B t N w1 (hx.below hB0) (by rw [hw1]; exact (b1.alloc _).cell) (by rw [hw1]; exact b2.cell) (by rw [hw1]; simp; omega) (by rw [hw1]; simp) hm9 hml
  have HC := Lib.hid hc
  clear hc b1 b2 hx
  refine callsIn_of_wp Try.func12 rfl trivial ?_ rfl
  simp only [Try.ntmps12, List.size_toArray, List.length_cons, List.length_nil, Nat.reduceAdd, Nat.reduceSub, Array.replicate_succ, Array.replicate_zero, List.push_toArray, List.append_toArray, List.nil_append, List.cons_append]
  have HW := Lib.hid hw1
  clear hw1
  gi_wp2_with fail
  refine ⟨trivial, ?_⟩
  refine HM.out.mono ?_
  rintro e w2 ⟨rfl, rfl⟩
  rw [← HW.out]
  gi_wp2_with fail
  refine ⟨trivial, ?_⟩
  refine HC.out.mono ?_
  rintro e w2 ⟨v, rfl, ho, hB⟩
  have HO := Lib.hid (own_base ho hB0.size)
  have HB := Lib.hid (hB0.trans (hB.mono hB0.size))
  clear ho hB
  gi_wp2
  go_ret
  exact ⟨v, rfl, HO.out, HB.out⟩
end Go.Proofs.Ytnhhinlhfaapcaa
