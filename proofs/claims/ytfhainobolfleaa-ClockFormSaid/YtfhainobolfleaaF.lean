/- Clock: Within and Same, which range over pairs. -/
import Derived.Test.YtfhainobolfleaaE
namespace Go.Proofs.Ytfhainobolfleaa
open Go.RowKit Go.Shelf
set_option linter.unusedVariables false
attribute [local go_sem] Oper.semAt_some

/-- is every number of C at most D's? -/
def leL (C D : List Int) : Bool := (List.range (max C.length D.length)).all fun k => decide (atZ C k ≤ atZ D k)
/-- are all numbers the same? -/
def eqL (C D : List Int) : Bool := (List.range (max C.length D.length)).all fun k => decide (atZ C k = atZ D k)


set_option maxRecDepth 100000 in
set_option maxHeartbeats 4000000 in
theorem leL_in (n : Nat) (hn : 3 ≤ n) (A1 A2 : Option Addr) (l1 c1 l2 c2 : Nat) (C D : List Int) (hl1 : C.length = l1) (hl2 : D.length = l2) (h9 : max l1 l2 ≤ 1000000) (w : World) (r1 : Rd w w.heap.size 1 intC A1 C) (r2 : Rd w w.heap.size 1 intC A2 D) :
    CallsIn Fence.wide n Try.prog 17 #[.slice A1 l1 c1, .slice A2 l2 c2] w fun e W' => e = .returned (.bool (leL C D)) ∧ Below w.heap.size w W' := by
  have h1 : 1 ≤ n := by omega
  obtain ⟨N, hN⟩ : ∃ N, N = max l1 l2 := ⟨_, rfl⟩
  have hNN : max C.length D.length = N := by rw [hl1, hl2]; exact hN.symm
  refine callsIn_of_wp_marks Try.func17 rfl trivial ?_ rfl
  simp only [Try.ntmps17, List.size_toArray, List.length_cons, List.length_nil, Nat.reduceAdd, Nat.reduceSub, Array.replicate_succ, Array.replicate_zero, List.push_toArray, List.append_toArray, List.nil_append, List.cons_append]
  gi_wp2_with fail
  refine ⟨trivial, ?_⟩
  refine (pairs_in (n - 1) _ _ _ _ _ _ _).mono ?_
  rintro e w1 ⟨rfl, rfl⟩
  gi_wp2
  have bR := Boxed.new w 4 (.bool false)
  have b1 := Boxed.new (w.alloc (.cells #[.bool false] 4)) 22 (.slice A1 l1 c1)
  have b2 := Boxed.new ((w.alloc (.cells #[.bool false] 4)).alloc (.cells #[.slice A1 l1 c1] 22)) 22 (.slice A2 l2 c2)
  simp only [World.size_alloc] at b1 b2
  have hB0 : Below w.heap.size w (((w.alloc (.cells #[.bool false] 4)).alloc (.cells #[.slice A1 l1 c1] 22)).alloc (.cells #[.slice A2 l2 c2] 22)) := (((Below.refl _ w).alloc (Nat.le_refl _) _).alloc (by simp) _).alloc (by simp; omega) _
  have hst := pairs_stops (n - 1) (by omega) (w.heap.size + 1) (w.heap.size + 1 + 1) (w.heap.size + 1 + 1 + 1) A1 A2 l1 c1 l2 c2 N C D hl1 hl2 hN.symm (by omega) (by omega) (by omega) _ (by simp) ((b1.alloc _).cell) b2.cell ((r1.below hB0).more (by omega)) ((r2.below hB0).more (by omega))
  refine wpIn_rangeFunc_ownG rfl h1 (gf := 27) (lb := #[.pointer (some ⟨w.heap.size + 1, 0, none⟩), .pointer (some ⟨w.heap.size + 1 + 1, 0, none⟩)]) rfl trivial (enters_of Try.func27 (by kernel_rfl) rfl)
    hst belowK_t (belowK_b (by simp)) (Below.refl _ _) (fun _ => rfl)
    (fun pre W => ((∀ p ∈ pre, p.1 ≤ p.2) ∧ W.cell? ⟨w.heap.size, 0, none⟩ = some (.bool false) ∧ W.frozen? ⟨w.heap.size, 0, none⟩ = false) ∧ Below w.heap.size w W)
    (fun c pre W => (c = .ret ∧ (¬ ∀ p ∈ pre, p.1 ≤ p.2) ∧ W.cell? ⟨w.heap.size, 0, none⟩ = some (.bool false)) ∧ Below w.heap.size w W)
    (OwnFrom.and (Own.from (fun s A B row hs hg hr => ⟨hs.1, cell_kept hs.2.1 hg hr, (frozen_kept hs.2.1 hg hr).trans hs.2.2⟩) _) (ownFrom_below (Nat.le_refl _) (by simp; omega)))
    (fun c => OwnFrom.and (Own.from (fun s A B row hs hg hr => ⟨hs.1, hs.2.1, cell_kept hs.2.2 hg hr⟩) _) (ownFrom_below (Nat.le_refl _) (by simp; omega)))
    ⟨⟨by simp, ((bR.alloc _).alloc _).cell, ((bR.alloc _).alloc _).frozen⟩, hB0⟩
    (fun x => { tmps := #[.slice A1 l1 c1, .slice A2 l2 c2, undef, undef, .pointer (some ⟨w.heap.size, 0, none⟩), .int .i64 x.1, .int .i64 x.2, .slice A1 l1 c1, .slice A2 l2 c2, .func (.func 27) #[] #[.pointer (some ⟨w.heap.size + 1, 0, none⟩), .pointer (some ⟨w.heap.size + 1 + 1, 0, none⟩)], .int .i64 x.1, .int .i64 x.2, undef, undef, undef], defers := [] }) ?assign ?body ?done ?stop
  case assign =>
    intro l x W K hK
    gi_wp2
    exact hK
  case body =>
    rintro l pre x W ⟨⟨hp, hcr, hfr⟩, hB⟩ _
    clear hst
    by_cases hx : x.1 ≤ x.2
    · have hx0 : decide (x.2 < x.1) = false := by simpa using hx
      gi_wp2
      exact ⟨KeepsFrom.refl _ _, Below.refl _ _, ⟨fun p hp' => (List.mem_append.1 hp').elim (hp p) (fun e => by simp at e; subst e; exact hx), hcr, hfr⟩, hB⟩
    · have hx0 : decide (x.2 < x.1) = true := by simpa using hx
      gi_wp2
      exact ⟨(KeepsOthers.setCell _ _ _).from _, ⟨rfl, by first | exact fun h => hx (h x (by simp)) | exact ⟨x.1, x.2, by simp, by omega⟩, World.cell?_setCell_same' _ _ _ (by rw [hcr]; rfl)⟩, hB.setCell (p := ⟨w.heap.size, 0, none⟩) (Nat.le_refl _) _⟩
  case done =>
    rintro D' ys W hD rfl ⟨⟨hne, hcr, hfr⟩, hB⟩ hK
    clear hst
    gi_wp2
    have hK' := (KeepsOthers.setCell W ⟨w.heap.size, 0, none⟩ (.bool true)).same D' _ hK rfl
    refine ⟨by simp, .inl ⟨_, _, rfl, run_takeDeferred hK', ?_⟩⟩
    have hc5 := cell_kept (World.cell?_setCell_same' W ⟨w.heap.size, 0, none⟩ (.bool true) (by rw [hcr]; rfl)) (grownBy_putObj' _ D' (.deferred none)) (fun r e => by cases e; exact ⟨_, hK', rfl⟩)
    have hval : leL C D = true := by
      unfold leL
      rw [hNN]
      exact List.all_eq_true.2 fun k hk => by
        have := hne (atZ C k, atZ D k) (by simp only [upto, List.mem_map]; exact ⟨k, hk, rfl⟩)
        simpa using this
    refine ⟨.bool true, ?_, by rw [hval], (hB.setCell (p := ⟨w.heap.size, 0, none⟩) (Nat.le_refl _) _).trans (belowK_b (w := w) (Nat.le_refl _) _ D' _ _ (by simp at hD; omega) hK' rfl rfl)⟩
    simp [results, Try.f17, go_sem, hc5]
  case stop =>
    rintro D' c pre W hD ⟨k, hk, rfl⟩ ⟨⟨rfl, hno, hcr⟩, hB⟩ hK
    clear hst
    gi_wp2
    refine ⟨by simp, .inl ⟨_, _, rfl, run_takeDeferred hK, ?_⟩⟩
    have hc5 := cell_kept hcr (grownBy_putObj' _ D' (.deferred none)) (fun r e => by cases e; exact ⟨_, hK, rfl⟩)
    have hval : leL C D = false := by
      rw [Bool.eq_false_iff]
      intro ht
      unfold leL at ht
      rw [hNN] at ht
      refine hno fun p hp => ?_
      simp only [upto, List.mem_map, List.mem_range] at hp
      obtain ⟨j, hj, rfl⟩ := hp
      have := List.all_eq_true.1 ht j (List.mem_range.2 (by omega))
      simpa [pairF] using this
    refine ⟨.bool false, ?_, by rw [hval], hB.trans (belowK_b (w := w) (Nat.le_refl _) W D' _ _ (by simp at hD; omega) hK rfl rfl)⟩
    simp [results, Try.f17, go_sem, hc5]
theorem leL_any (A1 A2 : Option Addr) (l1 c1 l2 c2 : Nat) (C D : List Int) (w : World) (hl1 : C.length = l1) (hl2 : D.length = l2) (h9 : max l1 l2 ≤ 1000000) (r1 : Rd w w.heap.size 1 intC A1 C) (r2 : Rd w w.heap.size 1 intC A2 D) :
    Calls Try.prog 17 #[.slice A1 l1 c1, .slice A2 l2 c2] w fun e W' => e = .returned (.bool (leL C D)) ∧ Below w.heap.size w W' :=
  (callsIn_wide (n := 3)).1 (leL_in 3 (Nat.le_refl _) A1 A2 l1 c1 l2 c2 C D hl1 hl2 h9 w r1 r2)


set_option maxRecDepth 100000 in
set_option maxHeartbeats 4000000 in
theorem eqL_in (n : Nat) (hn : 3 ≤ n) (A1 A2 : Option Addr) (l1 c1 l2 c2 : Nat) (C D : List Int) (hl1 : C.length = l1) (hl2 : D.length = l2) (h9 : max l1 l2 ≤ 1000000) (w : World) (r1 : Rd w w.heap.size 1 intC A1 C) (r2 : Rd w w.heap.size 1 intC A2 D) :
    CallsIn Fence.wide n Try.prog 19 #[.slice A1 l1 c1, .slice A2 l2 c2] w fun e W' => e = .returned (.bool (eqL C D)) ∧ Below w.heap.size w W' := by
  have h1 : 1 ≤ n := by omega
  obtain ⟨N, hN⟩ : ∃ N, N = max l1 l2 := ⟨_, rfl⟩
  have hNN : max C.length D.length = N := by rw [hl1, hl2]; exact hN.symm
  refine callsIn_of_wp_marks Try.func19 rfl trivial ?_ rfl
  simp only [Try.ntmps19, List.size_toArray, List.length_cons, List.length_nil, Nat.reduceAdd, Nat.reduceSub, Array.replicate_succ, Array.replicate_zero, List.push_toArray, List.append_toArray, List.nil_append, List.cons_append]
  gi_wp2_with fail
  refine ⟨trivial, ?_⟩
  refine (pairs_in (n - 1) _ _ _ _ _ _ _).mono ?_
  rintro e w1 ⟨rfl, rfl⟩
  gi_wp2
  have bR := Boxed.new w 4 (.bool false)
  have b1 := Boxed.new (w.alloc (.cells #[.bool false] 4)) 22 (.slice A1 l1 c1)
  have b2 := Boxed.new ((w.alloc (.cells #[.bool false] 4)).alloc (.cells #[.slice A1 l1 c1] 22)) 22 (.slice A2 l2 c2)
  simp only [World.size_alloc] at b1 b2
  have hB0 : Below w.heap.size w (((w.alloc (.cells #[.bool false] 4)).alloc (.cells #[.slice A1 l1 c1] 22)).alloc (.cells #[.slice A2 l2 c2] 22)) := (((Below.refl _ w).alloc (Nat.le_refl _) _).alloc (by simp) _).alloc (by simp; omega) _
  have hst := pairs_stops (n - 1) (by omega) (w.heap.size + 1) (w.heap.size + 1 + 1) (w.heap.size + 1 + 1 + 1) A1 A2 l1 c1 l2 c2 N C D hl1 hl2 hN.symm (by omega) (by omega) (by omega) _ (by simp) ((b1.alloc _).cell) b2.cell ((r1.below hB0).more (by omega)) ((r2.below hB0).more (by omega))
  refine wpIn_rangeFunc_ownG rfl h1 (gf := 27) (lb := #[.pointer (some ⟨w.heap.size + 1, 0, none⟩), .pointer (some ⟨w.heap.size + 1 + 1, 0, none⟩)]) rfl trivial (enters_of Try.func27 (by kernel_rfl) rfl)
    hst belowK_t (belowK_b (by simp)) (Below.refl _ _) (fun _ => rfl)
    (fun pre W => ((∀ p ∈ pre, p.1 = p.2) ∧ W.cell? ⟨w.heap.size, 0, none⟩ = some (.bool false) ∧ W.frozen? ⟨w.heap.size, 0, none⟩ = false) ∧ Below w.heap.size w W)
    (fun c pre W => (c = .ret ∧ (¬ ∀ p ∈ pre, p.1 = p.2) ∧ W.cell? ⟨w.heap.size, 0, none⟩ = some (.bool false)) ∧ Below w.heap.size w W)
    (OwnFrom.and (Own.from (fun s A B row hs hg hr => ⟨hs.1, cell_kept hs.2.1 hg hr, (frozen_kept hs.2.1 hg hr).trans hs.2.2⟩) _) (ownFrom_below (Nat.le_refl _) (by simp; omega)))
    (fun c => OwnFrom.and (Own.from (fun s A B row hs hg hr => ⟨hs.1, hs.2.1, cell_kept hs.2.2 hg hr⟩) _) (ownFrom_below (Nat.le_refl _) (by simp; omega)))
    ⟨⟨by simp, ((bR.alloc _).alloc _).cell, ((bR.alloc _).alloc _).frozen⟩, hB0⟩
    (fun x => { tmps := #[.slice A1 l1 c1, .slice A2 l2 c2, undef, undef, .pointer (some ⟨w.heap.size, 0, none⟩), .int .i64 x.1, .int .i64 x.2, .slice A1 l1 c1, .slice A2 l2 c2, .func (.func 27) #[] #[.pointer (some ⟨w.heap.size + 1, 0, none⟩), .pointer (some ⟨w.heap.size + 1 + 1, 0, none⟩)], .int .i64 x.1, .int .i64 x.2, undef, undef, undef], defers := [] }) ?assign ?body ?done ?stop
  case assign =>
    intro l x W K hK
    gi_wp2
    exact hK
  case body =>
    rintro l pre x W ⟨⟨hp, hcr, hfr⟩, hB⟩ _
    clear hst
    by_cases hx : x.1 = x.2
    · have hx0 : (x.1 == x.2) = true := by simpa using hx
      gi_wp2
      exact ⟨KeepsFrom.refl _ _, Below.refl _ _, ⟨fun p hp' => (List.mem_append.1 hp').elim (hp p) (fun e => by simp at e; subst e; exact hx), hcr, hfr⟩, hB⟩
    · have hx0 : (x.1 == x.2) = false := by simpa using hx
      gi_wp2
      exact ⟨(KeepsOthers.setCell _ _ _).from _, ⟨rfl, by first | exact fun h => hx (h x (by simp)) | exact ⟨x.1, x.2, by simp, by omega⟩, World.cell?_setCell_same' _ _ _ (by rw [hcr]; rfl)⟩, hB.setCell (p := ⟨w.heap.size, 0, none⟩) (Nat.le_refl _) _⟩
  case done =>
    rintro D' ys W hD rfl ⟨⟨hne, hcr, hfr⟩, hB⟩ hK
    clear hst
    gi_wp2
    have hK' := (KeepsOthers.setCell W ⟨w.heap.size, 0, none⟩ (.bool true)).same D' _ hK rfl
    refine ⟨by simp, .inl ⟨_, _, rfl, run_takeDeferred hK', ?_⟩⟩
    have hc5 := cell_kept (World.cell?_setCell_same' W ⟨w.heap.size, 0, none⟩ (.bool true) (by rw [hcr]; rfl)) (grownBy_putObj' _ D' (.deferred none)) (fun r e => by cases e; exact ⟨_, hK', rfl⟩)
    have hval : eqL C D = true := by
      unfold eqL
      rw [hNN]
      exact List.all_eq_true.2 fun k hk => by
        have := hne (atZ C k, atZ D k) (by simp only [upto, List.mem_map]; exact ⟨k, hk, rfl⟩)
        simpa using this
    refine ⟨.bool true, ?_, by rw [hval], (hB.setCell (p := ⟨w.heap.size, 0, none⟩) (Nat.le_refl _) _).trans (belowK_b (w := w) (Nat.le_refl _) _ D' _ _ (by simp at hD; omega) hK' rfl rfl)⟩
    simp [results, Try.f19, go_sem, hc5]
  case stop =>
    rintro D' c pre W hD ⟨k, hk, rfl⟩ ⟨⟨rfl, hno, hcr⟩, hB⟩ hK
    clear hst
    gi_wp2
    refine ⟨by simp, .inl ⟨_, _, rfl, run_takeDeferred hK, ?_⟩⟩
    have hc5 := cell_kept hcr (grownBy_putObj' _ D' (.deferred none)) (fun r e => by cases e; exact ⟨_, hK, rfl⟩)
    have hval : eqL C D = false := by
      rw [Bool.eq_false_iff]
      intro ht
      unfold eqL at ht
      rw [hNN] at ht
      refine hno fun p hp => ?_
      simp only [upto, List.mem_map, List.mem_range] at hp
      obtain ⟨j, hj, rfl⟩ := hp
      have := List.all_eq_true.1 ht j (List.mem_range.2 (by omega))
      simpa [pairF] using this
    refine ⟨.bool false, ?_, by rw [hval], hB.trans (belowK_b (w := w) (Nat.le_refl _) W D' _ _ (by simp at hD; omega) hK rfl rfl)⟩
    simp [results, Try.f19, go_sem, hc5]
theorem eqL_any (A1 A2 : Option Addr) (l1 c1 l2 c2 : Nat) (C D : List Int) (w : World) (hl1 : C.length = l1) (hl2 : D.length = l2) (h9 : max l1 l2 ≤ 1000000) (r1 : Rd w w.heap.size 1 intC A1 C) (r2 : Rd w w.heap.size 1 intC A2 D) :
    Calls Try.prog 19 #[.slice A1 l1 c1, .slice A2 l2 c2] w fun e W' => e = .returned (.bool (eqL C D)) ∧ Below w.heap.size w W' :=
  (callsIn_wide (n := 3)).1 (eqL_in 3 (Nat.le_refl _) A1 A2 l1 c1 l2 c2 C D hl1 hl2 h9 w r1 r2)

end Go.Proofs.Ytfhainobolfleaa
