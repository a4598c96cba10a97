/- Threads: Waits, which ranges over members. -/
import Derived.Test.YtnhhinlhfaapcaaH
namespace Go.Proofs.Ytnhhinlhfaapcaa
open Go.RowKit Go.Shelf
set_option linter.unusedVariables false
attribute [local go_sem] Oper.semAt_some

/-- does one of the innermost scope still run? -/
def waitsB (t : Tab) (n : Int) : Bool := (memL t n).any fun m => !(t.th m).ended

set_option maxRecDepth 100000 in
set_option maxHeartbeats 8000000 in
theorem waits_in (n : Nat) (hn : 3 ≤ n) (g B : Nat) (t : Tab) (N : Int) (w : World) (hx : TabR w B g t) (hm9 : (memL t N).length ≤ 1000) (hml : ∀ m ∈ memL t N, m < t.n) :
    CallsIn Fence.wide n Try.prog 15 #[.pointer (some ⟨g, 0, none⟩), .int .i64 N] w fun e W' => e = .returned (.bool (waitsB t N)) ∧ Below w.heap.size w W' := by
  have h1 : 1 ≤ n := by omega
  refine callsIn_of_wp_marks Try.func15 rfl trivial ?_ rfl
  simp only [Try.ntmps15, List.size_toArray, List.length_cons, List.length_nil, Nat.reduceAdd, Nat.reduceSub, Array.replicate_succ, Array.replicate_zero, List.push_toArray, List.append_toArray, List.nil_append, List.cons_append]
  gi_wp2_with fail
  refine ⟨trivial, ?_⟩
  refine (members_in (n - 1) _ _ _).mono ?_
  rintro e w1 ⟨rfl, rfl⟩
  gi_wp2
  have bT := Boxed.new w 24 (.pointer (some ⟨g, 0, none⟩))
  have bR := Boxed.new (w.alloc (.cells #[.pointer (some ⟨g, 0, none⟩)] 24)) 4 (.bool false)
  have b1 := Boxed.new ((w.alloc (.cells #[.pointer (some ⟨g, 0, none⟩)] 24)).alloc (.cells #[.bool false] 4)) 24 (.pointer (some ⟨g, 0, none⟩))
  have b2 := Boxed.new (((w.alloc (.cells #[.pointer (some ⟨g, 0, none⟩)] 24)).alloc (.cells #[.bool false] 4)).alloc (.cells #[.pointer (some ⟨g, 0, none⟩)] 24)) 3 (.int .i64 N)
  simp only [World.size_alloc] at bR b1 b2
  have hB0 : Below w.heap.size w ((((w.alloc (.cells #[.pointer (some ⟨g, 0, none⟩)] 24)).alloc (.cells #[.bool false] 4)).alloc (.cells #[.pointer (some ⟨g, 0, none⟩)] 24)).alloc (.cells #[.int .i64 N] 3)) := ((((Below.refl _ w).alloc (Nat.le_refl _) _).alloc (by simp) _).alloc (by simp; omega) _).alloc (by simp; omega) _
  have hst := members_stops (n - 1) (by omega) (w.heap.size + 1 + 1) (w.heap.size + 1 + 1 + 1) g B t N w _ hx hB0 ((b1.alloc _).cell) b2.cell (by simp) (by simp) hm9 hml
  refine wpIn_rangeFunc_ownG rfl h1 (gf := 40) (lb := #[.pointer (some ⟨w.heap.size + 1 + 1, 0, none⟩), .pointer (some ⟨w.heap.size + 1 + 1 + 1, 0, none⟩)]) rfl trivial (enters_of Try.func40 (by kernel_rfl) rfl)
    hst belowK_t (belowK_b (by simp; omega)) (Below.refl _ _) (fun _ => rfl)
    (fun pre W => ((∀ p ∈ pre, (t.th p.1).ended = true) ∧ W.cell? ⟨w.heap.size, 0, none⟩ = some (.pointer (some ⟨g, 0, none⟩)) ∧ W.cell? ⟨w.heap.size + 1, 0, none⟩ = some (.bool false) ∧ W.frozen? ⟨w.heap.size + 1, 0, none⟩ = false) ∧ Below w.heap.size w W)
    (fun c pre W => (c = .ret ∧ (¬ ∀ p ∈ pre, (t.th p.1).ended = true) ∧ W.cell? ⟨w.heap.size + 1, 0, none⟩ = some (.bool true)) ∧ Below w.heap.size w W)
    (OwnFrom.and (Own.from (fun s A B row hs hg hr => ⟨hs.1, cell_kept hs.2.1 hg hr, cell_kept hs.2.2.1 hg hr, (frozen_kept hs.2.2.1 hg hr).trans hs.2.2.2⟩) _) (ownFrom_below (Nat.le_refl _) (by simp; omega)))
    (fun c => OwnFrom.and (Own.from (fun s A B row hs hg hr => ⟨hs.1, hs.2.1, cell_kept hs.2.2 hg hr⟩) _) (ownFrom_below (Nat.le_refl _) (by simp; omega)))
    ⟨⟨by simp, (((bT.alloc _).alloc _).alloc _).cell, ((bR.alloc _).alloc _).cell, ((bR.alloc _).alloc _).frozen⟩, hB0⟩
    (fun x => { tmps := #[.pointer (some ⟨g, 0, none⟩), .int .i64 N, .pointer (some ⟨w.heap.size, 0, none⟩), undef, .pointer (some ⟨w.heap.size + 1, 0, none⟩), natV x.1, .pointer (some ⟨g, 0, none⟩), .int .i64 N, .func (.func 40) #[] #[.pointer (some ⟨w.heap.size + 1 + 1, 0, none⟩), .pointer (some ⟨w.heap.size + 1 + 1 + 1, 0, none⟩)], natV x.1, undef, undef, undef, undef, undef, undef, undef, undef, undef], defers := [] }) ?assign ?body ?done ?stop
  case assign =>
    intro l x W K hK
    gi_wp2
    exact hK
  case body =>
    rintro l pre ⟨x, hxn⟩ W ⟨⟨hp, hct, hcr, hfr⟩, hB⟩ _
    clear hst
    obtain ⟨v, S, C, hxx⟩ := hx.below hB
    obtain ⟨gl, cl, rfl⟩ := hxx.l
    have c0 := hxx.box
    have d1 := (hxx.cells hxn).2.1
    have hxI : (x : Int) < (t.n : Int) := by omega
    have hx0 : (0 : Int) ≤ (x : Int) := by omega
    clear hxx
    unfold natV
    obtain ⟨xe, hxe⟩ : ∃ b, (t.th x).ended = b := ⟨_, rfl⟩
    rw [hxe] at d1
    cases xe
    · gi_wp2
      exact ⟨(KeepsOthers.setCell _ _ _).from _, ⟨rfl, (fun h => by have := h ⟨x, hxn⟩ (by simp); rw [hxe] at this; cases this), World.cell?_setCell_same' _ _ _ (by rw [hcr]; rfl)⟩, hB.setCell (p := ⟨w.heap.size + 1, 0, none⟩) (by simp) _⟩
    · gi_wp2
      exact ⟨KeepsFrom.refl _ _, Below.refl _ _, ⟨fun p hp' => (List.mem_append.1 hp').elim (hp p) (fun e => by simp at e; subst e; exact hxe), hct, hcr, hfr⟩, hB⟩
  case done =>
    rintro D' ys W hD hys ⟨⟨hne, hct, hcr, hfr⟩, hB⟩ hK
    clear hst
    gi_wp2
    have hK' := (KeepsOthers.setCell W ⟨w.heap.size + 1, 0, none⟩ (.bool false)).same D' _ hK rfl
    refine ⟨by simp, .inl ⟨_, _, rfl, run_takeDeferred hK', ?_⟩⟩
    have hc5 := cell_kept (World.cell?_setCell_same' W ⟨w.heap.size + 1, 0, none⟩ (.bool false) (by rw [hcr]; rfl)) (grownBy_putObj' _ D' (.deferred none)) (fun r e => by cases e; exact ⟨_, hK', rfl⟩)
    have hval : waitsB t N = false := by
      unfold waitsB
      rw [List.any_eq_false]
      intro m hm
      rw [← hys, List.mem_map] at hm
      obtain ⟨p, hp, rfl⟩ := hm
      rw [hne p hp]; decide
    refine ⟨.bool false, ?_, by rw [hval], (hB.setCell (p := ⟨w.heap.size + 1, 0, none⟩) (by simp) _).trans (belowK_b (w := w) (Nat.le_refl _) _ D' _ _ (by simp at hD; omega) hK' rfl rfl)⟩
    simp [results, Try.f15, go_sem, hc5]
  case stop =>
    rintro D' c pre W hD ⟨k, hk, hpre⟩ ⟨⟨rfl, hno, hcr⟩, hB⟩ hK
    clear hst
    gi_wp2
    refine ⟨by simp, .inl ⟨_, _, rfl, run_takeDeferred hK, ?_⟩⟩
    have hc5 := cell_kept hcr (grownBy_putObj' _ D' (.deferred none)) (fun r e => by cases e; exact ⟨_, hK, rfl⟩)
    have hval : waitsB t N = true := by
      cases hw : waitsB t N
      · exfalso
        unfold waitsB at hw
        rw [List.any_eq_false] at hw
        refine hno fun p hp => ?_
        have hm : p.1 ∈ memL t N := by
          have : p.1 ∈ pre.map Subtype.val := List.mem_map.2 ⟨p, hp, rfl⟩
          rw [hpre] at this
          exact List.mem_of_mem_take this
        have := hw p.1 hm
        simpa using this
      · rfl
    refine ⟨.bool true, ?_, by rw [hval], hB.trans (belowK_b (w := w) (Nat.le_refl _) W D' _ _ (by simp at hD; omega) hK rfl rfl)⟩
    simp [results, Try.f15, go_sem, hc5]
theorem waits_any (g B : Nat) (t : Tab) (N : Int) (w : World) (hx : TabR w B g t) (hm9 : (memL t N).length ≤ 1000) (hml : ∀ m ∈ memL t N, m < t.n) :
    Calls Try.prog 15 #[.pointer (some ⟨g, 0, none⟩), .int .i64 N] w fun e W' => e = .returned (.bool (waitsB t N)) ∧ Below w.heap.size w W' :=
  (callsIn_wide (n := 3)).1 (waits_in 3 (Nat.le_refl _) g B t N w hx hm9 hml)
end Go.Proofs.Ytnhhinlhfaapcaa
