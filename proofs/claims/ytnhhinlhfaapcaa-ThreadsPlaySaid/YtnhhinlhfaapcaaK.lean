/- Threads: the contract of Close. -/
import Derived.Test.YtnhhinlhfaapcaaI
import Derived.Test.YtnhhinlhfaapcaaJ
import Derived.StillTailTactics
namespace Go.Proofs.Ytnhhinlhfaapcaa
open Go.RowKit Go.Shelf
set_option linter.unusedVariables false
attribute [local go_sem] Oper.semAt_some

theorem own_at_ {W W' : World} {B e s n : Nat} {v : Value} {xs : List Value} (h : W.ownsRow B e s v n xs) (hk : ∀ q, v.ownBlock = some q → W'.heap[q]? = W.heap[q]?) : W'.ownsRow B e s v n xs := by
  obtain ⟨h1, h2⟩ := h
  refine ⟨h1, ?_⟩
  rcases h2 with h | ⟨g, cap, cur, rfl, h2, h3, h4⟩
  · exact .inl h
  · exact .inr ⟨g, cap, cur, rfl, h2, (hk g rfl).trans h3, h4⟩
theorem RowS.at_ {W W' : World} {B e n : Nat} {v : Value} {xs : List Value} (h : RowS W B e v n xs) (hk : ∀ q, v.ownBlock = some q → W'.heap[q]? = W.heap[q]?) : RowS W' B e v n xs := by
  obtain ⟨h1, h2⟩ := h
  refine ⟨h1, ?_⟩
  rcases h2 with h | ⟨g, cap, cur, rfl, h2, h3, h4⟩
  · exact .inl h
  · exact .inr ⟨g, cap, cur, rfl, h2, (hk g rfl).trans h3, h4⟩
/-- a table of which all blocks lie below m is kept where all that is below m is kept -/
theorem TabX.keep {w W W' : World} {B g : Nat} {v : Value} {S : Nat → Value} {C : Nat → Nat → Value} {t t' : Tab} {S' : Nat → Value} (h0 : TabX w B g v S C t) (hd : t'.n = t.n ∧ ∀ i, dep t' i ≤ dep t i) (hS : ∀ i q, (S' i).ownBlock = some q → (S i).ownBlock = some q) (h : TabX W B g v S' C t') (hb : Below w.heap.size W W') : TabX W' B g v S' C t' := by
  refine ⟨h.hB, h.hn, (hb.block g h0.lt).trans h.blk, own_at_ h.ol (fun q hq => hb.block q (h0.ol.lt q hq).2), fun i hi => (h.os i hi).at_ (fun q hq => hb.block q ((h0.os i (by omega)).lt q (hS i q hq)).2), fun i k hi hk => own_at_ (h.oi i k hi hk) (fun q hq => hb.block q ((h0.oi i k (by omega) (Nat.lt_of_lt_of_le hk (hd.2 i))).lt q hq).2), h.ds, h.di⟩
theorem closeT_le (t : Tab) (i : Nat) : ∀ k, dep (closeT t i) k ≤ dep t k := by
  intro k
  unfold dep closeT
  by_cases e : k = i
  · subst e
    rw [setTh_at]
    simp
  · rw [setTh_ne e]; exact Nat.le_refl _
theorem updS_own {S : Nat → Value} {i gs ln cs : Nat} (hS : S i = .slice (some ⟨gs, 0, none⟩) (ln + 1) cs) : ∀ k q, (updS S i (.slice (some ⟨gs, 0, none⟩) ln ln) k).ownBlock = some q → (S k).ownBlock = some q := by
  intro k q hq
  unfold updS at hq
  by_cases e : k = i
  · subst e; rw [if_pos rfl] at hq; rw [hS]; exact hq
  · rwa [if_neg e] at hq

theorem close_kpt {w W W' : World} {B g gl cl i o : Nat} {u : Value} {S S' : Nat → Value} {v' : Value} {C : Nat → Nat → Value} {t : Tab} (h0 : TabX w B g (.slice (some ⟨gl, 0, none⟩) t.n cl) S C t) (hB : Below w.heap.size w W) (hb : Below w.heap.size (W.setCell ⟨gl, o, none⟩ u).drew W') (hT : TabX W' B g v' S' C (closeT t i)) : Kpt w B g W' := by
  refine Kpt.of h0 hT (fun q hq _ => ?_) (fun j k q hj hk e => .inl ⟨j, k, hj, Nat.lt_of_lt_of_le hk (closeT_le t i j), e⟩)
  refine (hb.block q hq.lt).trans ?_
  show (W.setCell ⟨gl, o, none⟩ u).heap[q]? = _
  exact (Below.heap_setCell W ⟨gl, o, none⟩ u q (hq.n h0.tl (by decide))).trans (hB.block q hq.lt)

/-- has one of the innermost scope panicked? -/
def panB (t : Tab) (n : Int) : Bool := (memL t n).any fun m => (t.th m).panicked
def clsE (t : Tab) (n : Int) : Int := if refB t n 1 then 2 else if waitsB t n then 2 else 0
def clsP (t : Tab) (n : Int) : Bool := if refB t n 1 then false else if waitsB t n then false else panB t n
def clsF (t : Tab) (n : Int) : Tab := if refB t n 1 then t else if waitsB t n then t else closeT t n.toNat

set_option maxRecDepth 100000 in
set_option maxHeartbeats 8000000 in
theorem close_in (n : Nat) (hn : 5 ≤ n) (g B : Nat) (t : Tab) (N : Int) (w : World) (hx : TabR w B g t) (hm9 : (memL t N).length ≤ 1000) (hml : ∀ m ∈ memL t N, m < t.n) :
    CallsIn Fence.wide n Try.prog 17 #[.pointer (some ⟨g, 0, none⟩), .int .i64 N] w fun e W' => e = .returned (.tuple #[.bool (clsP t N), .int .i64 (clsE t N)]) ∧ Left w B g (clsF t N) W' := by
  have h1 : 1 ≤ n := by omega
  have hrf := fun W (hW : Below w.heap.size w W) => (callsIn_wide (n := n - 1)).2 (refuse_any g B t N 1 W (hx.below hW) (if refB t N 1 then (2 : Int) else 0) rfl)
  have hws := fun W (hW : Below w.heap.size w W) => waits_in (n - 1) (by omega) g B t N W (hx.below hW) hm9 hml
  have HRF := Lib.hid hrf
  have HWS := Lib.hid hws
  clear hrf hws
  refine callsIn_of_wp_marks Try.func17 rfl trivial ?_ rfl
  simp only [Try.ntmps17, List.size_toArray, List.length_cons, List.length_nil, Nat.reduceAdd, Nat.reduceSub, Array.replicate_succ, Array.replicate_zero, List.push_toArray, List.append_toArray, List.nil_append, List.cons_append]
  obtain ⟨W2, hW2⟩ : ∃ W2, W2 = (w.alloc (.cells #[.pointer (some ⟨g, 0, none⟩)] 24)).alloc (.cells #[.bool false] 4) := ⟨_, rfl⟩
  have kT : Blk W2 w.heap.size 24 #[.pointer (some ⟨g, 0, none⟩)] := by rw [hW2]; exact (Blk.new w 24 _).alloc _
  have kR : Blk W2 (w.heap.size + 1) 4 #[.bool false] := by
    have h := Blk.new (w.alloc (.cells #[.pointer (some ⟨g, 0, none⟩)] 24)) 4 #[.bool false]
    rw [World.size_alloc] at h
    rw [hW2]; exact h
  have hB0 : Below w.heap.size w W2 := by rw [hW2]; exact ((Below.refl _ w).alloc (Nat.le_refl _) _).alloc (by simp) _
  have hBw : B ≤ w.heap.size := by
    obtain ⟨v, S, C, h⟩ := hx
    exact Nat.le_trans h.hB (Nat.le_of_lt h.lt)
  have hsame : ∀ W, Below w.heap.size w W → Left w B g t W := fun W h => Left.same hx h
  have HW2 := Lib.hid hW2
  clear hW2
  cases hr : refB t N 1
  rotate_left
  · rw [hr] at HRF
    have e1 : clsP t N = false := by unfold clsP; rw [hr]; rfl
    have e2 : clsE t N = 2 := by unfold clsE; rw [hr]; rfl
    have e3 : clsF t N = t := by unfold clsF; rw [hr]; rfl
    have c0 : W2.cell? ⟨w.heap.size, 0, none⟩ = some (.pointer (some ⟨g, 0, none⟩)) := kT.cell 0
    have c1 : W2.cell? ⟨w.heap.size + 1, 0, none⟩ = some (.bool false) := kR.cell 0
    have f1 := kR.frozen 0
    have l1 := kR.lt
    gi_wp2_with fail
    rw [← HW2.out]
    clear hr
    gi_wp2_with fail
    refine ⟨trivial, ?_⟩
    refine (HRF.out _ hB0).mono ?_
    rintro e w1 ⟨rfl, rfl⟩
    gi_wp2
    have hcs : (W2.setCell ⟨w.heap.size + 1, 0, none⟩ (.bool false)).cell? ⟨w.heap.size + 1, 0, none⟩ = some (.bool false) := World.cell?_setCell_same' _ _ _ (by rw [c1]; rfl)
    refine ⟨.tuple #[.bool false, .int .i64 2], ?_, by rw [e1, e2], by rw [e3]; exact hsame _ (hB0.setCell (p := ⟨w.heap.size + 1, 0, none⟩) (by simp) _)⟩
    simp [results, Try.f17, go_sem, hcs]
  · rw [hr] at HRF
    obtain ⟨i, rfl, hi, hne, hd1⟩ := refB_no hr
    have c0 : W2.cell? ⟨w.heap.size, 0, none⟩ = some (.pointer (some ⟨g, 0, none⟩)) := kT.cell 0
    have c1 : W2.cell? ⟨w.heap.size + 1, 0, none⟩ = some (.bool false) := kR.cell 0
    gi_wp2_with fail
    rw [← HW2.out]
    gi_wp2_with fail
    refine ⟨trivial, ?_⟩
    refine (HRF.out _ hB0).mono ?_
    rintro e w1 ⟨rfl, rfl⟩
    gi_wp2_with fail
    refine ⟨trivial, ?_⟩
    refine (HWS.out _ hB0).mono ?_
    rintro e w3 ⟨rfl, h3⟩
    have kT3 := kT.below h3 kT.lt
    have kR3 := kR.below h3 kR.lt
    have hB3 := hB0.trans (h3.mono hB0.size)
    clear c0 c1
    have c0 : w3.cell? ⟨w.heap.size, 0, none⟩ = some (.pointer (some ⟨g, 0, none⟩)) := kT3.cell 0
    have c1 : w3.cell? ⟨w.heap.size + 1, 0, none⟩ = some (.bool false) := kR3.cell 0
    have f1 := kR3.frozen 0
    have l1 := kR3.lt
    cases hw : waitsB t i
    rotate_left
    · have e1 : clsP t i = false := by unfold clsP; rw [hr, hw]; rfl
      have e2 : clsE t i = 2 := by unfold clsE; rw [hr, hw]; rfl
      have e3 : clsF t i = t := by unfold clsF; rw [hr, hw]; rfl
      clear hr hw
      gi_wp2
      have hcs : (w3.setCell ⟨w.heap.size + 1, 0, none⟩ (.bool false)).cell? ⟨w.heap.size + 1, 0, none⟩ = some (.bool false) := World.cell?_setCell_same' _ _ _ (by rw [c1]; rfl)
      refine ⟨.tuple #[.bool false, .int .i64 2], ?_, by rw [e1, e2], by rw [e3]; exact hsame _ (hB3.setCell (p := ⟨w.heap.size + 1, 0, none⟩) (by simp) _)⟩
      simp [results, Try.f17, go_sem, hcs]
    · have e1 : clsP t i = panB t i := by unfold clsP; rw [hr, hw]; rfl
      have e2 : clsE t i = 0 := by unfold clsE; rw [hr, hw]; rfl
      have e3 : clsF t i = closeT t i := by unfold clsF; rw [hr, hw]; rfl
      clear hr hw
      gi_wp2_with fail
      refine ⟨trivial, ?_⟩
      refine (members_in (n - 1) _ _ _).mono ?_
      rintro e w4 ⟨rfl, rfl⟩
      gi_wp2
      have bT := (Boxed.new w3 24 (.pointer (some ⟨g, 0, none⟩)))
      have b1 := bT
      have b2 := Boxed.new (w3.alloc (.cells #[.pointer (some ⟨g, 0, none⟩)] 24)) 3 (.int .i64 i)
      simp only [World.size_alloc] at b2
      have hs3 := hB3.size
      have hB0' : Below w.heap.size w ((w3.alloc (.cells #[.pointer (some ⟨g, 0, none⟩)] 24)).alloc (.cells #[.int .i64 i] 3)) := (hB3.alloc hs3 _).alloc (by simp; omega) _
      have hst := members_stops (n - 1) (by omega) w3.heap.size (w3.heap.size + 1) g B t i w _ hx hB0' ((b1.alloc _).cell) b2.cell (by simp; omega) (by simp) hm9 hml
      have kT4 := ((kT3.alloc (.cells #[.pointer (some ⟨g, 0, none⟩)] 24)).alloc (.cells #[.int .i64 i] 3))
      have kR4 := ((kR3.alloc (.cells #[.pointer (some ⟨g, 0, none⟩)] 24)).alloc (.cells #[.int .i64 i] 3))
      refine wpIn_rangeFunc_ownG rfl h1 (gf := 40) (lb := #[.pointer (some ⟨w3.heap.size, 0, none⟩), .pointer (some ⟨w3.heap.size + 1, 0, none⟩)]) rfl trivial (enters_of Try.func40 (by kernel_rfl) rfl)
        hst belowK_t (belowK_b (by simp; omega)) (Below.refl _ _) (fun _ => rfl)
        (fun pre W => (W.cell? ⟨w.heap.size, 0, none⟩ = some (.pointer (some ⟨g, 0, none⟩)) ∧ W.cell? ⟨w.heap.size + 1, 0, none⟩ = some (.bool (pre.any fun p => (t.th p.1).panicked)) ∧ W.frozen? ⟨w.heap.size + 1, 0, none⟩ = false) ∧ Below w.heap.size w W)
        (fun c pre W => False)
        (OwnFrom.and (Own.from (fun s A B row hs hg hr => ⟨cell_kept hs.1 hg hr, cell_kept hs.2.1 hg hr, (frozen_kept hs.2.1 hg hr).trans hs.2.2⟩) _) (ownFrom_below (Nat.le_refl _) (by simp; omega)))
        (fun c => Own.from (fun s A B row hs hg hr => hs) _)
        ⟨⟨kT4.cell 0, kR4.cell 0, kR4.frozen 0⟩, hB0'⟩
        (fun x => { tmps := #[.pointer (some ⟨g, 0, none⟩), .int .i64 i, .pointer (some ⟨w.heap.size, 0, none⟩), undef, .pointer (some ⟨w.heap.size + 1, 0, none⟩), .int .i64 0, .int .i64 0, natV x.1, undef, .pointer (some ⟨g, 0, none⟩), .int .i64 i, .int .i64 0, .int .i64 0, .bool false, undef, .pointer (some ⟨g, 0, none⟩), .int .i64 i, .bool false, .pointer (some ⟨g, 0, none⟩), .int .i64 i, .func (.func 40) #[] #[.pointer (some ⟨w3.heap.size, 0, none⟩), .pointer (some ⟨w3.heap.size + 1, 0, none⟩)], natV x.1, undef, undef, undef, undef, undef, undef, undef, undef, undef, undef, undef, undef, undef, undef, undef, undef, undef, undef, undef, undef, undef, undef, undef, undef, undef, undef, undef, undef, undef, undef, undef, undef, undef, undef, undef], defers := [] }) ?assign ?body ?done ?stop
      case assign =>
        intro l x W K hK
        gi_wp2
        exact hK
      case body =>
        rintro l pre ⟨x, hxn⟩ W ⟨⟨hct, hcr, hfr⟩, hB⟩ _
        clear hst
        obtain ⟨v, S, C, hxx⟩ := hx.below hB
        obtain ⟨gl, cl, rfl⟩ := hxx.l
        have c0' := hxx.box
        have d2 := (hxx.cells hxn).2.2.1
        have hxI : (x : Int) < (t.n : Int) := by omega
        have hx0 : (0 : Int) ≤ (x : Int) := by omega
        clear hxx
        unfold natV
        clear c0 c1 f1 l1 e1 e2 e3
        obtain ⟨xe, hxe⟩ : ∃ b, (t.th x).panicked = b := ⟨_, rfl⟩
        rw [hxe] at d2
        obtain ⟨pe, hpe⟩ : ∃ b, (pre.any fun p => (t.th p.1).panicked) = b := ⟨_, rfl⟩
        rw [hpe] at hcr
        have hap : ((pre ++ [(⟨x, hxn⟩ : Mb t)]).any fun p => (t.th p.1).panicked) = (pe || xe) := by simp [List.any_append, hpe, hxe]
        cases pe
        · gi_wp2
          exact ⟨(KeepsOthers.setCell _ _ _).from _, (Below.refl _ W).setCell (p := ⟨w.heap.size + 1, 0, none⟩) (by simp) _, ⟨hct.trans rfl |> fun h => (World.cell?_setCell_other W _ _ _ (by simp)).trans h, by rw [hap]; exact World.cell?_setCell_same' _ _ _ (by rw [hcr]; rfl), by simpa using hfr⟩, hB.setCell (p := ⟨w.heap.size + 1, 0, none⟩) (by simp) _⟩
        · gi_wp2
          exact ⟨(KeepsOthers.setCell _ _ _).from _, (Below.refl _ W).setCell (p := ⟨w.heap.size + 1, 0, none⟩) (by simp) _, ⟨hct.trans rfl |> fun h => (World.cell?_setCell_other W _ _ _ (by simp)).trans h, by rw [hap]; exact World.cell?_setCell_same' _ _ _ (by rw [hcr]; rfl), by simpa using hfr⟩, hB.setCell (p := ⟨w.heap.size + 1, 0, none⟩) (by simp) _⟩
      case done =>
        rintro D' ys W hD hys ⟨⟨hct, hcr, hfr⟩, hB⟩ hK
        clear hst c0 c1 f1 l1 kT4 kR4 kT3 kR3
        have hval : panB t i = (ys.any fun p => (t.th p.1).panicked) := by
          unfold panB
          rw [← hys, List.any_map]
          rfl
        rw [← hval] at hcr
        obtain ⟨v, S, C, hx0⟩ := hx
        obtain ⟨gl, cl, rfl⟩ := hx0.l
        obtain ⟨hgB, hgl⟩ := hx0.ol.lt gl rfl
        have hxx := hx0.below hB
        have HX0 := Lib.hid hx0
        clear hx0
        have q0 := hxx.box
        have d3 := (hxx.cells hi).2.2.2
        have fz := hxx.ol.frozenAt (i * 4 + 3)
        obtain ⟨ln, hln⟩ : ∃ ln, dep t i = ln + 1 := ⟨dep t i - 1, by omega⟩
        obtain ⟨gs, cs, hs⟩ := (hxx.os i hi).form (by omega)
        have hss := hxx.sform hi
        obtain ⟨As, cs', hs', hcs1, hcs2, hcs3⟩ := hss
        rw [hs, hln] at hs'
        obtain ⟨rfl, rfl⟩ : As = some ⟨gs, 0, none⟩ ∧ cs' = cs := by
          rw [Value.slice.injEq] at hs'
          exact ⟨hs'.1.symm, hs'.2.2.symm⟩
        rw [hs, hln] at d3
        rw [hln] at hs hcs1
        have HX := Lib.hid (hxx.closed hi hln hs)
        have HKT := Lib.hid (fun W' (hb : Below w.heap.size ((W.setCell ⟨gl, i * 4 + 3, none⟩ (.slice (some ⟨gs, 0, none⟩) ln ln)).drew) W') (hT : TabX W' B g (.slice (some ⟨gl, 0, none⟩) t.n cl) (updS S i (.slice (some ⟨gs, 0, none⟩) ln ln)) C (closeT t i)) => close_kpt HX0.out hB hb hT)
        have HKP := Lib.hid (fun W' => HX0.out.keep (W' := W') (W := (W.setCell ⟨gl, i * 4 + 3, none⟩ (.slice (some ⟨gs, 0, none⟩) ln ln)).drew) (t' := closeT t i) ⟨rfl, closeT_le t i⟩ (updS_own hs) ((TabX.below (hxx.closed hi hln hs) (Below.refl _ _).drew)))
        clear HX0
        clear hxx hs hs' hcs2
        have hiI : (i : Int) < (t.n : Int) := by omega
        have hi0 : (0 : Int) ≤ (i : Int) := by omega
        obtain ⟨pb, hpb⟩ : ∃ b, panB t i = b := ⟨_, rfl⟩
        rw [hpb] at hcr e1
        clear hval hpb
        gi_wp2_with fail
        have hsub : IntKind.i64.wrap (ln : Int) = (ln : Int) := by
          unfold maxLen at hcs3
          exact IntWalk.i64_in _ (by omega)
        have hlc : ln ≤ cs' := by omega
        have hlcI : (ln : Int) ≤ (cs' : Int) := by omega
        refine wpIn_wide.2 ?_
        go_still_tail 15, (by kernel_rfl)
        change wpList _ _ _ _ _ W.drew
        have hct' : W.drew.cell? ⟨w.heap.size, 0, none⟩ = some (.pointer (some ⟨g, 0, none⟩)) := hct
        have hfz : W.drew.frozen? ⟨gl, i * 4 + 3, none⟩ = false := fz
        have hd3' : W.drew.cell? ⟨gl, i * 4 + 3, none⟩ = some (.slice (some ⟨gs, 0, none⟩) (ln + 1) cs') := d3
        go_wp2
        obtain ⟨W5, hW5⟩ : ∃ W5, W5 = (W.setCell ⟨gl, i * 4 + 3, none⟩ (.slice (some ⟨gs, 0, none⟩) ln ln)).drew := ⟨_, rfl⟩
        rw [← hW5]
        have hcr5 : W5.cell? ⟨w.heap.size + 1, 0, none⟩ = some (.bool pb) := by
          rw [hW5]; exact (World.cell?_setCell_other W ⟨gl, i * 4 + 3, none⟩ ⟨w.heap.size + 1, 0, none⟩ _ (by intro e; rw [Addr.mk.injEq] at e; omega)).trans hcr
        have hfr5 : W5.frozen? ⟨w.heap.size + 1, 0, none⟩ = false := by
          rw [hW5]; simpa using hfr
        have HX5 := Lib.hid (show ∀ W', Below w.heap.size W5 W' → TabR W' B g (closeT t i) ∧ Kpt w B g W' from by rw [hW5]; exact fun W' hb => ⟨⟨_, _, _, HKP.out W' hb⟩, HKT.out W' hb (HKP.out W' hb)⟩)
        clear HKP HKT
        have HB5 := Lib.hid (show Below B w W5 from by rw [hW5]; exact ((hB.mono hBw).setCell (p := ⟨gl, i * 4 + 3, none⟩) hgB _).drew)
        have hK5 : W5.heap[D']? = some (.deferred (some [])) := by
          rw [hW5]; exact (KeepsOthers.setCell W ⟨gl, i * 4 + 3, none⟩ _).same D' _ hK rfl
        clear HX hK hct hct' hfz hd3' hcr hfr d3 q0 fz hW5
        gi_wp2
        have hK' := (KeepsOthers.setCell W5 ⟨w.heap.size + 1, 0, none⟩ (.bool pb)).same D' _ hK5 rfl
        refine ⟨by simp, .inl ⟨_, _, rfl, run_takeDeferred hK', ?_⟩⟩
        have hc5 := cell_kept (World.cell?_setCell_same' W5 ⟨w.heap.size + 1, 0, none⟩ (.bool pb) (by rw [hcr5]; rfl)) (grownBy_putObj' _ D' (.deferred none)) (fun r e => by cases e; exact ⟨_, hK', rfl⟩)
        refine ⟨.tuple #[.bool pb, .int .i64 0], ?_, by rw [e1, e2], ?_⟩
        · simp [results, Try.f17, go_sem, hc5]
        · rw [e3]
          have hbf := ((Below.refl w.heap.size W5).setCell (p := ⟨w.heap.size + 1, 0, none⟩) (by simp) (.bool pb)).trans (belowK_b (w := w) (Nat.le_refl _) (W5.setCell ⟨w.heap.size + 1, 0, none⟩ (.bool pb)) D' _ (.deferred none) (by simp at hD; omega) hK' rfl rfl)
          obtain ⟨ha, hb⟩ := HX5.out _ hbf
          exact ⟨ha, HB5.out.trans (hbf.mono hBw), hb⟩
      case stop =>
        rintro D' c pre W hD ⟨k, hk, hpre⟩ h hK
        exact h.elim
theorem close_any (g B : Nat) (t : Tab) (N : Int) (w : World) (hx : TabR w B g t) (hm9 : (memL t N).length ≤ 1000) (hml : ∀ m ∈ memL t N, m < t.n) :
    Calls Try.prog 17 #[.pointer (some ⟨g, 0, none⟩), .int .i64 N] w fun e W' => e = .returned (.tuple #[.bool (clsP t N), .int .i64 (clsE t N)]) ∧ Left w B g (clsF t N) W' :=
  (callsIn_wide (n := 5)).1 (close_in 5 (Nat.le_refl _) g B t N w hx hm9 hml)
end Go.Proofs.Ytnhhinlhfaapcaa
