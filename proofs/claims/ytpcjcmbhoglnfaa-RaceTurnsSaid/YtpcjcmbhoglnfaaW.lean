/- Race: contracts of a trace's read, Bad, May. -/
import Derived.Test.YtpcjcmbhoglnfaaV
namespace Go.Proofs.Ytpcjcmbhoglnfaa
open Go.RowKit Go.Shelf
set_option linter.unusedVariables false
set_option linter.unusedSimpArgs false
attribute [local go_sem] Oper.semAt_some

theorem bad_in (n : Nat) (gs : Nat) (A : Option Addr) (len c : Nat) (w : World) :
    CallsIn Fence.wide n Try.prog 41 #[.pointer (some ⟨gs, 0, none⟩), .slice A len c] w fun e w' => e = .returned (.func (.func 48) #[] #[.pointer (some ⟨w.heap.size + 1, 0, none⟩), .pointer (some ⟨w.heap.size, 0, none⟩)]) ∧ w' = (w.alloc (.cells #[.pointer (some ⟨gs, 0, none⟩)] 69)).alloc (.cells #[.slice A len c] 22) := by
  have hmf : ∀ (fn : Fn) (first cap : Array Value) (w : World), (Instr.makeFunc fn first cap).run Try.prog w = .ok (.func fn first cap) w := fun _ _ _ _ => rfl
  refine callsIn_of_wp Try.func41 rfl trivial ?_ rfl
  simp only [Try.ntmps41, List.size_toArray, List.length_cons, List.length_nil, Nat.reduceAdd, Nat.reduceSub, Array.replicate_succ, Array.replicate_zero, List.push_toArray, List.append_toArray, List.nil_append, List.cons_append]
  gi_wp2
  go_ret
  exact ⟨rfl, rfl⟩

/-- what read leaves -/
def ReadP (w : World) (L : List Ev) (r : Ending) (w' : World) : Prop := ∃ i n : Int, r = .returned (.tuple #[.int .i64 i, .int .i64 n]) ∧ decide (0 ≤ i) = (!mayB L) ∧ Below w.heap.size w w'

def readW (w : World) (A : Option Addr) (len c : Nat) : World :=
  (((((w.alloc (.cells #[.int .i64 0] 3)).alloc (.cells #[.int .i64 0] 3)).alloc (.cells #[.bool false] 4)).alloc
    (.cells #[.slice (some ⟨w.heap.size + 1 + 1, 0, none⟩) 1 1] 71)).alloc (.cells #[.pointer (some ⟨w.heap.size + 1 + 1 + 1, 0, none⟩)] 69)).alloc (.cells #[.slice A len c] 22)
structure ReadS (w : World) (A : Option Addr) (len c : Nat) (W : World) : Prop where
  sz : W.heap.size = w.heap.size + 6
  bel : Below w.heap.size w W
  r0 : Blk W w.heap.size 3 #[.int .i64 0]
  r1 : Blk W (w.heap.size + 1) 3 #[.int .i64 0]
  ts : TS W (w.heap.size + 2) (w.heap.size + 3) [false]
  bs : Blk W (w.heap.size + 4) 69 #[.pointer (some ⟨w.heap.size + 3, 0, none⟩)]
  bl : Blk W (w.heap.size + 5) 22 #[.slice A len c]
theorem Blk.at_ {w : World} {g : Nat} {t : TypeId} {cs : Array Value} (hg : w.heap.size = g) : Blk (w.alloc (.cells cs t)) g t cs := by rw [← hg]; exact Blk.new w t cs
theorem readW_s (w : World) (A : Option Addr) (len c : Nat) : ReadS w A len c (readW w A len c) := by
  unfold readW
  refine ⟨by simp, ?_, ?_, ?_, ?_, ?_, ?_⟩
  · exact ((((((Below.refl _ w).alloc (Nat.le_refl _) _).alloc (by simp) _).alloc (by simp; omega) _).alloc (by simp; omega) _).alloc (by simp; omega) _).alloc (by simp; omega) _
  · exact (((((Blk.new w 3 _).alloc _).alloc _).alloc _).alloc _).alloc _
  · exact ((((Blk.at_ (by simp)).alloc _).alloc _).alloc _).alloc _
  · refine ⟨by omega, .slice (some ⟨w.heap.size + 1 + 1, 0, none⟩) 1 1, ((Blk.at_ (by simp)).alloc _).alloc _, ?_⟩
    have h := World.ownsRow_lit (base := w.heap.size + 2) (e := 4) (size := 1) ((w.alloc (.cells #[.int .i64 0] 3)).alloc (.cells #[.int .i64 0] 3)) #[.bool false] 1 (by simp) (by unfold maxLen; omega) rfl
    simp only [World.size_alloc] at h
    exact ((h.alloc _).alloc _).alloc _
  · exact (Blk.at_ (by simp)).alloc _
  · exact Blk.at_ (by simp)
theorem TS.odd {w w' : World} {B gs l : Nat} {E : List Bool} (h : TS w B gs E) (hg : w.grownBy w' (some l)) (ho : Odd w l) : TS w' B gs E := by
  obtain ⟨hB, v, hb, hown⟩ := h
  obtain ⟨o, hl, hc⟩ := ho
  have h1 : gs ≠ l := by
    rintro rfl
    unfold Blk at hb
    rw [hl] at hb
    cases hb; cases hc
  refine ⟨hB, v, hb.grown hg (by simpa using h1), hown.kept hg ?_⟩
  rcases hown.2 with ⟨rfl, _⟩ | ⟨g, cap, cur, rfl, _, hh, _⟩
  · exact .inl rfl
  · refine .inr ?_
    intro e
    have e2 : g = l := by simpa [Value.ownBlock] using e
    subst e2
    rw [hl] at hh
    cases hh; cases hc
/-- what stands where a bad event was found -/
def ReadI (w : World) (L : List Ev) (W : World) : Prop := mayB L = false ∧ (∃ i : Nat, Blk W w.heap.size 3 #[.int .i64 i]) ∧ Blk W (w.heap.size + 1) 3 #[.int .i64 0] ∧ Below w.heap.size w W

set_option maxRecDepth 100000 in
set_option maxHeartbeats 6400000 in
theorem read_in (n : Nat) (hn : 3 ≤ n) (A : Option Addr) (len c : Nat) (L : List Ev) (hlen : L.length = len) (hN : len ≤ 60000) (w : World) (rd : Rd w w.heap.size 4 evC A L) (ok : ∀ x ∈ L, EvOk w w.heap.size x) :
    CallsIn Fence.wide n Try.prog 34 #[.slice A len c] w (ReadP w L) := by
  have h1 : 1 ≤ n := by omega
  have hS := readW_s w A len c
  have HS := Lib.hid hS
  have HRD := Lib.hid rd
  have HOK := Lib.hid ok
  have HL := Lib.hid hlen
  clear hS rd ok hlen
  refine callsIn_of_wp_marks Try.func34 rfl trivial ?_ rfl
  simp only [Try.ntmps34, List.size_toArray, List.length_cons, List.length_nil, Nat.reduceAdd, Nat.reduceSub, Array.replicate_succ, Array.replicate_zero, List.push_toArray, List.append_toArray, List.nil_append, List.cons_append]
  gi_wp2_with fail
  refine ⟨trivial, ?_⟩
  refine (bad_in (n - 1) _ _ _ _ _).mono ?_
  rintro e w1 ⟨rfl, rfl⟩
  gi_wp2
  obtain ⟨W, hW⟩ : ∃ W, W = readW w A len c := ⟨_, rfl⟩
  have HSW := HS
  rw [← hW] at HSW
  unfold readW at hW
  rw [← hW]
  clear hW HS
  have hsz := HSW.out.sz
  refine rangeFirst rfl h1 (gf := 48) (lb := #[.pointer (some ⟨w.heap.size + 1 + 1 + 1 + 1 + 1, 0, none⟩), .pointer (some ⟨w.heap.size + 1 + 1 + 1 + 1, 0, none⟩)]) rfl trivial (enters_of Try.func48 (by kernel_rfl) rfl)
    (encs := fun i : Nat => #[Value.int .i64 i]) (fun _ => rfl) (BadX L (w.heap.size + 2)) (BadD L (w.heap.size + 2) (w.heap.size + 3)) (ReadI w L) ?seq
    (fun i => { tmps := #[.slice A len c, undef, .pointer (some ⟨w.heap.size, 0, none⟩), .pointer (some ⟨w.heap.size + 1, 0, none⟩), .pointer (some ⟨w.heap.size + 1 + 1 + 1, 0, none⟩), .int .i64 i, .slice (some ⟨w.heap.size + 1 + 1, 0, none⟩) 1 1, .agg #[.slice (some ⟨w.heap.size + 1 + 1, 0, none⟩) 1 1], .pointer (some ⟨w.heap.size + 1 + 1 + 1, 0, none⟩), .pointer (some ⟨w.heap.size + 1 + 1 + 1, 0, none⟩), .slice A len c, .func (.func 48) #[] #[.pointer (some ⟨w.heap.size + 1 + 1 + 1 + 1 + 1, 0, none⟩), .pointer (some ⟨w.heap.size + 1 + 1 + 1 + 1, 0, none⟩)], .int .i64 i, undef, undef, undef, undef, undef, undef], defers := [] }) ?assign ?body ?ix ?done ?stop
  case seq =>
    intro l W1 S hb hY
    have hT : TS W1 (w.heap.size + 2) (w.heap.size + 3) [false] := HSW.out.ts.below hb
    have hbw : Below w.heap.size w W1 := HSW.out.bel.trans (hb.mono (by omega))
    exact bad1_in (n - 1) (by omega) l (w.heap.size + 5) (w.heap.size + 4) (w.heap.size + 3) (w.heap.size + 2) w.heap.size A len c L HL.out hN (by omega) W1 S hY (HSW.out.bl.below hb HSW.out.bl.lt) (HSW.out.bs.below hb HSW.out.bs.lt) hT (HRD.out.below hbw) (fun x hx => (HOK.out x hx).below hbw)
  case assign =>
    intro l x W K hK
    gi_wp2
    exact hK
  case body =>
    intro l i W1 Wa W2 hb hk hX hg hl hodd
    have hb1 : Below (w.heap.size + 2) W Wa := (hb.mono (by omega)).trans hX.1
    have hne : ∀ g : Nat, g < w.heap.size + 2 → some g ≠ some l := by intro g hg e; cases e; omega
    have c0 := ((HSW.out.r0.below hb1 (by omega)).grown hg (hne _ (by omega)))
    have c1 := ((HSW.out.r1.below hb1 (by omega)).grown hg (hne _ (by omega)))
    have hW2 : Below w.heap.size w W2 := (HSW.out.bel.trans (hb1.mono (by omega))).grown hg (by have := hb1.size; omega) (fun k e => by cases e; omega)
    have q0 := c0.cell 0
    have q1 := c1.cell 0
    rw [show ∀ v : Value, (#[v] : Array Value)[0]? = some v from fun _ => rfl] at q0 q1
    have f0 := c0.frozen 0
    have f1 := c1.frozen 0
    have HM := Lib.hid hX.2
    have HW2 := Lib.hid hW2
    have HC0 := Lib.hid c0
    have HC1 := Lib.hid c1
    clear hX hb hk hg hodd hb1 hne hW2 c0 c1
    gi_wp2
    refine ⟨(KeepsOthers.setCell _ _ _).trans (KeepsOthers.setCell _ _ _), HM.out, ⟨i, ?_⟩, ?_, ?_⟩
    · have := (HC0.out.set_ 0 (.int .i64 i)).far (p := ⟨w.heap.size + 1, 0, none⟩) (by simp) (.int .i64 0)
      exact this
    · have := (HC1.out.far (p := ⟨w.heap.size, 0, none⟩) (by simp) (.int .i64 i)).set_ 0 (.int .i64 0)
      exact this
    · exact (HW2.out.setCell (p := ⟨w.heap.size, 0, none⟩) (Nat.le_refl _) _).setCell (p := ⟨w.heap.size + 1, 0, none⟩) (by simp) _
  case ix =>
    rintro Wa Wb l ⟨hm, ⟨i, h0⟩, h1, hb⟩ hg hl hodd
    exact ⟨hm, ⟨i, h0.grown hg (by intro e; cases e; omega)⟩, h1.grown hg (by intro e; cases e; omega), hb.grown hg hb.size (fun k e => by cases e; omega)⟩
  case done =>
    intro D l W1 Wa W2 hb hk hD hg hl hodd hDD hK
    obtain ⟨hbB, hm, E, hT⟩ := hD
    have hT2 := hT.odd hg hodd
    obtain ⟨_, v, hbk, hown⟩ := hT2
    obtain ⟨A2, c2, rfl⟩ := own_slice hown
    have hb1 : Below (w.heap.size + 2) W Wa := (hb.mono (by omega)).trans hbB
    have hne : ∀ g : Nat, g < w.heap.size + 2 → some g ≠ some l := by intro g hg e; cases e; omega
    have c0 := ((HSW.out.r0.below hb1 (by omega)).grown hg (hne _ (by omega)))
    have c1 := ((HSW.out.r1.below hb1 (by omega)).grown hg (hne _ (by omega)))
    have hW2 : Below w.heap.size w W2 := (HSW.out.bel.trans (hb1.mono (by omega))).grown hg (by have := hb1.size; omega) (fun k e => by cases e; omega)
    have q0 := c0.cell 0
    have q1 := c1.cell 0
    have q3 := hbk.cell 0
    rw [show ∀ v : Value, (#[v] : Array Value)[0]? = some v from fun _ => rfl] at q0 q1 q3
    have f0 := c0.frozen 0
    have f1 := c1.frozen 0
    obtain ⟨m, hm0⟩ : ∃ m, m = E.length := ⟨_, rfl⟩
    rw [← hm0] at q3
    have HM := Lib.hid hm
    have HW2 := Lib.hid hW2
    have HC0 := Lib.hid c0
    have HC1 := Lib.hid c1
    have HK := Lib.hid hK
    clear hm hb hk hg hodd hb1 hne hW2 c0 c1 hbk hown hT hbB hm0 hK
    gi_wp2
    gi_region
    gi_wp2
    have hK2 : ((W2.setCell ⟨w.heap.size, 0, none⟩ (.int .i64 (-1))).setCell ⟨w.heap.size + 1, 0, none⟩ (.int .i64 m)).drew.heap[D]? = some (.deferred (some [])) := ((KeepsOthers.setCell W2 ⟨w.heap.size, 0, none⟩ (.int .i64 (-1))).trans (KeepsOthers.setCell _ ⟨w.heap.size + 1, 0, none⟩ (.int .i64 m))).same D _ HK.out rfl
    refine ⟨by simp, .inl ⟨_, _, rfl, run_takeDeferred hK2, ?_⟩⟩
    have hg := put_grown ((W2.setCell ⟨w.heap.size, 0, none⟩ (.int .i64 (-1))).setCell ⟨w.heap.size + 1, 0, none⟩ (.int .i64 m)).drew D (.deferred none)
    have e0 : Blk ((W2.setCell ⟨w.heap.size, 0, none⟩ (.int .i64 (-1))).setCell ⟨w.heap.size + 1, 0, none⟩ (.int .i64 m)).drew w.heap.size 3 #[.int .i64 (-1)] := (HC0.out.set_ 0 (.int .i64 (-1))).far (p := ⟨w.heap.size + 1, 0, none⟩) (by simp) (.int .i64 m)
    have e1 : Blk ((W2.setCell ⟨w.heap.size, 0, none⟩ (.int .i64 (-1))).setCell ⟨w.heap.size + 1, 0, none⟩ (.int .i64 m)).drew (w.heap.size + 1) 3 #[.int .i64 m] := (HC1.out.far (p := ⟨w.heap.size, 0, none⟩) (by simp) (.int .i64 (-1))).set_ 0 (.int .i64 m)
    have p0 := (e0.grown hg (by intro e; cases e; omega)).cell 0
    have p1 := (e1.grown hg (by intro e; cases e; omega)).cell 0
    rw [show ∀ v : Value, (#[v] : Array Value)[0]? = some v from fun _ => rfl] at p0 p1
    have hBB : Below w.heap.size w ((W2.setCell ⟨w.heap.size, 0, none⟩ (.int .i64 (-1))).setCell ⟨w.heap.size + 1, 0, none⟩ (.int .i64 m)).drew := ((HW2.out.setCell (p := ⟨w.heap.size, 0, none⟩) (Nat.le_refl _) _).setCell (p := ⟨w.heap.size + 1, 0, none⟩) (by simp) _).drew
    refine ⟨.tuple #[.int .i64 (-1), .int .i64 m], ?_, _, _, rfl, by rw [HM.out]; simp, hBB.grown hg hBB.size (fun k e => by cases e; omega)⟩
    clear q0 q1 q3 f0 f1 e0 e1 hBB hg hK2
    simp [results, Try.f34, go_sem, p0, p1]
  case stop =>
    rintro D Wa hD ⟨hm, ⟨i, h0⟩, h1, hb⟩ hK
    gi_wp2
    refine ⟨by simp, .inl ⟨_, _, rfl, run_takeDeferred hK, ?_⟩⟩
    have hg := put_grown Wa D (.deferred none)
    have q0 := (h0.grown hg (by intro e; cases e; omega)).cell 0
    have q1 := (h1.grown hg (by intro e; cases e; omega)).cell 0
    rw [show ∀ v : Value, (#[v] : Array Value)[0]? = some v from fun _ => rfl] at q0 q1
    refine ⟨.tuple #[.int .i64 i, .int .i64 0], ?_, _, _, rfl, by rw [hm]; simp, hb.grown hg hb.size (fun k e => by cases e; omega)⟩
    simp [results, Try.f34, go_sem, q0, q1]
theorem read_any (A : Option Addr) (len c : Nat) (L : List Ev) (hlen : L.length = len) (hN : len ≤ 60000) (w : World) (rd : Rd w w.heap.size 4 evC A L) (ok : ∀ x ∈ L, EvOk w w.heap.size x) :
    Calls Try.prog 34 #[.slice A len c] w (ReadP w L) := (callsIn_wide (n := 3)).1 (read_in 3 (Nat.le_refl _) A len c L hlen hN w rd ok)
theorem badI_any (A : Option Addr) (len c : Nat) (L : List Ev) (hlen : L.length = len) (hN : len ≤ 60000) (w : World) (rd : Rd w w.heap.size 4 evC A L) (ok : ∀ x ∈ L, EvOk w w.heap.size x) :
    Calls Try.prog 26 #[.slice A len c] w fun r w' => (∃ i : Int, r = .returned (.int .i64 i) ∧ decide (0 ≤ i) = (!mayB L)) ∧ Below w.heap.size w w' := by
  have H := Lib.hid (read_any A len c L hlen hN w rd ok)
  clear rd ok hlen
  go_enter Try.func26, Try.ntmps26
  go_wp2_with fail
  refine H.out.mono ?_
  rintro r w' ⟨i, m, rfl, hi, hb⟩
  have HI := Lib.hid hi
  clear hi
  go_wp2
  go_ret
  exact ⟨⟨i, rfl, HI.out⟩, hb⟩
theorem may_any {A : Option Addr} {len c : Nat} {L : List Ev} (b : Bool) (hlen : L.length = len) (hN : len ≤ 60000) {w : World} (rd : Rd w w.heap.size 4 evC A L) (ok : ∀ x ∈ L, EvOk w w.heap.size x) (hb : mayB L = b) :
    Calls Try.prog 14 #[.slice A len c] w fun r w' => r = .returned (.int .i64 (if b then 0 else 250)) ∧ Below w.heap.size w w' := by
  have H := Lib.hid (badI_any A len c L hlen hN w rd ok)
  have HB := Lib.hid hb
  clear rd ok hlen hb
  cases b
  all_goals
    go_enter Try.func14, Try.ntmps14
    go_wp2_with fail
    refine H.out.mono ?_
    rintro r w' ⟨⟨i, rfl, hi⟩, hb⟩
    rw [HB.out] at hi
    simp only [Bool.not_true, Bool.not_false] at hi
    go_wp2
    go_ret
    exact ⟨rfl, hb⟩
end Go.Proofs.Ytpcjcmbhoglnfaa
