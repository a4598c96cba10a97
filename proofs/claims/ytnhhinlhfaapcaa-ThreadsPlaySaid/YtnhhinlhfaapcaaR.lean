/- Threads: the document's table in memory; its Runs, Depth. -/
import Derived.Test.YtnhhinlhfaapcaaWaitW
namespace Go.Proofs.Ytnhhinlhfaapcaa
open Go.RowKit
set_option linter.unusedVariables false
set_option linter.unusedSimpArgs false

theorem ch6_len {f : Nat → List Value} (hf : ∀ i, (f i).length = 6) : ∀ n, (ch f n).length = n * 6
  | 0 => rfl
  | n + 1 => by rw [ch_succ, List.length_append, ch6_len hf n, hf]; omega
theorem ch6_at {f : Nat → List Value} (hf : ∀ i, (f i).length = 6) : ∀ {n i j : Nat}, i < n → j < 6 → (ch f n)[i * 6 + j]? = (f i)[j]?
  | n + 1, i, j, hi, hj => by
    rw [ch_succ]
    rcases Nat.lt_or_ge i n with h | h
    · rw [List.getElem?_append_left (by rw [ch6_len hf]; omega)]
      exact ch6_at hf h hj
    · obtain rfl : i = n := by omega
      rw [List.getElem?_append_right (by rw [ch6_len hf]; omega), ch6_len hf, Nat.add_sub_cancel_left]
theorem ch6_set {f : Nat → List Value} (hf : ∀ i, (f i).length = 6) {n m j : Nat} (hm : m < n) (hj : j < 6) (u : Value) : (ch f n).set (m * 6 + j) u = ch (fun i => if i = m then (f i).set j u else f i) n := by
  have hg : ∀ i, ((fun i => if i = m then (f i).set j u else f i) i).length = 6 := by
    intro i
    show (if i = m then (f i).set j u else f i).length = 6
    split
    · rw [List.length_set, hf]
    · exact hf i
  apply List.ext_getElem?
  intro k
  by_cases hk : k < n * 6
  · obtain ⟨i, q, hq, rfl⟩ : ∃ i q, q < 6 ∧ k = i * 6 + q := ⟨k / 6, k % 6, Nat.mod_lt _ (by decide), by omega⟩
    have hi : i < n := by omega
    rw [ch6_at hg hi hq, List.getElem?_set]
    by_cases e : m * 6 + j = i * 6 + q
    · obtain rfl : m = i := by omega
      obtain rfl : j = q := by omega
      rw [if_pos rfl, if_pos (by rw [ch6_len hf]; omega), if_pos rfl, List.getElem?_set, if_pos rfl, if_pos (by rw [hf]; omega)]
    · rw [if_neg e, ch6_at hf hi hq]
      by_cases e2 : i = m
      · subst e2
        rw [if_pos rfl, List.getElem?_set, if_neg (by omega)]
      · rw [if_neg e2]
  · rw [List.getElem?_eq_none (by rw [List.length_set, ch6_len hf]; omega), List.getElem?_eq_none (by rw [ch6_len hg]; omega)]


structure RTh where
  parent : Int
  inn : Nat
  ended : Bool
  pan : Bool
  opened : Nat
  opn : List Nat
structure RTab where
  n : Nat
  th : Nat → RTh
def rthC (x : RTh) (o : Value) : List Value := [.int .i64 x.parent, natV x.inn, .bool x.ended, .bool x.pan, natV x.opened, o]
structure RTabX (W : World) (B g : Nat) (v : Value) (O : Nat → Value) (R : RTab) : Prop where
  hB : B ≤ g
  hn : 0 < R.n
  blk : Blk W g 70 #[v]
  ol : W.ownsRow B 67 6 v R.n (ch (fun i => rthC (R.th i) (O i)) R.n)
  oi : ∀ i, i < R.n → W.ownsRow B 3 1 (O i) (R.th i).opn.length ((R.th i).opn.map natV)
def RTabO (W : World) (B g : Nat) (O : Nat → Value) (R : RTab) : Prop := ∃ v, RTabX W B g v O R
section
variable {W W' : World} {B g gl cl : Nat} {v : Value} {O : Nat → Value} {R : RTab}
theorem RTabX.l (h : RTabX W B g v O R) : ∃ gl cl, v = .slice (some ⟨gl, 0, none⟩) R.n cl := by
  rcases h.ol.2 with ⟨_, h2⟩ | ⟨gl, cl, _, h2, _⟩
  · have := h.hn; omega
  · exact ⟨gl, cl, h2⟩
theorem RTabX.box (h : RTabX W B g v O R) : W.cell? ⟨g, 0, none⟩ = some v := h.blk.cell 0
theorem RTabX.below (h : RTabX W B g v O R) (hb : Below W.heap.size W W') : RTabX W' B g v O R :=
  ⟨h.hB, h.hn, h.blk.below hb h.blk.lt, own_below h.ol hb, fun i hi => own_below (h.oi i hi) hb⟩
theorem RTabO.below (h : RTabO W B g O R) (hb : Below W.heap.size W W') : RTabO W' B g O R := by
  obtain ⟨v, h⟩ := h
  exact ⟨v, h.below hb⟩
theorem RTabO.hBw (h : RTabO W B g O R) : B ≤ W.heap.size := by
  obtain ⟨v, h⟩ := h
  exact Nat.le_trans h.hB (Nat.le_of_lt h.blk.lt)
theorem RTabX.cells (h : RTabX W B g (.slice (some ⟨gl, 0, none⟩) R.n cl) O R) {i : Nat} (hi : i < R.n) :
    W.cell? ⟨gl, i * 6, none⟩ = some (.int .i64 (R.th i).parent) ∧ W.cell? ⟨gl, i * 6 + 1, none⟩ = some (.int .i64 (R.th i).inn) ∧ W.cell? ⟨gl, i * 6 + 2, none⟩ = some (.bool (R.th i).ended) ∧ W.cell? ⟨gl, i * 6 + 3, none⟩ = some (.bool (R.th i).pan) ∧ W.cell? ⟨gl, i * 6 + 4, none⟩ = some (.int .i64 (R.th i).opened) ∧ W.cell? ⟨gl, i * 6 + 5, none⟩ = some (O i) := by
  have hf : ∀ i, ((fun i => rthC (R.th i) (O i)) i).length = 6 := fun i => rfl
  have hc := fun (j : Nat) (hj : j < 6) => (h.ol.cellAt (i * 6 + j) (by omega)).trans (ch6_at hf hi hj)
  exact ⟨hc 0 (by omega), hc 1 (by omega), hc 2 (by omega), hc 3 (by omega), hc 4 (by omega), hc 5 (by omega)⟩
theorem RTabX.oform (h : RTabX W B g v O R) {i : Nat} (hi : i < R.n) : ∃ A cap, O i = .slice A (R.th i).opn.length cap := own_slice (h.oi i hi)
theorem RTabX.tl (h : RTabX W B g (.slice (some ⟨gl, 0, none⟩) R.n cl) O R) : Ty W gl 67 := own_ty h.ol rfl
end
def rnoTh : RTh := ⟨-1, 0, true, false, 0, []⟩
def rhas (R : RTab) (n : Int) : Bool := decide (0 ≤ n) && decide (n < R.n)
def rat (R : RTab) (n : Int) : RTh := if rhas R n then R.th n.toNat else rnoTh
theorem rhas_in {R : RTab} {i : Nat} (hi : i < R.n) : rhas R (i : Int) = true := by simp [rhas]; omega
theorem rat_in {R : RTab} {i : Nat} (hi : i < R.n) : rat R (i : Int) = R.th i := by unfold rat; rw [rhas_in hi]; rfl
theorem rcases3 (R : RTab) (n : Int) : (n < 0 ∧ rat R n = rnoTh) ∨ (0 ≤ n ∧ (R.n : Int) ≤ n ∧ rat R n = rnoTh) ∨ ∃ i : Nat, n = (i : Int) ∧ i < R.n := by
  by_cases h0 : n < 0
  · exact .inl ⟨h0, by unfold rat rhas; rw [decide_eq_false (by omega)]; rfl⟩
  · by_cases h1 : (R.n : Int) ≤ n
    · refine .inr (.inl ⟨by omega, h1, ?_⟩)
      unfold rat rhas
      rw [decide_eq_true (by omega), decide_eq_false (by omega)]
      rfl
    · exact .inr (.inr ⟨n.toNat, by omega, by omega⟩)
theorem r_runs (g B : Nat) (O : Nat → Value) (R : RTab) (n : Int) (w : World) (h : RTabO w B g O R) : Calls Try.prog 34 #[.pointer (some ⟨g, 0, none⟩), .int .i64 n] w fun r w' => r = .returned (.bool (!(rat R n).ended)) ∧ w = w' := by
  obtain ⟨v, h⟩ := h
  obtain ⟨gl, cl, rfl⟩ := h.l
  have c0 := h.box
  rcases rcases3 R n with ⟨h0, ha⟩ | ⟨h0, h1, ha⟩ | ⟨i, rfl, hi⟩
  · have HA := Lib.hid ha
    have h0' : ¬ (0 : Int) ≤ n := by omega
    clear h ha
    go_enter Try.func34, Try.ntmps34
    go_wp2
    go_ret
    exact ⟨by rw [HA.out]; rfl, rfl⟩
  · have HA := Lib.hid ha
    have h0' : ¬ n < 0 := by omega
    have h1' : ¬ n < (R.n : Int) := by omega
    clear h ha
    go_enter Try.func34, Try.ntmps34
    go_wp2
    go_ret
    exact ⟨by rw [HA.out]; rfl, rfl⟩
  · have HA := Lib.hid (rat_in hi)
    obtain ⟨d0, d1, d2, d3, d4, d5⟩ := h.cells hi
    obtain ⟨A, c, e5⟩ := h.oform hi
    rw [e5] at d5
    have hiI : (i : Int) < (R.n : Int) := by omega
    have hi0 : (0 : Int) ≤ (i : Int) := by omega
    have hi0' : ¬ (i : Int) < 0 := by omega
    have hiN' : ¬ (R.n : Int) ≤ (i : Int) := by omega
    obtain ⟨x, hx⟩ : ∃ x, R.th i = x := ⟨_, rfl⟩
    rw [hx] at d0 d1 d2 d3 d4 d5 HA
    obtain ⟨ln, hln⟩ : ∃ m, x.opn.length = m := ⟨_, rfl⟩
    rw [hln] at d5
    obtain ⟨xe, hxe⟩ : ∃ b, x.ended = b := ⟨_, rfl⟩
    rw [hxe] at d2
    have HL := Lib.hid hln
    have HE := Lib.hid hxe
    clear h e5 hx hln hxe d0 d1 d3 d4
    go_enter Try.func34, Try.ntmps34
    go_wp2
    go_ret
    exact ⟨by rw [HA.out, HE.out]; rfl, rfl⟩
theorem r_depth (g B : Nat) (O : Nat → Value) (R : RTab) (n : Int) (w : World) (h : RTabO w B g O R) : Calls Try.prog 35 #[.pointer (some ⟨g, 0, none⟩), .int .i64 n] w fun r w' => r = .returned (.int .i64 (rat R n).opn.length) ∧ w = w' := by
  obtain ⟨v, h⟩ := h
  obtain ⟨gl, cl, rfl⟩ := h.l
  have c0 := h.box
  rcases rcases3 R n with ⟨h0, ha⟩ | ⟨h0, h1, ha⟩ | ⟨i, rfl, hi⟩
  · have HA := Lib.hid ha
    have h0' : ¬ (0 : Int) ≤ n := by omega
    clear h ha
    go_enter Try.func35, Try.ntmps35
    go_wp2
    go_ret
    exact ⟨by rw [HA.out]; rfl, rfl⟩
  · have HA := Lib.hid ha
    have h0' : ¬ n < 0 := by omega
    have h1' : ¬ n < (R.n : Int) := by omega
    clear h ha
    go_enter Try.func35, Try.ntmps35
    go_wp2
    go_ret
    exact ⟨by rw [HA.out]; rfl, rfl⟩
  · have HA := Lib.hid (rat_in hi)
    obtain ⟨d0, d1, d2, d3, d4, d5⟩ := h.cells hi
    obtain ⟨A, c, e5⟩ := h.oform hi
    rw [e5] at d5
    have hiI : (i : Int) < (R.n : Int) := by omega
    have hi0 : (0 : Int) ≤ (i : Int) := by omega
    have hi0' : ¬ (i : Int) < 0 := by omega
    have hiN' : ¬ (R.n : Int) ≤ (i : Int) := by omega
    obtain ⟨x, hx⟩ : ∃ x, R.th i = x := ⟨_, rfl⟩
    rw [hx] at d0 d1 d2 d3 d4 d5 HA
    obtain ⟨ln, hln⟩ : ∃ m, x.opn.length = m := ⟨_, rfl⟩
    rw [hln] at d5
    obtain ⟨xe, hxe⟩ : ∃ b, x.ended = b := ⟨_, rfl⟩
    rw [hxe] at d2
    have HL := Lib.hid hln
    have HE := Lib.hid hxe
    clear h e5 hx hln hxe d0 d1 d3 d4
    go_enter Try.func35, Try.ntmps35
    go_wp2
    go_ret
    exact ⟨by rw [HA.out, HL.out]; rfl, rfl⟩
/-! ### Members -/
def rlast (R : RTab) (n : Int) : Nat := (rat R n).opn.getLastD 0
def rin (R : RTab) (n : Int) (i : Nat) : Bool := decide ((R.th i).parent = n) && decide ((R.th i).inn = rlast R n)
def rmk (R : RTab) (n : Int) (k : Nat) : List Nat := (List.range k).filter (rin R n)
def rMem (R : RTab) (n : Int) : List Nat := if (rat R n).opn.length = 0 then [] else rmk R n R.n
theorem rmk_succ (R : RTab) (n : Int) (k : Nat) : rmk R n (k + 1) = rmk R n k ++ (if rin R n k then [k] else []) := by
  unfold rmk
  rw [List.range_succ, List.filter_append]
  congr 1
  simp [List.filter_cons]
theorem rmk_len (R : RTab) (n : Int) (k : Nat) : (rmk R n k).length ≤ k := by
  unfold rmk
  exact Nat.le_trans (List.length_filter_le _ _) (by simp)
set_option maxRecDepth 100000 in
set_option maxHeartbeats 6400000 in
theorem r_members (g B : Nat) (O : Nat → Value) (R : RTab) (n : Int) (w : World) (h : RTabO w B g O R) (hN : R.n ≤ 1000) (hop : ∀ i, i < R.n → (R.th i).opn.length ≤ 1000000) : Calls Try.prog 37 #[.pointer (some ⟨g, 0, none⟩), .int .i64 n] w fun r w' => ∃ v, r = .returned v ∧ w'.ownsRow w.heap.size 3 1 v (rMem R n).length ((rMem R n).map natV) ∧ Below w.heap.size w w' := by
  obtain ⟨i0, hi0, hz0, hz1, hz2⟩ := info_parts info3
  have HD := Lib.hid (r_depth g B O R n w h)
  by_cases hz : (rat R n).opn.length = 0
  · have HM := Lib.hid (show rMem R n = [] from if_pos hz)
    rw [hz] at HD
    clear h hz
    go_enter Try.func37, Try.ntmps37
    go_wp2_with fail
    refine HD.out.mono ?_
    rintro r w1 ⟨rfl, rfl⟩
    go_wp2
    go_ret
    exact ⟨_, rfl, by rw [HM.out]; exact World.ownsRow_nil _ _ _ _, Below.refl _ _⟩
  · obtain ⟨ln, hln⟩ : ∃ m, (rat R n).opn.length = m + 1 := ⟨(rat R n).opn.length - 1, by omega⟩
    rcases rcases3 R n with ⟨h0, ha⟩ | ⟨h0, h1, ha⟩ | ⟨i, rfl, hi⟩
    · rw [ha] at hln; cases hln
    · rw [ha] at hln; cases hln
    have HM := Lib.hid (show rMem R i = rmk R i R.n from if_neg hz)
    rw [hln] at HD
    have hop' := hop i hi
    rw [rat_in hi] at hln
    have HLA := Lib.hid (show (R.th i).opn[ln]? = some (rlast R i) by
      unfold rlast
      rw [rat_in hi, List.getLastD_eq_getLast?, List.getLast?_eq_getElem?, hln, Nat.add_sub_cancel, List.getElem?_eq_getElem (by omega)]
      rfl)
    obtain ⟨v, hx⟩ := h
    obtain ⟨gl, cl, rfl⟩ := hx.l
    have c0 := hx.box
    have d5 := (hx.cells hi).2.2.2.2.2
    obtain ⟨A, c, e5⟩ := hx.oform hi
    have ho := hx.oi i hi
    rw [e5, hln] at ho
    obtain ⟨go, rfl⟩ : ∃ go, A = some ⟨go, 0, none⟩ := by
      rcases ho.2 with ⟨h1, h2⟩ | ⟨gm, cap, cur, h1, _⟩
      · omega
      · rw [Value.slice.injEq] at h1; exact ⟨gm, h1.1⟩
    have c6 := ho.cellAt ln (by omega)
    rw [List.getElem?_map, HLA.out] at c6
    replace c6 : w.cell? ⟨go, ln, none⟩ = some (.int .i64 (rlast R i)) := c6
    rw [e5, hln] at d5
    obtain ⟨la, hla⟩ : ∃ x, rlast R i = x := ⟨_, rfl⟩
    rw [hla] at c6
    have hiI : (i : Int) < (R.n : Int) := by omega
    have hii0 : (0 : Int) ≤ (i : Int) := by omega
    have hlw : IntKind.i64.wrap (ln : Int) = (ln : Int) := IntWalk.i64_in _ (by omega)
    have hl0 : (0 : Int) ≤ (ln : Int) := by omega
    have hl1 : (ln : Int) < (ln : Int) + 1 := by omega
    have hl2 : (ln : Int) < ((ln + 1 : Nat) : Int) := by omega
    have hl3 : ln < ln + 1 := by omega
    obtain ⟨nr, hnr⟩ : ∃ m, R.n = m := ⟨_, rfl⟩
    have HX := Lib.hid hx
    have HLV := Lib.hid hla
    have HNR := Lib.hid hnr
    have HI := Lib.hid hi
    rw [hnr] at c0 hiI hN HM
    clear hx hz hln ho e5 hla hop hnr
    go_enter Try.func37, Try.ntmps37
    go_wp2_with fail
    refine HD.out.mono ?_
    rintro r w1 ⟨rfl, rfl⟩
    go_upto_region 4 with fail
    go_still (by kernel_rfl)
    change Exit.then _ _ _ _ w.drew
    obtain ⟨wd, hwd⟩ : ∃ wd, wd = w.drew := ⟨_, rfl⟩
    rw [← hwd]
    have HBd := Lib.hid (show Below w.heap.size w wd by rw [hwd]; exact (Below.refl _ _).drew)
    clear hwd c0 c6 d5 hlw hl0 hl1 hl2 hl3
    go_wp2
    go_loopw [5, 7] (fun v q wr => ∃ k : Nat, k ≤ nr ∧ q = .int .i64 k ∧ wr.ownsRow w.heap.size 3 1 v (rmk R (i : Int) k).length ((rmk R (i : Int) k).map natV) ∧ Below w.heap.size w wr) (fun _ i _ => nr - (intOf i).toNat)
    case atStart => exact ⟨0, by omega, rfl, World.ownsRow_nil _ _ _ _, HBd.out⟩
    case round =>
      obtain ⟨k, hk, rfl, ho, hB⟩ := hrel
      obtain ⟨nm, hnm⟩ : ∃ m, (rmk R (i : Int) k).length = m := ⟨_, rfl⟩
      have hnk : nm ≤ k := by rw [← hnm]; exact rmk_len R (i : Int) k
      rw [hnm] at ho
      obtain ⟨Av, cv, rfl⟩ := own_slice ho
      have HO := Lib.hid ho
      have HB := Lib.hid hB
      have HNM := Lib.hid hnm
      have hsz := hB.size
      have hxr := HX.out.below hB
      have c0 := hxr.box
      rw [HNR.out] at c0
      clear ho hB hnm
      by_cases hlt : k < nr
      · have hlI : (k : Int) < (nr : Int) := by omega
        have hk0 : (0 : Int) ≤ (k : Int) := by omega
        obtain ⟨e0, e1, _⟩ := hxr.cells (i := k) (by rw [HNR.out]; exact hlt)
        clear hxr
        obtain ⟨pp, hpp⟩ : ∃ x, (R.th k).parent = x := ⟨_, rfl⟩
        obtain ⟨pi, hpi⟩ : ∃ x, (R.th k).inn = x := ⟨_, rfl⟩
        rw [hpp] at e0
        rw [hpi] at e1
        have HRI := Lib.hid (show rin R (i : Int) k = (decide (pp = (i : Int)) && decide (pi = la)) by unfold rin; rw [hpp, hpi, HLV.out])
        have HSU := Lib.hid (rmk_succ R (i : Int) k)
        clear hpp hpi
        by_cases h1 : pp = (i : Int)
        · by_cases h2 : pi = la
          · have HY := Lib.hid (show rin R (i : Int) k = true by rw [HRI.out, decide_eq_true h1, decide_eq_true h2]; rfl)
            have h2I : (pi : Int) = (la : Int) := by omega
            rw [h1] at e0
            rw [h2] at e1
            clear h1 h2 h2I HRI
            go_wp2_with (at_builtin; refine wpList_append_own_at _ rfl _ _ 29 rfl w.heap.size 3 i0 (.int .i64 0) 1 8 Try.underlying29 hi0 hz0 hz1 hz2 rfl (by decide) (.slice Av nm cv) nm _ rfl (HO.out.alloc _) ⟨wr.heap.size, 0, none⟩ 1 1 [.int .i64 k] rfl rfl (cell_one_new _ _ _) (by intro u hu; simp at hu; subst hu; rfl) (by unfold maxLen; omega) (by omega) (by simp; omega) ?_; intro nv w2 hown2 hg2 _ hl2)
            have HO2 := Lib.hid hown2
            have HB2 := Lib.hid ((HB.out.alloc hsz (.cells #[.int .i64 k] 3)).grown hg2 (by simp; omega) (fun q hq => (HO.out.lt q hq).1))
            clear hown2 hg2 hl2
            go_wp2
            go_roundw
            case rel => exact ⟨k + 1, by omega, by go_num, by rw [HSU.out, HY.out, if_pos rfl, List.length_append, HNM.out, List.map_append]; exact HO2.out, HB2.out⟩
            case measure => simp [intOf] <;> omega
          · have HY := Lib.hid (show rin R (i : Int) k = false by rw [HRI.out, decide_eq_false h2, Bool.and_false])
            have h2I : ¬ (pi : Int) = (la : Int) := by omega
            rw [h1] at e0
            clear h1 HRI
            go_wp2
            go_roundw
            case rel => exact ⟨k + 1, by omega, by go_num, by rw [HSU.out, HY.out, if_neg (by decide), List.append_nil, HNM.out]; exact HO.out, HB.out⟩
            case measure => simp [intOf] <;> omega
        · have HY := Lib.hid (show rin R (i : Int) k = false by rw [HRI.out, decide_eq_false h1, Bool.false_and])
          have h1d : decide (pp = (i : Int)) = false := decide_eq_false h1
          clear HRI
          go_wp2
          go_roundw
          case rel => exact ⟨k + 1, by omega, by go_num, by rw [HSU.out, HY.out, if_neg (by decide), List.append_nil, HNM.out]; exact HO.out, HB.out⟩
          case measure => simp [intOf] <;> omega
      · obtain rfl : nr = k := by omega
        clear hxr
        go_wp2
        go_ret
        exact ⟨_, rfl, by rw [HM.out, HNM.out]; exact HO.out, HB.out⟩
end Go.Proofs.Ytnhhinlhfaapcaa
