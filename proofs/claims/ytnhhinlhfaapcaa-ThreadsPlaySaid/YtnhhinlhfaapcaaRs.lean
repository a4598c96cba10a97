/- Threads: what the document's table becomes. -/
import Derived.Test.YtnhhinlhfaapcaaR
import Derived.Deep.RegionHeld3
import Derived.StillTailTactics
namespace Go.Proofs.Ytnhhinlhfaapcaa
open Go.RowKit
set_option linter.unusedVariables false
set_option linter.unusedSimpArgs false

/-- append onto an own row, as one step of a region that draws its order -/
theorem step_app {P : Program} {ops : Array Oper} {o : Oper} {a : Act} {w : World} {K : Act → World → Prop} {Q : Exit → Act → World → Prop} {E : Prop}
    (hg : o.guard = none) (s x : Operand) (t : TypeId) (hop : o.op = Op.call { callee := Callee.builtin Builtin.append, args := #[s, x], argTypes := #[t, t] })
    (base : Nat) (e : TypeId) (i : TypeInfo) (z : Value) (size bytes : Nat) (h1 : P.underlying t = some (.slice e)) (h2 : P.info? e = some i) (h3 : i.zero = some z) (h4 : i.size = size) (h5 : i.bytes = bytes) (h6 : z.cells.size = size) (h7 : 0 < size)
    (v : Value) (n : Nat) (xs : List Value) (hs : a.eval s = v) (hown : w.ownsRow base e size v n xs)
    (A : Option Addr) (m c : Nat) (news : List Value) (hx : a.eval x = .slice A m c) (hn : news.length = m * size) (hc : (m = 0 ∧ A = none ∧ c = 0) ∨ ∃ ad, A = some ad ∧ ∀ j u, news[j]? = some u → w.cell? (ad.add j) = some u) (h1c : ∀ u ∈ news, u.oneCell' = true)
    (b1 : n + m ≤ maxLen) (b2 : (n + m) * bytes ≤ 140737488355328) (hbase : base ≤ w.heap.size)
    (hK : ∀ v' w', w'.ownsRow base e size v' (n + m) (xs ++ news) → w.grownBy w' v.ownBlock → K (a.put o.dst v') w') :
    if Region.wanted o (yielded ops a.tmps) = true then Oper.wp P o a w K Q else E := by
  have hw : Region.wanted o (yielded ops a.tmps) = true := by simp [Region.wanted, hg]
  rw [if_pos hw]
  rcases hc with ⟨rfl, rfl, rfl⟩ | ⟨ad, rfl, hc⟩
  · have hrun := run_append_owned_none (P := P) (w := w) base t o.type e i size h1 h2 v n xs hown
    obtain rfl : news = [] := List.eq_nil_of_length_eq_zero (by simpa using hn)
    unfold Oper.wp
    simp [execOp, hop, resolve, invoke, builtin, hs, hx, hrun, Result.andThen]
    exact hK v w (by rw [List.append_nil]; exact hown) ⟨rfl, rfl, rfl, Nat.le_refl _, fun _ _ _ => rfl⟩
  · obtain ⟨v', w', hrun, r1, r2, _, _⟩ := run_append_own_at (P := P) w base t o.type e i z size bytes h1 h2 h3 h4 h5 h6 h7 v n xs hown ad m c news hn hc h1c b1 b2 hbase
    unfold Oper.wp
    simp [execOp, hop, resolve, invoke, builtin, hs, hx, hrun, Result.andThen]
    exact hK v' w' r1 r2

/-- all but rows of the document's threads, and their boxes, is kept -/
def KeepR (w w' : World) : Prop := ∀ q e, Ty w q e → e ≠ 67 → e ≠ 70 → w'.heap[q]? = w.heap[q]?
def rrow (O : Nat → Value) (R : RTab) (q : Nat) : Prop := ∃ i, i < R.n ∧ (O i).ownBlock = some q
def RLeft (w : World) (B g : Nat) (O : Nat → Value) (R R' : RTab) (w' : World) : Prop :=
  ∃ O', RTabO w' B g O' R' ∧ Below B w w' ∧ KeepR w w' ∧ ∀ q, rrow O' R' q → rrow O R q ∨ w.heap.size ≤ q
theorem KeepR.trans {a b c : World} (h : KeepR a b) (h' : KeepR b c) : KeepR a c := fun q e ⟨cur, r, hq⟩ h1 h2 => (h' q e ⟨cur, r, (h q e ⟨cur, r, hq⟩ h1 h2).trans hq⟩ h1 h2).trans (h q e ⟨cur, r, hq⟩ h1 h2)
theorem KeepR.below {a b : World} (h : Below a.heap.size a b) : KeepR a b := fun q e hq _ _ => h.block q hq.lt
theorem KeepR.set_ {w : World} {gl o : Nat} {u : Value} {e' : TypeId} (h : Ty w gl e') (he : e' = 67 ∨ e' = 70) : KeepR w (w.setCell ⟨gl, o, none⟩ u) := fun q e hq h1 h2 => Below.heap_setCell w ⟨gl, o, none⟩ u q (hq.ne h (by rcases he with rfl | rfl <;> assumption))
theorem KeepR.grown {w w' : World} {gl : Nat} {e' : TypeId} (hg : w.grownBy w' (some gl)) (h : Ty w gl e') (he : e' = 67 ∨ e' = 70) : KeepR w w' := fun q e hq h1 h2 => hg.block q hq.lt (fun e0 => hq.ne h (by rcases he with rfl | rfl <;> assumption) (by simpa using e0))
theorem RLeft.same {w w' : World} {B g : Nat} {O : Nat → Value} {R : RTab} (h : RTabO w B g O R) (hb : Below w.heap.size w w') : RLeft w B g O R R w' :=
  ⟨O, h.below hb, hb.mono h.hBw, KeepR.below hb, fun q hq => .inl hq⟩

def rset (R : RTab) (i : Nat) (x : RTh) : RTab := ⟨R.n, fun k => if k = i then x else R.th k⟩
theorem rset_at (R : RTab) (i k : Nat) (x : RTh) : (rset R i x).th k = if k = i then x else R.th k := rfl
section
variable {W : World} {B g gl cl : Nat} {O : Nat → Value} {R : RTab}
theorem RTabX.store {R' : RTab} {O' : Nat → Value} {i j : Nat} {u : Value} (h : RTabX W B g (.slice (some ⟨gl, 0, none⟩) R.n cl) O R) (hi : i < R.n) (hj : j < 6) (hn : R'.n = R.n)
    (hc : ∀ k, k < R.n → rthC (R'.th k) (O' k) = if k = i then (rthC (R.th k) (O k)).set j u else rthC (R.th k) (O k))
    (ho : ∀ k, k < R.n → W.ownsRow B 3 1 (O' k) (R'.th k).opn.length ((R'.th k).opn.map natV)) :
    RTabX (W.setCell ⟨gl, i * 6 + j, none⟩ u) B g (.slice (some ⟨gl, 0, none⟩) R.n cl) O' R' := by
  refine ⟨h.hB, by rw [hn]; exact h.hn, h.blk.far (fun e => h.tl.ne h.blk.ty (by decide) e.symm) _, ?_, fun k hk => ?_⟩
  · have hst := (h.ol.stored (i * 6 + j) u).1
    rw [ch6_set (f := fun i => rthC (R.th i) (O i)) (fun i => rfl) hi hj u] at hst
    rw [hn]
    have e : ch (fun k => rthC (R'.th k) (O' k)) R.n = ch (fun k => if k = i then (rthC (R.th k) (O k)).set j u else rthC (R.th k) (O k)) R.n := ch_congr hc
    rw [e]
    exact hst
  · rw [hn] at hk
    exact own_far (ho k hk) (gset W gl (i * 6 + j) u) (fun q hq => (own_ty (ho k hk) hq).ne h.tl (by decide))
theorem RTabX.stay {i : Nat} {x : RTh} {j : Nat} {u : Value} (h : RTabX W B g (.slice (some ⟨gl, 0, none⟩) R.n cl) O R) (hi : i < R.n) (hj : j < 6) (hx : x.opn = (R.th i).opn)
    (hc : rthC x (O i) = (rthC (R.th i) (O i)).set j u) : RTabX (W.setCell ⟨gl, i * 6 + j, none⟩ u) B g (.slice (some ⟨gl, 0, none⟩) R.n cl) O (rset R i x) := by
  refine h.store hi hj rfl (fun k hk => ?_) (fun k hk => ?_)
  · rw [rset_at]
    split
    · rename_i e; subst e; exact hc
    · rfl
  · rw [rset_at]
    split
    · rename_i e; subst e; rw [hx]; exact h.oi k hk
    · exact h.oi k hk
end
/-! ### End -/
def rendR (R : RTab) (i : Nat) (p : Bool) : RTab := rset (rset R i { R.th i with ended := true }) i { R.th i with ended := true, pan := p }
def rEndBad (R : RTab) (n : Int) : Bool := (rat R n).ended || decide (0 < (rat R n).opn.length)
def rEnd (R : RTab) (n : Int) (p : Bool) : RTab := if rEndBad R n then R else rendR R n.toNat p
theorem r_no {R : RTab} {n : Int} (h : (rat R n).ended = false) : ∃ i : Nat, n = (i : Int) ∧ i < R.n ∧ (R.th i).ended = false := by
  rcases rcases3 R n with ⟨h0, ha⟩ | ⟨h0, h1, ha⟩ | ⟨i, rfl, hi⟩
  · rw [ha] at h; cases h
  · rw [ha] at h; cases h
  · exact ⟨i, rfl, hi, by rw [← rat_in hi]; exact h⟩
set_option maxHeartbeats 3200000 in
theorem r_end (g B : Nat) (O : Nat → Value) (R : RTab) (n : Int) (p : Bool) (w : World) (h : RTabO w B g O R) :
    Calls Try.prog 26 #[.pointer (some ⟨g, 0, none⟩), .int .i64 n, .bool p] w fun r w' => r = .returned (.int .i64 (if rEndBad R n then 2 else 0)) ∧ RLeft w B g O R (rEnd R n p) w' := by
  have HR := Lib.hid (r_runs g B O R n w h)
  have HD := Lib.hid (r_depth g B O R n w h)
  cases he : (rat R n).ended
  rotate_left
  · have HE := Lib.hid (show rEndBad R n = true by unfold rEndBad; rw [he]; rfl)
    have HL := Lib.hid (show RLeft w B g O R (rEnd R n p) w by unfold rEnd; rw [HE.out]; exact RLeft.same h (Below.refl _ _))
    rw [he] at HR
    rw [HE.out]
    clear h he
    go_enter Try.func26, Try.ntmps26
    go_wp2_with fail
    refine HR.out.mono ?_
    rintro r w1 ⟨rfl, rfl⟩
    go_wp2
    go_ret
    exact ⟨rfl, HL.out⟩
  · rw [he] at HR
    obtain ⟨d, hd⟩ : ∃ d, (rat R n).opn.length = d := ⟨_, rfl⟩
    rw [hd] at HD
    by_cases hz : 0 < d
    · have hzI : (0 : Int) < (d : Int) := by omega
      have HE := Lib.hid (show rEndBad R n = true by unfold rEndBad; rw [he, hd, decide_eq_true hz]; rfl)
      have HL := Lib.hid (show RLeft w B g O R (rEnd R n p) w by unfold rEnd; rw [HE.out]; exact RLeft.same h (Below.refl _ _))
      rw [HE.out]
      clear h he hd
      go_enter Try.func26, Try.ntmps26
      go_wp2_with fail
      refine HR.out.mono ?_
      rintro r w1 ⟨rfl, rfl⟩
      go_wp2_with fail
      refine HD.out.mono ?_
      rintro r w1 ⟨rfl, rfl⟩
      go_wp2
      go_ret
      exact ⟨rfl, HL.out⟩
    · have hzI : ¬ (0 : Int) < (d : Int) := by omega
      have HE := Lib.hid (show rEndBad R n = false by unfold rEndBad; rw [he, hd, decide_eq_false hz]; rfl)
      obtain ⟨i, rfl, hi, _⟩ := r_no he
      have HT := Lib.hid (show rEnd R i p = rendR R i p by unfold rEnd; rw [HE.out]; rfl)
      rw [HE.out, HT.out]
      have hB := h.hBw
      obtain ⟨v, hx⟩ := h
      obtain ⟨gl, cl, rfl⟩ := hx.l
      have c0 := hx.box
      obtain ⟨_, _, d2, d3, _, _⟩ := hx.cells hi
      have fz := hx.ol.frozenAt
      have f2 := fz (i * 6 + 2)
      have f3 := fz (i * 6 + 3)
      have hiI : (i : Int) < (R.n : Int) := by omega
      have hi0 : (0 : Int) ≤ (i : Int) := by omega
      have hx1 := hx.stay (x := { R.th i with ended := true }) (j := 2) (u := .bool true) hi (by omega) rfl rfl
      have hx2 := RTabX.stay (R := rset R i { R.th i with ended := true }) (i := i) (x := { R.th i with ended := true, pan := p }) (j := 3) (u := .bool p) hx1 hi (by omega) (by rw [rset_at, if_pos rfl]) (by rw [rset_at, if_pos rfl]; rfl)
      have hk := (KeepR.set_ (o := i * 6 + 2) (u := .bool true) hx.tl (.inl rfl)).trans (KeepR.set_ (o := i * 6 + 3) (u := .bool p) hx.tl.set_ (.inl rfl))
      have hgl := (hx.ol.lt gl rfl).1
      have HL := Lib.hid (show RLeft w B g O R (rendR R i p) ((w.setCell ⟨gl, i * 6 + 2, none⟩ (.bool true)).setCell ⟨gl, i * 6 + 3, none⟩ (.bool p)) from ⟨O, ⟨_, hx2⟩, ((Below.refl B w).setCell (p := ⟨gl, i * 6 + 2, none⟩) hgl _).setCell (p := ⟨gl, i * 6 + 3, none⟩) hgl _, hk, fun q hq => .inl hq⟩)
      have c0b := hx1.box
      clear hx hx1 hx2 hk fz he hd
      go_enter Try.func26, Try.ntmps26
      go_wp2_with fail
      refine HR.out.mono ?_
      rintro r w1 ⟨rfl, rfl⟩
      go_wp2_with fail
      refine HD.out.mono ?_
      rintro r w1 ⟨rfl, rfl⟩
      go_wp2
      go_ret
      exact ⟨rfl, HL.out⟩
end Go.Proofs.Ytnhhinlhfaapcaa
