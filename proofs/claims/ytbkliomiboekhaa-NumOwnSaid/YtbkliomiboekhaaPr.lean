/- Numbers: the contract of Print. -/
import Derived.Test.YtbkliomiboekhaaArgs
import Derived.Test.YtbkliomiboekhaaND
import Derived.LoopTactic
import Derived.OpenShut
import Derived.Lib.Strings
import Derived.Laws.BytesArg
import Derived.BigRegion
namespace Go.Proofs.Ytbkliomiboekhaa
open Go.RowKit
set_option linter.unusedVariables false

def byV (c : UInt8) : Value := .int .u8 (c.toNat : Int)
theorem info5 : (Try.prog.info? 5).map (fun i => (i.zero, i.size, i.bytes)) = some (some (.int .u8 0), 1, 1) := by kernel_rfl
theorem byV_one (c : UInt8) : ∀ u ∈ [byV c], u.oneCell' = true := by intro u hu; simp at hu; subst hu; rfl

theorem rdigs_len : ∀ (k n : Nat), 0 < k → n < 10 ^ k → (rdigs n).length ≤ k
  | 0, _, h, _ => by omega
  | 1, n, _, h => by rw [rdigs_lt (by omega)]; simp
  | k + 2, n, _, h => by
    by_cases h10 : n < 10
    · rw [rdigs_lt h10]; simp
    · rw [rdigs_ge h10, List.length_cons]
      have := rdigs_len (k + 1) (n / 10) (by omega) (by rw [Nat.pow_succ] at h; omega)
      omega
theorem rdigs_ne (n : Nat) : rdigs n ≠ [] := by
  by_cases h : n < 10
  · rw [rdigs_lt h]; simp
  · rw [rdigs_ge h]; simp
theorem pri_rev (a : Int) : priL a = (if a < 0 then rdigs a.natAbs ++ [45] else rdigs a.natAbs).reverse := by
  unfold priL digs
  split <;> simp

/-- what the first loop keeps -/
def PL (M : Nat) (more : Bool) (n : Nat) (done : List UInt8) : Prop := n ≤ M ∧ (more = true → rdigs M = done ++ rdigs n) ∧ (more = false → rdigs M = done)
theorem PL.step {M n : Nat} {done : List UInt8} (h : PL M true n done) : PL M (decide (0 < n / 10)) (n / 10) (done ++ [dch (n % 10)]) := by
  obtain ⟨h1, h2, _⟩ := h
  have h2 := h2 rfl
  refine ⟨Nat.le_trans (Nat.div_le_self n 10) h1, fun h => ?_, fun h => ?_⟩
  · have h10 : ¬ n < 10 := by have := of_decide_eq_true h; omega
    rw [h2, rdigs_ge h10]; simp
  · have h10 : n < 10 := by have := of_decide_eq_false h; omega
    rw [h2, rdigs_lt h10, Nat.mod_eq_of_lt h10]
theorem PL.room {M n : Nat} {done : List UInt8} (h : PL M true n done) : done.length < (rdigs M).length := by
  rw [h.2.1 rfl, List.length_append]
  have : 0 < (rdigs n).length := by
    cases h : rdigs n with
    | nil => exact absurd h (rdigs_ne n)
    | cons _ _ => simp
  omega
theorem dch_val {n : Nat} (h : n < 10) : byV (dch n) = .int .u8 (48 + (n : Int)) := by
  unfold byV
  rw [toNat_dig h]; rfl

/-- turned about, but for the middle -/
def Rv (R : List UInt8) (p : Nat) (X : List UInt8) : Prop := X.length = R.length ∧ ∀ j, j < R.length → X[j]? = (if j < p ∨ R.length ≤ j + p then R.reverse[j]? else R[j]?)
theorem Rv.start (R : List UInt8) : Rv R 0 R := ⟨rfl, fun j hj => by rw [if_neg (by omega)]⟩
theorem Rv.step {R X : List UInt8} {p k : Nat} {x y : UInt8} (h : Rv R p X) (hk : p + k + 1 = R.length) (hlt : p < k) (hx : X[p]? = some x) (hy : X[k]? = some y) : Rv R (p + 1) ((X.set p y).set k x) := by
  obtain ⟨h1, h2⟩ := h
  have hxp := h2 p (by omega)
  have hyk := h2 k (by omega)
  rw [if_neg (by omega), hx] at hxp
  rw [if_neg (by omega), hy] at hyk
  refine ⟨by simpa using h1, fun j hj => ?_⟩
  have hrev : ∀ i, i < R.length → R.reverse[i]? = R[R.length - 1 - i]? := fun i hi => List.getElem?_reverse hi
  by_cases hjk : j = k
  · subst hjk
    rw [List.getElem?_set_self (by simp; omega), if_pos (by omega), hrev _ hj]
    rw [show R.length - 1 - j = p by omega, ← hxp]
  · rw [List.getElem?_set_ne (by omega)]
    by_cases hjp : j = p
    · subst hjp
      rw [List.getElem?_set_self (by omega), if_pos (by omega), hrev _ hj]
      rw [show R.length - 1 - j = k by omega, ← hyk]
    · rw [List.getElem?_set_ne (by omega), h2 j hj]
      by_cases hc : j < p ∨ R.length ≤ j + p
      · rw [if_pos hc, if_pos (by omega)]
      · rw [if_neg hc, if_neg (by omega)]
theorem Rv.done {R X : List UInt8} {p k : Nat} (h : Rv R p X) (hk : p + k + 1 = R.length) (hge : ¬ p < k) : X = R.reverse := by
  obtain ⟨h1, h2⟩ := h
  apply List.ext_getElem?
  intro j
  by_cases hj : j < R.length
  · rw [h2 j hj]
    by_cases hc : j < p ∨ R.length ≤ j + p
    · rw [if_pos hc]
    · rw [if_neg hc, List.getElem?_reverse hj, show R.length - 1 - j = j by omega]
  · rw [List.getElem?_eq_none (by omega), List.getElem?_eq_none (by simp; omega)]

theorem back_string (l : List UInt8) : strOfNums (l.map (fun c => (c.toNat : Int))) = ⟨l.toArray⟩ := by
  unfold strOfNums
  rw [List.map_map]
  congr 2
  conv => rhs; rw [← List.map_id l]
  apply List.map_congr_left
  intro c _
  simp
theorem run_back (W : World) (g len cap : Nat) (l : List UInt8) (hl : l.length = len) (hc : ∀ i, i < len → W.cell? ⟨g, i, none⟩ = (l.map byV)[i]?) :
    (convert 37 9 (.slice (some ⟨g, 0, none⟩) len cap)).run Try.prog W = .ok (.string ⟨l.toArray⟩) W := by
  rw [← back_string]
  refine run_convert_bytes_arg (P := Try.prog) W 37 5 Try.underlying37 Try.underlying5 g 0 len cap (l.map (fun c => (c.toNat : Int))) (by simpa using hl) (fun i hi => ?_) 9 Try.underlying9
  rw [Nat.zero_add, hc i hi]
  have hi' : i < l.length := by omega
  simp [List.getD, List.getElem?_eq_getElem hi', byV]

def lenV : Value → Nat
  | .slice _ n _ => n
  | _ => 0
theorem own_len {W : World} {base : Nat} {e : TypeId} {size : Nat} {v : Value} {k : Nat} {xs : List Value} (h : W.ownsRow base e size v k xs) : lenV v = k := by
  obtain ⟨A, c, rfl⟩ := own_slice h
  rfl

theorem own_far {W : World} {base : Nat} {e : TypeId} {size : Nat} {v : Value} {k : Nat} {xs : List Value} {p : Addr} (h : W.ownsRow base e size v k xs) (hne : v.ownBlock ≠ some p.block) (u : Value) : (W.setCell p u).ownsRow base e size v k xs :=
  h.kept (row := some p.block) ⟨rfl, rfl, rfl, by simp [World.setCell], fun k _ hk => Below.heap_setCell _ _ _ k (fun e => hk (by rw [e]))⟩ (.inr hne)

set_option maxHeartbeats 4000000 in
theorem print_any (a : Int) (w : World) (a1 : -9223372036854775808 ≤ a) (a2 : a ≤ 9223372036854775807) :
    Calls Try.prog 26 #[.int .i64 a] w fun r w' => r = .returned (.string ⟨(priL a).toArray⟩) ∧ Below w.heap.size w w' := by
  obtain ⟨i0, hi0, hz0, hz1, hz2⟩ := info_parts info5
  have hlen := rdigs_len 19 a.natAbs (by omega) (by omega)
  obtain ⟨M, hM⟩ : ∃ M, M = a.natAbs := ⟨_, rfl⟩
  have hmag : magn a = (M : Int) := by unfold magn; split <;> omega
  have HMB := Lib.hid (show M ≤ 9223372036854775808 by omega)
  have HA := Lib.hid (And.intro a1 a2)
  have HPR := Lib.hid (pri_rev a)
  rw [← hM] at hlen HPR
  have HLEN := Lib.hid hlen
  obtain ⟨sg, hsg⟩ : ∃ sg, sg = decide (a < 0) := ⟨_, rfl⟩
  have HSG := Lib.hid hsg
  have HOF := Lib.hid (fun W => of_any a W a1 a2)
  simp only [hmag, ← hsg] at HOF
  clear a1 a2 hlen hM hmag hsg
  go_enter Try.func26, Try.ntmps26
  go_wp2_with fail
  refine (HOF.out _).mono ?_
  rintro r w1 ⟨rfl, hb1⟩
  have HB1 := Lib.hid hb1
  clear hb1
  go_wp2
  go_loopw [4, 5] (fun v m wr => ∃ (n : Nat) (done : List UInt8) (mb : Bool), m = .bool mb ∧ wr.ownsRow w.heap.size 5 1 v done.length (done.map byV) ∧ Blk wr w1.heap.size 46 #[.bool sg, .int .u64 n] ∧ PL M mb n done ∧ Below w.heap.size w wr) (fun v _ _ => (rdigs M).length - lenV v)
  case atStart => exact ⟨M, [], true, rfl, World.ownsRow_nil _ _ _ _, Blk.new _ _ _, ⟨Nat.le_refl _, fun _ => rfl, fun h => by cases h⟩, HB1.out.alloc HB1.out.size _⟩
  case round =>
    obtain ⟨n, done, mb, rfl, hown, hblk, hpl, hbel⟩ := hrel
    obtain ⟨A, cv, rfl⟩ := own_slice hown
    have c0 := hblk.cell 0
    have c1 := hblk.cell 1
    have f0 := hblk.frozen 0
    have f1 := hblk.frozen 1
    have hlb := hblk.lt
    have HO := Lib.hid hown
    have HBK := Lib.hid hblk
    have HPL := Lib.hid hpl
    have HBE := Lib.hid hbel
    clear hown hblk hpl hbel
    cases mb
    · have hd : rdigs M = done := HPL.out.2.2 rfl
      have hr19 := HLEN.out
      have HDN := Lib.hid (show done ≠ [] by rw [← hd]; exact rdigs_ne M)
      cases sg
      · have HPRR := Lib.hid (show priL a = done.reverse by rw [HPR.out, if_neg (of_decide_eq_false HSG.out.symm), hd])
        have HRL := Lib.hid (show 0 < done.length ∧ done.length ≤ 20 by
          constructor
          · cases done with
            | nil => exact absurd rfl HDN.out
            | cons _ _ => simp
          · rw [← hd]; omega)
        have HOR := HO
        have HBR := HBE
        clear hd hr19 HO HBE HPL HDN HPR
        obtain ⟨q, hq⟩ : ∃ q, done.length = q + 1 := ⟨done.length - 1, by have := HRL.out.1; omega⟩
        obtain ⟨g, rfl⟩ : ∃ g, A = some ⟨g, 0, none⟩ := by
          have h := HOR.out
          rw [hq] at h
          obtain ⟨g, cap, e⟩ := own_succ h
          injection e with e1
          exact ⟨g, e1⟩
        have hql : (done.length : Int) - 1 = (q : Int) := by omega
        have hq20 : q ≤ 19 := by have := HRL.out.2; omega
        have HQL := Lib.hid hq
        clear hq
        go_wp2
        go_loopw [6, 7] (fun i k wr => ∃ (p k' : Nat) (X : List UInt8), p + k' + 1 = done.length ∧ i = .int .i64 p ∧ k = .int .i64 k' ∧ wr.ownsRow w.heap.size 5 1 (.slice (some ⟨g, 0, none⟩) done.length cv) done.length (X.map byV) ∧ Rv done p X ∧ Below w.heap.size w wr) (fun _ k _ => (intOf k).toNat)
        case atStart => exact ⟨0, q, done, by have := HQL.out; omega, rfl, rfl, HOR.out, Rv.start done, HBR.out⟩
        case round =>
          obtain ⟨p, k, X, hpk, rfl, rfl, hown, hrv, hbel⟩ := hrel
          have HO := Lib.hid hown
          have HRV := Lib.hid hrv
          have HBE := Lib.hid hbel
          have HPK := Lib.hid hpk
          have HK := Lib.hid (show k ≤ q by have := HQL.out; omega)
          clear hown hrv hbel hpk
          by_cases hlt : p < k
          · have hXl := HRV.out.1
            have hkl : k < X.length := by have := HPK.out; omega
            have hpl : p < X.length := by omega
            obtain ⟨x, hx⟩ : ∃ x, X[p]? = some x := ⟨_, List.getElem?_eq_getElem hpl⟩
            obtain ⟨y, hy⟩ : ∃ y, X[k]? = some y := ⟨_, List.getElem?_eq_getElem hkl⟩
            have cp : wr.cell? ⟨g, p, none⟩ = some (byV x) := (HO.out.cellAt p (by omega)).trans (by rw [List.getElem?_map, hx]; rfl)
            have ck : wr.cell? ⟨g, k, none⟩ = some (byV y) := (HO.out.cellAt k (by omega)).trans (by rw [List.getElem?_map, hy]; rfl)
            have fp := HO.out.frozenAt p
            have fk := HO.out.frozenAt k
            have HN := Lib.hid (HRV.out.step HPK.out hlt hx hy)
            have HW := Lib.hid (((HO.out.stored p (byV y)).1).stored k (byV x)).1
            have HWB := Lib.hid ((HBE.out.setCell (p := ⟨g, p, none⟩) (HO.out.lt g rfl).1 (byV y)).setCell (p := ⟨g, k, none⟩) (HO.out.lt g rfl).1 (byV x))
            have HE := Lib.hid (show (((X.map byV).set p (byV y)).set k (byV x)) = ((X.set p y).set k x).map byV by rw [List.map_set, List.map_set])
            have hk1 := HK.out
            have hpk1 : (p : Int) < (k : Int) := by omega
            have hlen1 : (p : Int) < (done.length : Int) := by have := HPK.out; omega
            have hlen2 : (k : Int) < (done.length : Int) := by have := HPK.out; omega
            have hlen3 : p < done.length := by omega
            have hlen4 : k < done.length := by omega
            have hne : ¬ p = k := by omega
            have HKK := Lib.hid (show ((k - 1 : Nat) : Int) = (k : Int) - 1 by omega)
            unfold byV at cp ck
            clear hx hy hXl hkl hpl
            go_wp2
            go_region
            go_wp2
            go_roundw
            case rel => exact ⟨p + 1, k - 1, (X.set p y).set k x, by have := HPK.out; omega, by go_num, by rw [HKK.out], by rw [← HE.out]; exact HW.out, HN.out, HWB.out.drew⟩
            case measure => simp [intOf]; omega
          · have HX := Lib.hid (HRV.out.done HPK.out hlt)
            have hcv := run_back wr g done.length cv X HRV.out.1 (fun i hi => HO.out.cellAt i (by omega))
            have HFIN := Lib.hid (show X = priL a by rw [HX.out, HPRR.out])
            have hk1 := HK.out
            have hnlt : ¬ (p : Int) < (k : Int) := by omega
            go_wp2
            go_ret
            exact ⟨by rw [HFIN.out]; rfl, HBE.out⟩
      · have HPRR := Lib.hid (show priL a = (done ++ [45]).reverse by rw [HPR.out, if_pos (of_decide_eq_true HSG.out.symm), hd])
        have HRL := Lib.hid (show 0 < (done ++ [45]).length ∧ (done ++ [45]).length ≤ 20 by
          constructor
          · simp
          · rw [List.length_append, ← hd]; simp; omega)
        have HDL := Lib.hid (show done.length ≤ 19 by rw [← hd]; exact hr19)
        have HBS := Lib.hid HBE.out.size
        clear hd hr19 HPL HDN HPR
        go_wp2_with (at_builtin; refine wpList_append_own _ rfl _ _ 37 rfl w.heap.size 5 i0 (.int .u8 0) 1 1 Try.underlying37 hi0 hz0 hz1 hz2 rfl (by decide) _ done.length _ rfl (HO.out.alloc _) ⟨wr.heap.size, 0, none⟩ 1 1 [.int .u8 45] rfl rfl (cell_one_new _ _ _) (by intro u hu; simp at hu; subst hu; rfl) (by have := HDL.out; unfold maxLen; omega) (by have := HDL.out; omega) (by have := HBS.out; simp; omega) ?_; intro v' w2 hown2 hg2 _; obtain ⟨A2, c2, rfl⟩ := own_slice hown2; have HG2 := Lib.hid hg2; have HO2 := Lib.hid hown2; clear hown2 hg2)
        have HBR := Lib.hid ((HBE.out.alloc HBS.out (.cells #[.int .u8 45] 5)).grown HG2.out (by have := HBS.out; simp; omega) (fun k hk => (HO.out.lt k hk).1))
        obtain ⟨R, hR⟩ : ∃ R, R = done ++ [45] := ⟨_, rfl⟩
        have HRS := Lib.hid (show done.length + 1 = R.length by rw [hR]; simp)
        have HOR := Lib.hid (show w2.ownsRow w.heap.size 5 1 (.slice A2 R.length c2) R.length (R.map byV) by
          have h := HO2.out
          rw [HRS.out] at h
          rw [hR] at h ⊢
          rw [List.map_append]
          exact h)
        rw [← hR] at HPRR HRL
        rw [HRS.out]
        clear hR HO2 HG2
        obtain ⟨q, hq⟩ : ∃ q, R.length = q + 1 := ⟨R.length - 1, by have := HRL.out.1; omega⟩
        obtain ⟨g, rfl⟩ : ∃ g, A2 = some ⟨g, 0, none⟩ := by
          have h := HOR.out
          rw [hq] at h
          obtain ⟨g, cap, e⟩ := own_succ h
          injection e with e1
          exact ⟨g, e1⟩
        have hql : (R.length : Int) - 1 = (q : Int) := by omega
        have hq20 : q ≤ 19 := by have := HRL.out.2; omega
        have HQL := Lib.hid hq
        clear hq
        go_wp2
        go_loopw [6, 7] (fun i k wr => ∃ (p k' : Nat) (X : List UInt8), p + k' + 1 = R.length ∧ i = .int .i64 p ∧ k = .int .i64 k' ∧ wr.ownsRow w.heap.size 5 1 (.slice (some ⟨g, 0, none⟩) R.length c2) R.length (X.map byV) ∧ Rv R p X ∧ Below w.heap.size w wr) (fun _ k _ => (intOf k).toNat)
        case atStart => exact ⟨0, q, R, by have := HQL.out; omega, rfl, (by have h1 := HQL.out; have h2 := HRS.out; rw [show done.length = q by omega]; congr 1; simp only [wrap64]; omega), HOR.out, Rv.start R, HBR.out⟩
        case round =>
          obtain ⟨p, k, X, hpk, rfl, rfl, hown, hrv, hbel⟩ := hrel
          have HO := Lib.hid hown
          have HRV := Lib.hid hrv
          have HBE := Lib.hid hbel
          have HPK := Lib.hid hpk
          have HK := Lib.hid (show k ≤ q by have := HQL.out; omega)
          clear hown hrv hbel hpk
          by_cases hlt : p < k
          · have hXl := HRV.out.1
            have hkl : k < X.length := by have := HPK.out; omega
            have hpl : p < X.length := by omega
            obtain ⟨x, hx⟩ : ∃ x, X[p]? = some x := ⟨_, List.getElem?_eq_getElem hpl⟩
            obtain ⟨y, hy⟩ : ∃ y, X[k]? = some y := ⟨_, List.getElem?_eq_getElem hkl⟩
            have cp : wr.cell? ⟨g, p, none⟩ = some (byV x) := (HO.out.cellAt p (by omega)).trans (by rw [List.getElem?_map, hx]; rfl)
            have ck : wr.cell? ⟨g, k, none⟩ = some (byV y) := (HO.out.cellAt k (by omega)).trans (by rw [List.getElem?_map, hy]; rfl)
            have fp := HO.out.frozenAt p
            have fk := HO.out.frozenAt k
            have HN := Lib.hid (HRV.out.step HPK.out hlt hx hy)
            have HW := Lib.hid (((HO.out.stored p (byV y)).1).stored k (byV x)).1
            have HWB := Lib.hid ((HBE.out.setCell (p := ⟨g, p, none⟩) (HO.out.lt g rfl).1 (byV y)).setCell (p := ⟨g, k, none⟩) (HO.out.lt g rfl).1 (byV x))
            have HE := Lib.hid (show (((X.map byV).set p (byV y)).set k (byV x)) = ((X.set p y).set k x).map byV by rw [List.map_set, List.map_set])
            have hk1 := HK.out
            have hpk1 : (p : Int) < (k : Int) := by omega
            have hlen1 : (p : Int) < (R.length : Int) := by have := HPK.out; omega
            have hlen2 : (k : Int) < (R.length : Int) := by have := HPK.out; omega
            have hlen3 : p < R.length := by omega
            have hlen4 : k < R.length := by omega
            have hne : ¬ p = k := by omega
            have HKK := Lib.hid (show ((k - 1 : Nat) : Int) = (k : Int) - 1 by omega)
            unfold byV at cp ck
            clear hx hy hXl hkl hpl
            go_wp2
            go_region
            go_wp2
            go_roundw
            case rel => exact ⟨p + 1, k - 1, (X.set p y).set k x, by have := HPK.out; omega, by go_num, by rw [HKK.out], by rw [← HE.out]; exact HW.out, HN.out, HWB.out.drew⟩
            case measure => simp [intOf]; omega
          · have HX := Lib.hid (HRV.out.done HPK.out hlt)
            have hcv := run_back wr g R.length c2 X HRV.out.1 (fun i hi => HO.out.cellAt i (by omega))
            have HFIN := Lib.hid (show X = priL a by rw [HX.out, HPRR.out])
            have hk1 := HK.out
            have hnlt : ¬ (p : Int) < (k : Int) := by omega
            go_wp2
            go_ret
            exact ⟨by rw [HFIN.out]; rfl, HBE.out⟩
    · have hroom := HPL.out.room
      have hr19 := HLEN.out
      have hnM := HPL.out.1
      have hMB := HMB.out
      have htm : ((n : Int).tmod 10) = (n : Int) % 10 := Int.tmod_eq_emod_of_nonneg (by omega)
      have htd : ((n : Int).tdiv 10) = (n : Int) / 10 := Int.tdiv_eq_ediv_of_nonneg (by omega)
      have hw1 : IntKind.u8.wrap ((n : Int) % 10) = (n : Int) % 10 := by rw [IntKind.wrap_u8]; omega
      have hw2 : IntKind.u8.wrap (48 + (n : Int) % 10) = 48 + (n : Int) % 10 := by rw [IntKind.wrap_u8]; omega
      have hw3 : IntKind.u64.wrap ((n : Int) % 10) = (n : Int) % 10 := by rw [IntKind.wrap_u64]; omega
      have hw4 : IntKind.u64.wrap ((n : Int) / 10) = (n : Int) / 10 := by rw [IntKind.wrap_u64]; omega
      have HROOM := Lib.hid (And.intro hroom hr19)
      have HD := Lib.hid (show byV (dch (n % 10)) = .int .u8 (48 + (n : Int) % 10) by rw [dch_val (by omega)]; rfl)
      have HQ := Lib.hid (show ((n / 10 : Nat) : Int) = (n : Int) / 10 by omega)
      have HDQ := Lib.hid (show Value.bool (decide ((0 : Int) < (n : Int) / 10)) = .bool (decide (0 < n / 10)) by congr 1; exact decide_eq_decide.2 (by omega))
      have HST := Lib.hid HPL.out.step
      have HBS := Lib.hid HBE.out.size
      have HNE := Lib.hid (own_blk_ne HO.out HBK.out (by decide))
      have hz : (n : Int) = 0 ∨ True := .inr trivial
      clear hroom hr19 hnM hMB hz
      go_wp2_with (at_builtin; refine wpList_append_own _ rfl _ _ 37 rfl w.heap.size 5 i0 (.int .u8 0) 1 1 Try.underlying37 hi0 hz0 hz1 hz2 rfl (by decide) _ done.length _ rfl (HO.out.alloc _) ⟨wr.heap.size, 0, none⟩ 1 1 [.int .u8 (48 + (n : Int) % 10)] rfl rfl (cell_one_new _ _ _) (by intro u hu; simp at hu; subst hu; rfl) (by have := HROOM.out; unfold maxLen; omega) (by have := HROOM.out; omega) (by have := HBS.out; simp; omega) ?_; intro v' w2 hown2 hg2 _; have hbk2 := (HBK.out.alloc (.cells #[.int .u8 (48 + (n : Int) % 10)] 5)).grown hg2 (Ne.symm HNE.out); have e0 := hbk2.cell 0; have e1 := hbk2.cell 1; have e2 := hbk2.frozen 0; have e3 := hbk2.frozen 1; have e4 := hbk2.lt; have HBK2 := Lib.hid hbk2; have HO2 := Lib.hid hown2; have HG2 := Lib.hid hg2; clear hbk2 hown2 hg2)
      have HBE2 := Lib.hid ((HBE.out.alloc HBS.out (.cells #[.int .u8 (48 + (n : Int) % 10)] 5)).grown HG2.out (by have := HBS.out; simp; omega) (fun k hk => (HO.out.lt k hk).1))
      have HX := Lib.hid (own_far (p := ⟨w1.heap.size, 1, none⟩) HO2.out (own_blk_ne HO2.out HBK2.out (by decide)) (.int .u64 ((n : Int) / 10)))
      have HY := Lib.hid (HBK2.out.set_ 1 (.int .u64 ((n : Int) / 10)))
      have HL2 := Lib.hid (own_len HO2.out)
      go_roundw
      case rel => exact ⟨n / 10, done ++ [dch (n % 10)], decide (0 < n / 10), HDQ.out, by rw [List.length_append, List.map_append, List.map_cons, HD.out]; exact HX.out, by rw [HQ.out]; exact HY.out, HST.out, HBE2.out.setCell (by have := HB1.out.size; simp; omega) _⟩
      case measure =>
        have h1 := HL2.out
        have h2 := own_len HO.out
        have h3 := HROOM.out
        simp only [h1, h2]
        omega
end Go.Proofs.Ytbkliomiboekhaa
