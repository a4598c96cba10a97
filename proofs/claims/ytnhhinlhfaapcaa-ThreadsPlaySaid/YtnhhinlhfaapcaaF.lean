/- Threads: the contract of Spawn. -/
import Derived.Test.YtnhhinlhfaapcaaE
import Derived.Maps.AppendAt
namespace Go.Proofs.Ytnhhinlhfaapcaa
open Go.RowKit
set_option linter.unusedVariables false
set_option linter.unusedSimpArgs false

theorem info3 : (Try.prog.info? 3).map (fun i => (i.zero, i.size, i.bytes)) = some (some (.int .i64 0), 1, 8) := by kernel_rfl
theorem info60 : (Try.prog.info? 60).map (fun i => (i.zero, i.size, i.bytes)) = some (some (.agg #[.int .i64 0, .bool false, .bool false, .slice none 0 0]), 4, 40) := by kernel_rfl
def spawnT (t : Tab) (i : Nat) : Tab := growT (pushT t i t.n) i
def spnF (t : Tab) (n : Int) : Tab := if refB t n 1 then t else if 16 ≤ t.n then t else spawnT t n.toNat
def spnN (t : Tab) (n : Int) : Int := if refB t n 1 then 0 else if 16 ≤ t.n then 0 else t.n
def spnE (t : Tab) (n : Int) : Int := if refB t n 1 then 2 else if 16 ≤ t.n then 4 else 0
def one (p : Int) : List Value := [.int .i64 p, .bool false, .bool false, .slice none 0 0]
theorem thR (W : World) (i : Nat) : Rd (W.alloc (.cells #[.int .i64 i, .bool false, .bool false, .slice none 0 0] 60)) (W.heap.size + 1) 4 one (some ⟨W.heap.size, 0, none⟩) [(i : Int)] := by
  refine .inr ⟨W.heap.size, 0, rfl, by omega, fun k y hy j u hu => ?_⟩
  rw [(Blk.new W 60 _).cell]
  match k, hy with
  | 0, hy =>
    simp at hy; subst hy
    rw [Nat.zero_mul, Nat.zero_add, ← Array.getElem?_toList]
    exact hu
  | k + 1, hy => simp at hy
theorem one_len (p : Int) : (one p).length = 4 := rfl
theorem one_one (p : Int) : ∀ u ∈ one p, u.oneCell' = true := by intro u hu; simp [one] at hu; rcases hu with rfl | rfl | rfl <;> rfl
theorem TabX.growcell {W W' : World} {B g : Nat} {S : Nat → Value} {C : Nat → Nat → Value} {t : Tab} {v : Value} (h : TabX W B g v S C t) (hg : W.grownBy W' v.ownBlock) : Blk W' g 56 #[v] :=
  Blk.step h.blk hg (fun e => h.blk.ty.ne (own_ty h.ol e) (by decide) rfl)
/-- the row of scopes behind the append -/
theorem TabX.pushcell {W W' : World} {B g i gs cs ln : Nat} {S : Nat → Value} {C : Nat → Nat → Value} {t : Tab} {v : Value} (h : TabX W B g v S C t) (hi : i < t.n) (hd : dep t i = ln + 1) (hS : S i = .slice (some ⟨gs, 0, none⟩) (dep t i) cs) (hg : W.grownBy W' (C i ln).ownBlock) :
    W'.cell? ⟨gs, ln, none⟩ = some (C i ln) ∧ W'.frozen? ⟨gs, ln, none⟩ = false ∧ W'.cell? ⟨g, 0, none⟩ = some v := by
  have oC := h.oi i ln hi (by omega)
  have h1 := (h.os i hi).step hg (fun q hq e => ((h.os i hi).ty hq).ne (own_ty oC e) (by decide) rfl)
  rw [hS] at h1
  have h2 := h1.cell (j := ln) (by omega)
  rw [List.getElem?_map, List.getElem?_range (by omega)] at h2
  have hb : Blk W' g 56 #[v] := Blk.step h.blk hg (fun e => h.blk.ty.ne (own_ty oC e) (by decide) rfl)
  exact ⟨h2, h1.frz ln, hb.cell 0⟩
theorem spawn_kpt {w w' : World} {B g gl cl i ln : Nat} {v' nv : Value} {S S' : Nat → Value} {C : Nat → Nat → Value} {t : Tab} (hx : TabX w B g (.slice (some ⟨gl, 0, none⟩) t.n cl) S C t) (hfin : TabX w' B g v' S' (updC C i ln nv) (growT (pushT t i t.n) i)) (hi : i < t.n) (hln : dep t i = ln + 1)
    (hnv : nv.ownBlock = (C i ln).ownBlock ∨ nv.ownBlock = some (w.heap.size + 1)) (hk : ∀ q, TyF w q → (C i ln).ownBlock ≠ some q → w'.heap[q]? = w.heap[q]?) : Kpt w B g w' := by
  refine Kpt.of hx hfin (fun q hq hn => hk q hq (hn i ln hi (by omega))) (fun j k q hj hk e => ?_)
  have hj' : j < t.n + 1 := hj
  have hdj : k < (if j = t.n then ⟨i, false, false, []⟩ else (pushT t i t.n).th j : Th).scopes.length := hk
  by_cases e1 : j = t.n
  · rw [if_pos e1] at hdj
    exact absurd hdj (Nat.not_lt_zero _)
  · rw [if_neg e1] at hdj
    have hd2 : k < dep t j := by rw [← pushT_dep t i t.n j]; exact hdj
    unfold updC at e
    split at e
    · rename_i h
      obtain ⟨rfl, rfl⟩ := h
      rcases hnv with h | h
      · exact .inl ⟨j, k, hi, by omega, h.symm.trans e⟩
      · rw [h] at e
        cases e
        exact .inr (by omega)
    · exact .inl ⟨j, k, by omega, hd2, e⟩
set_option maxHeartbeats 12800000 in
set_option maxRecDepth 100000 in
theorem spawn_any (g B : Nat) (t : Tab) (n : Int) (w : World) (h : TabR w B g t) (hml : ∀ i k, i < t.n → k < dep t i → (mem t i k).length ≤ 1000) (hn16 : t.n ≤ 1000) (hd0 : ∀ i, i < t.n → dep t i ≤ 1000000) :
    Calls Try.prog 21 #[.pointer (some ⟨g, 0, none⟩), .int .i64 n] w fun r w' => r = .returned (.tuple #[.int .i64 (spnN t n), .int .i64 (spnE t n)]) ∧ Left w B g (spnF t n) w' := by
  cases hr : refB t n 1
  rotate_left
  · have HF := Lib.hid (refuse_any g B t n 1 w h 2 (by rw [hr]; rfl))
    have HL := Lib.hid (show Left w B g (spnF t n) w by unfold spnF; rw [hr]; exact Left.same h (Below.refl _ _))
    rw [show spnN t n = 0 by unfold spnN; rw [hr]; rfl, show spnE t n = 2 by unfold spnE; rw [hr]; rfl]
    clear h hr
    go_enter Try.func21, Try.ntmps21
    go_wp2_with fail
    refine HF.out.mono ?_
    rintro r w1 ⟨rfl, rfl⟩
    go_wp2
    go_ret2
    exact ⟨rfl, HL.out⟩
  · have HF := Lib.hid (refuse_any g B t n 1 w h 0 (by rw [hr]; rfl))
    obtain ⟨i, rfl, hi, _, hdI⟩ := refB_no hr
    obtain ⟨i0, hi0, hz0, hz1, hz2⟩ := info_parts info3
    obtain ⟨j0, hj0, hy0, hy1, hy2⟩ := info_parts info60
    obtain ⟨v, S, C, hx⟩ := h
    obtain ⟨gl, cl, rfl⟩ := hx.l
    have c0 := hx.box
    obtain ⟨d0, d1, d2, d3⟩ := hx.cells hi
    have hd : 0 < dep t i := by omega
    obtain ⟨gs, cs, hs⟩ := (hx.os i hi).form hd
    rw [hs] at d3
    have hrow := hx.os i hi
    rw [hs] at hrow
    obtain ⟨ln, hln⟩ : ∃ m, dep t i = m + 1 := ⟨dep t i - 1, by omega⟩
    have e1 := hrow.cell (j := ln) (by omega)
    rw [List.getElem?_map, List.getElem?_range (by omega)] at e1
    replace e1 : w.cell? ⟨gs, ln, none⟩ = some (C i ln) := e1
    have e2 := hrow.frz ln
    have oC := hx.oi i ln hi (by omega)
    have hml' := hml i ln hi (by omega)
    obtain ⟨Ac, cc, hC⟩ := own_slice oC
    obtain ⟨ml, hmlv⟩ : ∃ m, (mem t i ln).length = m := ⟨_, rfl⟩
    rw [hmlv] at oC hC hml'
    rw [hC] at e1 oC
    have hlnb : ln ≤ 1000000 := by have := hd0 i hi; omega
    clear hd0
    have HX := Lib.hid hx
    have HI := Lib.hid hi
    have HS := Lib.hid hs
    have HC := Lib.hid hC
    have HD := Lib.hid hd
    have HLN := Lib.hid hln
    have HML := Lib.hid hmlv
    have HOC := Lib.hid oC
    rw [hln] at d3
    have hiI : (i : Int) < (t.n : Int) := by omega
    have hii0 : (0 : Int) ≤ (i : Int) := by omega
    have hBw : B ≤ w.heap.size := Nat.le_trans hx.hB (Nat.le_of_lt hx.lt)
    have HBW := Lib.hid hBw
    have HR := Lib.hid hr
    clear hx hs hrow oC hC hd hln hmlv hml hdI d0 d1 d2 hr
    by_cases h16 : 16 ≤ t.n
    · have h16I : (16 : Int) ≤ (t.n : Int) := by omega
      have HL := Lib.hid (show Left w B g (spnF t i) w by unfold spnF; rw [HR.out]; simp only [Bool.false_eq_true, if_false]; rw [if_pos h16]; exact Left.same ⟨_, _, _, HX.out⟩ (Below.refl _ _))
      rw [show spnN t i = 0 by unfold spnN; rw [HR.out]; simp only [Bool.false_eq_true, if_false]; rw [if_pos h16], show spnE t i = 4 by unfold spnE; rw [HR.out]; simp only [Bool.false_eq_true, if_false]; rw [if_pos h16]]
      go_enter Try.func21, Try.ntmps21
      go_wp2_with fail
      refine HF.out.mono ?_
      rintro r w1 ⟨rfl, rfl⟩
      go_wp2
      go_ret2
      exact ⟨rfl, HL.out⟩
    · have h16I : ¬ (16 : Int) ≤ (t.n : Int) := by omega
      have HT := Lib.hid (show spnF t i = spawnT t i by unfold spnF; rw [HR.out]; simp only [Bool.false_eq_true, if_false]; rw [if_neg h16]; rfl)
      rw [HT.out, show spnN t i = t.n by unfold spnN; rw [HR.out]; simp only [Bool.false_eq_true, if_false]; rw [if_neg h16], show spnE t i = 0 by unfold spnE; rw [HR.out]; simp only [Bool.false_eq_true, if_false]; rw [if_neg h16]]
      go_enter Try.func21, Try.ntmps21
      go_wp2_with fail
      refine HF.out.mono ?_
      rintro r w1 ⟨rfl, rfl⟩
      have HPC := Lib.hid (fun w2 (hg : (w.alloc (.cells #[.int .i64 t.n] 3)).grownBy w2 (Value.slice Ac ml cc).ownBlock) => (HX.out.below ((Below.refl _ _).alloc (Nat.le_refl _) (.cells #[.int .i64 t.n] 3))).pushcell HI.out HLN.out HS.out (by rw [HC.out]; exact hg))
      go_upto_region 9 with (at_builtin; refine wpList_append_own_at _ rfl _ _ 29 rfl B 3 i0 (.int .i64 0) 1 8 Try.underlying29 hi0 hz0 hz1 hz2 rfl (by decide) (.slice Ac ml cc) ml _ rfl (HOC.out.alloc _) ⟨w.heap.size, 0, none⟩ 1 1 [.int .i64 t.n] rfl rfl (cell_one_new _ _ _) (by intro u hu; simp at hu; subst hu; rfl) (by unfold maxLen; omega) (by omega) (by simp; omega) ?_; intro nv w2 hown2 hg2 _ hl2; obtain ⟨An, cn, rfl⟩ := own_slice hown2; obtain ⟨e1, e2, c0⟩ := HPC.out w2 hg2)
      obtain ⟨nv, hnv⟩ : ∃ v, v = Value.slice An (ml + 1) cn := ⟨_, rfl⟩
      rw [← hnv] at hown2 hl2
      have hd1 : dep t i - 1 = ln := by have := HLN.out; omega
      have hp := (HX.out.below ((Below.refl _ _).alloc (Nat.le_refl _) (.cells #[.int .i64 t.n] 3))).pushed (W' := w2) (c := t.n) (nv := nv) HI.out HD.out HS.out (by rw [hd1, HC.out]; exact hg2) (by rw [hd1, HML.out]; exact hown2) (by rw [hd1, HC.out]; exact hl2)
      rw [hd1] at hp
      have hBA : Below w.heap.size w (w.alloc (.cells #[.int .i64 t.n] 3)) := (Below.refl _ _).alloc (Nat.le_refl _) _
      have HB2 := Lib.hid (((hBA.mono HBW.out).grown hg2 (by simp; omega) (fun q hq => by
        have := (HOC.out.lt q hq).1
        exact this)).setCell (p := ⟨gs, ln, none⟩) (by
        have := (HX.out.os i HI.out).lt gs (by rw [HS.out]; rfl)
        exact this.1) nv)
      have HL2 := Lib.hid (show (Value.slice An (ml + 1) cn).ownBlock = (C i ln).ownBlock ∨ (Value.slice An (ml + 1) cn).ownBlock = some (w.heap.size + 1) by
        rw [HC.out, ← hnv]
        rcases hl2 with h | h
        · exact .inl h
        · exact .inr (by rw [h]; simp))
      have HKA := Lib.hid (show ∀ q, TyF w q → (C i ln).ownBlock ≠ some q → (w2.setCell ⟨gs, ln, none⟩ nv).heap[q]? = w.heap[q]? from fun q hq hne => by
        refine (Below.heap_setCell w2 ⟨gs, ln, none⟩ nv q (hq.n ((HX.out.os i HI.out).ty (by rw [HS.out]; rfl)) (by decide))).trans ?_
        refine (hg2.block q (by have := hq.lt; simp; omega) (fun e => hne (by rw [HC.out]; exact e.symm))).trans ?_
        exact Below.heap_alloc w _ q hq.lt)
      obtain ⟨W3, hW3⟩ : ∃ W3, W3 = w2.setCell ⟨gs, ln, none⟩ nv := ⟨_, rfl⟩
      rw [hnv] at hW3
      have HW3 := Lib.hid hW3
      rw [hnv] at hp HB2 HKA
      rw [← hW3] at hp HB2 HKA
      have c9 := hp.box
      have HP := Lib.hid hp
      have f9 := hp.blk.frozen 0
      have hW9 := hp.blk.lt
      have HPS := Lib.hid (show w.heap.size ≤ W3.heap.size by
        rw [hW3]
        have := hg2.size
        simp at this
        simp [World.setCell]
        omega)
      clear hW3 hnv hown2 hg2 hl2 hp hBA e1 e2 c0 hd1
      rw [← HW3.out]
      have HRD := Lib.hid (fun W => thR W i)
      clear HW3
      have HPA := Lib.hid (HP.out.below ((Below.refl _ _).alloc (Nat.le_refl _) (.cells #[.int .i64 i, .bool false, .bool false, .slice none 0 0] 60)))
      have HOA := Lib.hid HPA.out.ol
      have hs3 := HB2.out.size
      go_upto_region 10 with (at_builtin; refine wpList_append_rd _ rfl _ _ 54 rfl B 60 j0 (.agg #[.int .i64 0, .bool false, .bool false, .slice none 0 0]) 4 40 Try.underlying54 hj0 hy0 hy1 hy2 rfl (by decide) (.slice (some ⟨gl, 0, none⟩) t.n cl) t.n _ rfl HOA.out (W3.heap.size + 1) _ 1 1 one one_len one_one [(i : Int)] rfl rfl (HRD.out W3) (by unfold maxLen; omega) (by omega) (by simp; omega) ?_; intro v3 w4 hown4 hg4 _; obtain ⟨A3, c3, rfl⟩ := own_slice hown4; have hbk4 := HPA.out.growcell hg4; have c9 := hbk4.cell 0; have f9 := hbk4.frozen 0; have hW9 := hbk4.lt)
      have HFIN := Lib.hid (HPA.out.grown (p := i) hg4 (by
        have h := hown4
        simp only [List.flatMap_cons, List.flatMap_nil, List.append_nil] at h
        exact h))
      have HBF := Lib.hid (((HB2.out.alloc (by omega) (.cells #[.int .i64 i, .bool false, .bool false, .slice none 0 0] 60)).grown hg4 (by simp; omega) (fun q hq => (HOA.out.lt q hq).1)).setCell (p := ⟨g, 0, none⟩) HPA.out.hB (.slice A3 (t.n + 1) c3))
      have HKF := Lib.hid (spawn_kpt HX.out HFIN.out HI.out HLN.out HL2.out (fun q hq hne => by
        have h3 : q < W3.heap.size := Nat.lt_of_lt_of_le hq.lt (by
          have := HPS.out
          omega)
        refine (Below.heap_setCell w4 ⟨g, 0, none⟩ _ q (hq.n HX.out.blk.ty (by decide))).trans ?_
        refine (hg4.block q (by simp; omega) (fun e => hq.n HX.out.tl (by decide) (by simpa [Value.ownBlock] using e))).trans ?_
        exact (Below.heap_alloc W3 _ q h3).trans (HKA.out q hq hne)))
      clear hown4 hg4 hbk4 c9 f9 hW9
      go_wp2
      go_ret2
      exact ⟨rfl, ⟨_, _, _, HFIN.out⟩, HBF.out, HKF.out⟩
end Go.Proofs.Ytnhhinlhfaapcaa

