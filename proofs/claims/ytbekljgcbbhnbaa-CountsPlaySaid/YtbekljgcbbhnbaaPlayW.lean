/- CountsPlay: the walk. -/
import Derived.Test.YtbekljgcbbhnbaaRefL
namespace Go.Proofs.Ytbekljgcbbhnbaa
open Go.RowKit
set_option linter.unusedVariables false

theorem RIs.kept {w w' : World} {B gr : Nat} {M : List One} (h : RIs w B gr M) (hk : ∀ k, B ≤ k → k < w.heap.size → w'.heap[k]? = w.heap[k]?) : RIs w' B gr M := by
  obtain ⟨hB, v, hb, hown⟩ := h
  refine ⟨hB, v, (hk gr hB hb.lt).trans hb, hown.1, ?_⟩
  rcases hown.2 with hn | ⟨g, cap, cur, rfl, hg, hgg, rest⟩
  · exact .inl hn
  · exact .inr ⟨g, cap, cur, rfl, hg, (hk g hg (Array.getElem?_eq_some_iff.1 hgg).1).trans hgg, rest⟩
theorem RIs.drewN {w : World} {B gr : Nat} {M : List One} (h : RIs w B gr M) (n : Nat) : RIs (w.drewN n) B gr M := h
theorem RIs.alloc {w : World} {B gr : Nat} {M : List One} (h : RIs w B gr M) (o : Obj) : RIs (w.alloc o) B gr M := h.kept fun k _ hk => Below.heap_alloc w o k hk
theorem RIs.far {w : World} {B gr : Nat} {M : List One} (h : RIs w B gr M) (p : Addr) (u : Value) (hp : w.heap.size ≤ p.block) : RIs (w.setCell p u) B gr M := h.kept fun k _ hk => Below.heap_setCell w p u k (by omega)
theorem RIs.grown {w w' : World} {B gr gm : Nat} {M : List One} (h : RIs w B gr M) (hg : w.grownBy w' (some gm)) (hm : gm < B) : RIs w' B gr M := h.kept fun k hk hl => hg.block k hl (by intro e; cases e; omega)
theorem CIs.alloc {w : World} {gc gm N : Nat} {c : Int → Int → Int} (h : CIs w gc gm N c) (o : Obj) : CIs (w.alloc o) gc gm N c := h.kept (Below.heap_alloc w o gc h.lt.1) (Below.heap_alloc w o gm h.lt.2)
theorem refOf_c {w : World} {B gr : Nat} {M : List One} {c : Int → Int → Int} {i e : Int} (hc : ∀ a b, c a b = many M a b) (h : RIs w B gr M) (hM : M.length ≤ 1000000) :
    Calls Try.prog 14 #[.pointer (some ⟨gr, 0, none⟩), .int .i64 i, .int .i64 e] w fun r w' => r = .returned (.int .i64 (c i e)) ∧ w = w' := by
  rw [hc]
  exact refOf_any B gr M i e w h hM
theorem many_snoc (M : List One) (i e a b : Int) : many (M ++ [(i, e)]) a b = many M a b + if a = i ∧ b = e then 1 else 0 := by
  unfold many
  simp only [List.countP_append, List.countP_cons, List.countP_nil]
  by_cases hc : a = i ∧ b = e
  · obtain ⟨rfl, rfl⟩ := hc; simp
  · rw [if_neg hc]
    have : (i == a && e == b) = false := by
      simp
      intro h1 h2
      exact hc ⟨h1.symm, h2.symm⟩
    simp [this]
theorem addS_many {c : Int → Int → Int} {M : List One} (hc : ∀ a b, c a b = many M a b) (i e : Int) : ∀ a b, addS c i e a b = many (refAddS M i e) a b := by
  intro a b
  unfold addS refAddS
  cases fineB e
  · exact hc a b
  · simp only [if_true]
    rw [many_snoc, ← hc]
    unfold setC
    by_cases h : a = i ∧ b = e
    · obtain ⟨rfl, rfl⟩ := h; simp
    · rw [if_neg h, if_neg h]; simp
theorem addR_many {c : Int → Int → Int} {M : List One} (hc : ∀ a b, c a b = many M a b) (i e : Int) : refAddR M i e = addR c i e := by
  unfold addR refAddR
  cases fineB e
  · rfl
  · simp only [if_true]; rw [many_snoc, ← hc]; simp
theorem refAddS_len (M : List One) (i e : Int) : (refAddS M i e).length ≤ M.length + 1 := by
  unfold refAddS; split <;> simp

set_option maxRecDepth 100000 in
set_option maxHeartbeats 3200000 in
theorem playWalk (A0 : Option Addr) (c0 : Nat) (L : List Act3) (w : World) (h0 : Rd w w.heap.size 3 actC A0 L) (g0 : ∀ x ∈ L, actG x) :
    Calls Try.prog 3 #[.slice A0 L.length c0] w fun r w' => r = .returned (.bool true) ∧ Below w.heap.size w w' := by
  obtain ⟨n, hn⟩ : ∃ n, n = L.length := ⟨_, rfl⟩
  rw [← hn]
  have HN := Lib.hid hn
  clear hn
  by_cases hbig : 200 < n
  · go_enter Try.func3, Try.ntmps3
    go_wp2
    go_ret
    exact ⟨rfl, Below.refl _ _⟩
  have hn200 : n ≤ 200 := by omega
  have HG := Lib.hid g0
  clear g0
  go_enter Try.func3, Try.ntmps3
  go_wp2_with fail
  refine (new_any w).mono ?_
  rintro r w1 ⟨gc, gm, rfl, h1, hb1, hgm, hgc⟩
  obtain ⟨B, hBdef⟩ : ∃ B, B = w1.heap.size := ⟨_, rfl⟩
  have hlt := h1.lt
  rw [← hBdef] at hlt
  have hcB := hlt.1
  have hmB := hlt.2
  have hwB : w.heap.size ≤ B := by rw [hBdef]; exact hb1.size
  have h1' := h1.alloc (.cells #[.slice none 0 0] 28)
  have hR0 : RIs (w1.alloc (.cells #[.slice none 0 0] 28)) B B [] := ⟨Nat.le_refl _, .slice none 0 0, by rw [hBdef]; exact Blk.new w1 28 _, World.ownsRow_nil _ _ _ _⟩
  have hb1' : Below w.heap.size w (w1.alloc (.cells #[.slice none 0 0] 28)) := hb1.alloc hb1.size _
  go_wp2
  rw [← hBdef]
  obtain ⟨gr, hgr⟩ : ∃ gr, gr = B := ⟨_, rfl⟩
  have hR0' : RIs (w1.alloc (.cells #[.slice none 0 0] 28)) B gr [] := by rw [hgr]; exact hR0
  rw [← hgr]
  obtain ⟨ws, hws⟩ : ∃ ws, ws = w1.alloc (.cells #[.slice none 0 0] 28) := ⟨_, rfl⟩
  rw [← hws] at hR0' h1' hb1' ⊢
  have hgrB : B ≤ gr := by omega
  clear hBdef hlt h1 hb1 hR0 hgr hws
  go_loopw [5] (fun i wr => ∃ (k : Nat) (c : Int → Int → Int) (M : List One), k ≤ n ∧ i = .int .i64 k ∧ CIs wr gc gm k c ∧ RIs wr B gr M ∧ M.length ≤ k ∧ (∀ a b, c a b = many M a b) ∧ Below w.heap.size w wr) (fun i _ => n - (intOf i).toNat)
  case atStart => exact ⟨0, _, [], by omega, rfl, h1', hR0', Nat.le_refl _, fun _ _ => rfl, hb1'⟩
  case round =>
    obtain ⟨k, c, M, hk, rfl, hC, hR, hM, hcm, hB⟩ := hrel
    clear h1' hR0' hb1'
    by_cases hlt : k < n
    · have hr := h0.below hB
      obtain ⟨b, off, l, i, x, hx, rfl, hbb, hc0, hc1, hc2⟩ := hr.act (by rw [← HN.out]; exact hlt)
      obtain ⟨gi, gx⟩ := HG.out _ (List.mem_of_getElem? hx)
      simp only at gi gx
      have hk0 := Blk.new wr 30 #[.bool l, .int .i64 i, .int .i64 x]
      obtain ⟨wx, hwx⟩ : ∃ wx, wx = wr.alloc (.cells #[.bool l, .int .i64 i, .int .i64 x] 30) := ⟨_, rfl⟩
      have hCx : CIs wx gc gm k c := by rw [hwx]; exact hC.alloc _
      have hRx : RIs wx B gr M := by rw [hwx]; exact hR.alloc _
      have hBx : Below w.heap.size w wx := by rw [hwx]; exact hB.alloc hB.size _
      have HWX := Lib.hid hwx
      rw [← hwx] at hk0
      clear hwx hr hx
      cases l
      · go_wp2_with fail
        rw [← HWX.out]
        refine (add_all (addS c i x) (addR c i x) hCx gi gx (by omega) rfl rfl).mono ?_
        rintro r w2 ⟨rfl, hC2, hg2⟩
        have hR1 := hRx.grown hg2 hmB
        have hk1 := hk0.grown hg2 (by intro e; cases e; have := hC.lt; omega)
        have q0 := hk1.cell 0
        have q1 := hk1.cell 1
        have q2 := hk1.cell 2
        simp at q0 q1 q2
        have hBy := hBx.grown hg2 hBx.size (by intro j e; cases e; exact hgm)
        go_wp2_with fail
        refine (refAdd_all B gr M i x w2 hR1 (by omega) gi).mono ?_
        rintro r w3 ⟨rfl, hR2, hbr⟩
        have hC2 := hC2.below hbr hcB hmB
        have hB2 := hBy.trans (hbr.mono hwB)
        have hcm2 := addS_many hcm i x
        have hM' : (refAddS M i x).length ≤ k + 1 := by have := refAddS_len M i x; omega
        have hre := addR_many hcm i x
        rw [hre]
        clear hre q0 q1 q2
        have HC2 := Lib.hid hC2
        have HR2 := Lib.hid hR2
        have HB2 := Lib.hid hB2
        have HCM := Lib.hid hcm2
        clear hC2 hR2 hB2 hcm2
        go_wp2
        go_loopw [12] (fun j wq => ∃ q : Nat, q ≤ k + 1 ∧ j = .int .i64 q ∧ CIs wq gc gm (k + 1) (addS c i x) ∧ RIs wq B gr (refAddS M i x) ∧ Below w.heap.size w wq) (fun j _ => k + 1 - (intOf j).toNat)
        case atStart => exact ⟨0, by omega, rfl, HC2.out, HR2.out, HB2.out⟩
        case round =>
          obtain ⟨q, hq, rfl, hCq, hRq, hBq⟩ := hrel
          by_cases hql : q < k + 1
          · have hrq := h0.below hBq
            obtain ⟨b2, off2, l2, i2, x2, hx2, eA, hbb2, hd0, hd1, hd2⟩ := hrq.act (k := q) (by rw [← HN.out]; omega)
            cases eA
            obtain ⟨gi2, gx2⟩ := HG.out _ (List.mem_of_getElem? hx2)
            simp only at gi2 gx2
            have hqn : q < n := by omega
            have hqi : (q : Int) < (n : Int) := by omega
            have hww : (Lit.int .i64 (wrap64 (1 - x2))).wf = true := wrap64_wf _
            have hww2 : (Lit.int .i64 (IntKind.i64.wrap (1 - x2))).wf = true := by rw [IntWalk.i64_left]; exact hww
            have HCq := Lib.hid hCq
            have HRq := Lib.hid hRq
            have HBq := Lib.hid hBq
            clear hCq hRq hBq hrq hx2 h0 hd0 hc0 hc1 hc2
            go_wp2
            go_quiet (first | (go_at_call 13; exact quiet_left (of_all _ (HCq.out.drewN _) (by assumption) (by assumption) rfl)) | (go_at_call 14; exact quiet_left (refOf_c HCM.out (HRq.out.drewN _) (by omega))))
            go_wp2
            go_roundw
            case rel => exact ⟨q + 1, by omega, by go_num, HCq.out.drewN _, HRq.out.drewN _, below_drewN HBq.out _⟩
            case measure => simp [intOf] <;> omega
          · go_wp2
            go_roundw
            case rel => exact ⟨k + 1, (addS c i x), (refAddS M i x), by omega, by go_num, hCq, hRq, hM', HCM.out, hBq⟩
            case measure => simp [intOf] <;> omega
      · by_cases hz : c i x = 0
        · go_wp2_with fail
          rw [← HWX.out]
          refine (less_all _ _ _ hCx gi gx (by omega) (less_no hz).1 (less_no hz).2.1 rfl).mono ?_
          rintro r w2 ⟨rfl, hC2, hg2⟩
          have hR1 := hRx.grown hg2 hmB
          have hk1 := hk0.grown hg2 (by intro e; cases e; have := hC.lt; omega)
          have q0 := hk1.cell 0
          have q1 := hk1.cell 1
          have q2 := hk1.cell 2
          simp at q0 q1 q2
          have hBy := hBx.grown hg2 hBx.size (by intro j e; cases e; exact hgm)
          have hmz : many M i x = 0 := by rw [← hcm]; exact hz
          have HMZ := Lib.hid hmz
          have HMC := Lib.hid (hcm i x).symm
          clear hmz
          go_wp2_with fail
          refine (refLess_any B gr M i x w2 hR1 (by omega)).mono ?_
          rintro r w3 hpost
          unfold LessPost at hpost
          obtain ⟨rfl, rfl⟩ : r = .returned (.tuple #[.int .i64 0, .bool false]) ∧ w2 = w3 := by
            rcases hpost with h | h
            · exact h.2
            · have := h.1; have := HMZ.out; omega
          have hcm2 : ∀ a b, lessS c i x a b = many M a b := by rw [(less_no hz).2.2]; exact hcm
          have hR2 := hR1
          have hB2 := hBy
          have hM' : M.length ≤ k + 1 := by omega
          clear hpost q0 q1 q2
          have HC2 := Lib.hid hC2
          have HR2 := Lib.hid hR2
          have HB2 := Lib.hid hB2
          have HCM := Lib.hid hcm2
          clear hz hC2 hR2 hB2 hcm2
          go_wp2
          go_loopw [12] (fun j wq => ∃ q : Nat, q ≤ k + 1 ∧ j = .int .i64 q ∧ CIs wq gc gm (k + 1) (lessS c i x) ∧ RIs wq B gr M ∧ Below w.heap.size w wq) (fun j _ => k + 1 - (intOf j).toNat)
          case atStart => exact ⟨0, by omega, rfl, HC2.out, HR2.out, HB2.out⟩
          case round =>
            obtain ⟨q, hq, rfl, hCq, hRq, hBq⟩ := hrel
            by_cases hql : q < k + 1
            · have hrq := h0.below hBq
              obtain ⟨b2, off2, l2, i2, x2, hx2, eA, hbb2, hd0, hd1, hd2⟩ := hrq.act (k := q) (by rw [← HN.out]; omega)
              cases eA
              obtain ⟨gi2, gx2⟩ := HG.out _ (List.mem_of_getElem? hx2)
              simp only at gi2 gx2
              have hqn : q < n := by omega
              have hqi : (q : Int) < (n : Int) := by omega
              have hww : (Lit.int .i64 (wrap64 (1 - x2))).wf = true := wrap64_wf _
              have hww2 : (Lit.int .i64 (IntKind.i64.wrap (1 - x2))).wf = true := by rw [IntWalk.i64_left]; exact hww
              have HCq := Lib.hid hCq
              have HRq := Lib.hid hRq
              have HBq := Lib.hid hBq
              clear hCq hRq hBq hrq hx2 h0 hd0 hc0 hc1 hc2
              go_wp2
              go_quiet (first | (go_at_call 13; exact quiet_left (of_all _ (HCq.out.drewN _) (by assumption) (by assumption) rfl)) | (go_at_call 14; exact quiet_left (refOf_c HCM.out (HRq.out.drewN _) (by omega))))
              go_wp2
              go_roundw
              case rel => exact ⟨q + 1, by omega, by go_num, HCq.out.drewN _, HRq.out.drewN _, below_drewN HBq.out _⟩
              case measure => simp [intOf] <;> omega
            · go_wp2
              go_roundw
              case rel => exact ⟨k + 1, (lessS c i x), M, by omega, by go_num, hCq, hRq, hM', HCM.out, hBq⟩
              case measure => simp [intOf] <;> omega
        · go_wp2_with fail
          rw [← HWX.out]
          refine (less_all _ _ _ hCx gi gx (by omega) (less_yes hz).1 (less_yes hz).2.1 rfl).mono ?_
          rintro r w2 ⟨rfl, hC2, hg2⟩
          have hR1 := hRx.grown hg2 hmB
          have hk1 := hk0.grown hg2 (by intro e; cases e; have := hC.lt; omega)
          have q0 := hk1.cell 0
          have q1 := hk1.cell 1
          have q2 := hk1.cell 2
          simp at q0 q1 q2
          have hBy := hBx.grown hg2 hBx.size (by intro j e; cases e; exact hgm)
          have hmz : many M i x ≠ 0 := by rw [← hcm]; exact hz
          have HMZ := Lib.hid hmz
          have HMC := Lib.hid (hcm i x).symm
          clear hmz
          go_wp2_with fail
          refine (refLess_any B gr M i x w2 hR1 (by omega)).mono ?_
          rintro r w3 hpost
          unfold LessPost at hpost
          obtain ⟨hr3, hbr, M3, hR2, hM3, hm3⟩ : r = .returned (.tuple #[.int .i64 (c i x - 1), .bool true]) ∧ Below B w2 w3 ∧ ∃ L', RIs w3 B gr L' ∧ L'.length ≤ M.length ∧ ∀ a b, many L' a b = many M a b - if a = i ∧ b = x then 1 else 0 := by
            rcases hpost with h | h
            · exact absurd h.1 HMZ.out
            · rw [← HMC.out]; exact h.2
          subst hr3
          have hcm2 : ∀ a b, lessS c i x a b = many M3 a b := by
            intro a b
            rw [hm3, ← hcm]
            simp only [lessS, hz, if_false, setC]
            split
            · rename_i h; obtain ⟨rfl, rfl⟩ := h; rfl
            · omega
          have hC2 := hC2.below hbr hcB hmB
          have hB2 := hBy.trans (hbr.mono hwB)
          have hM' : M3.length ≤ k + 1 := by omega
          clear hpost q0 q1 q2 hm3
          have HC2 := Lib.hid hC2
          have HR2 := Lib.hid hR2
          have HB2 := Lib.hid hB2
          have HCM := Lib.hid hcm2
          clear hz hC2 hR2 hB2 hcm2
          go_wp2
          go_loopw [12] (fun j wq => ∃ q : Nat, q ≤ k + 1 ∧ j = .int .i64 q ∧ CIs wq gc gm (k + 1) (lessS c i x) ∧ RIs wq B gr M3 ∧ Below w.heap.size w wq) (fun j _ => k + 1 - (intOf j).toNat)
          case atStart => exact ⟨0, by omega, rfl, HC2.out, HR2.out, HB2.out⟩
          case round =>
            obtain ⟨q, hq, rfl, hCq, hRq, hBq⟩ := hrel
            by_cases hql : q < k + 1
            · have hrq := h0.below hBq
              obtain ⟨b2, off2, l2, i2, x2, hx2, eA, hbb2, hd0, hd1, hd2⟩ := hrq.act (k := q) (by rw [← HN.out]; omega)
              cases eA
              obtain ⟨gi2, gx2⟩ := HG.out _ (List.mem_of_getElem? hx2)
              simp only at gi2 gx2
              have hqn : q < n := by omega
              have hqi : (q : Int) < (n : Int) := by omega
              have hww : (Lit.int .i64 (wrap64 (1 - x2))).wf = true := wrap64_wf _
              have hww2 : (Lit.int .i64 (IntKind.i64.wrap (1 - x2))).wf = true := by rw [IntWalk.i64_left]; exact hww
              have HCq := Lib.hid hCq
              have HRq := Lib.hid hRq
              have HBq := Lib.hid hBq
              clear hCq hRq hBq hrq hx2 h0 hd0 hc0 hc1 hc2
              go_wp2
              go_quiet (first | (go_at_call 13; exact quiet_left (of_all _ (HCq.out.drewN _) (by assumption) (by assumption) rfl)) | (go_at_call 14; exact quiet_left (refOf_c HCM.out (HRq.out.drewN _) (by omega))))
              go_wp2
              go_roundw
              case rel => exact ⟨q + 1, by omega, by go_num, HCq.out.drewN _, HRq.out.drewN _, below_drewN HBq.out _⟩
              case measure => simp [intOf] <;> omega
            · go_wp2
              go_roundw
              case rel => exact ⟨k + 1, (lessS c i x), M3, by omega, by go_num, hCq, hRq, hM', HCM.out, hBq⟩
              case measure => simp [intOf] <;> omega
    · obtain rfl : k = n := by omega
      go_wp2
      go_ret
      exact ⟨rfl, hB⟩
end Go.Proofs.Ytbekljgcbbhnbaa
