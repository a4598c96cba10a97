/- ClockTicks: the walk. -/
import Derived.Test.YtfhainobolfleaaD
namespace Go.Proofs.Ytfhainobolfleaa
open Go.ChangeShapes Go.WideShapes Go.RowKit
set_option linter.unusedVariables false

theorem cells3 : Try.prog.cellsOf 3 = 1 := by kernel_rfl
section
variable {H : Type} {enc : TypeId × Value → H} {w : World} {base : Nat} {spare : Nat → Bool} {held : Bool}
theorem open22 {r : Reach} {b0 : Nat} {v : Value} {d : DataW H} {p : List MemPlace} (hok : Value.okWide Try.prog w r b0 22 v) (h : DataW.Trod enc Try.prog w base spare held 22 v d p) :
    ∃ (A : Option Addr) (c : Nat) (L : List Int), v = .slice A L.length c ∧ Rd w w.heap.size 1 intC A L ∧ (∀ x ∈ L, (Lit.int .i64 x).wf = true) ∧ L.length ≤ c ∧ c ≤ maxLen := by
  obtain ⟨a, len, cap, rfl⟩ := okWide_slice Try.underlying22 hok
  obtain ⟨L, rfl, h1, h2, h3, h4⟩ := open_reads Try.underlying22 1 cells3 (by omega) intC intC_len (fun x => (Lit.int .i64 x).wf = true) (fun n cs y hy => read_int Try.underlying3 hy) h
  exact ⟨a, cap, L, rfl, h1, h2, h3, h4⟩
end

theorem wf_bd {x : Int} (h : (Lit.int .i64 x).wf = true) : -9223372036854775808 ≤ x ∧ x ≤ 9223372036854775807 := by
  simp [Lit.wf, IntKind.min, IntKind.max, IntKind.signed, IntKind.bits] at h
  exact h
theorem atZ_bd {C : List Int} (h : ∀ x ∈ C, (Lit.int .i64 x).wf = true) (n : Int) : -9223372036854775808 ≤ atZ C n ∧ atZ C n ≤ 9223372036854775807 := by
  by_cases hn : n < 0 ∨ (C.length : Int) ≤ n
  · rw [atZ_out hn]; omega
  · obtain ⟨k, rfl⟩ : ∃ k : Nat, n = k := ⟨n.toNat, by omega⟩
    have hk : k < C.length := by omega
    rw [atZ_in (List.getElem?_eq_getElem hk)]
    exact wf_bd (h _ (List.getElem_mem hk))
theorem cell_three_new (w : World) (a b c : Value) (t : TypeId) : ∀ j u, [a, b, c][j]? = some u → (w.alloc (.cells #[a, b, c] t)).cell? ((⟨w.heap.size, 0, none⟩ : Addr).add j) = some u := by
  intro j u hj
  match j, hj with
  | 0, hj => simp at hj; subst hj; simp [Addr.add]
  | 1, hj => simp at hj; subst hj; simp [Addr.add]
  | 2, hj => simp at hj; subst hj; simp [Addr.add]
  | j + 3, hj => simp at hj

set_option maxRecDepth 100000 in
set_option maxHeartbeats 3200000 in
theorem ticksWalk (A : Option Addr) (c : Nat) (C : List Int) (n : Int) (w : World) (rd : Rd w w.heap.size 1 intC A C) (g : ∀ x ∈ C, (Lit.int .i64 x).wf = true) (hc : C.length ≤ c) (hm : c ≤ maxLen) (hn : (Lit.int .i64 n).wf = true) :
    Calls Try.prog 3 #[.slice A C.length c, .int .i64 n] w fun r w' => r = .returned (.bool true) ∧ Below w.heap.size w w' := by
  obtain ⟨i0, hi0, hz0, hz1, hz2⟩ := info_parts info3
  obtain ⟨len, hl⟩ : ∃ len, C.length = len := ⟨_, rfl⟩
  rw [hl] at hc ⊢
  have HL := Lib.hid hl
  have HM := Lib.hid hm
  clear hl hm hn
  by_cases hbig : 2000 < len
  · go_enter Try.func3, Try.ntmps3
    go_wp2
    go_ret
    exact ⟨rfl, Below.refl _ _⟩
  have hlen : len ≤ 2000 := by omega
  have hbd := (atZ_bd g n).2
  have HBD := Lib.hid hbd
  have HG := Lib.hid g
  have HRD := Lib.hid rd
  clear hbd g hbig rd
  go_enter Try.func3, Try.ntmps3
  go_wp2_with (first
    | (at_builtin; refine wpList_append_rd _ rfl (.tmp 13) (.tmp 14) 22 rfl w.heap.size 3 i0 (.int .i64 0) 1 8 Try.underlying22 hi0 hz0 hz1 hz2 rfl (by decide) (.slice none 0 0) 0 [] rfl (World.ownsRow_nil _ _ _ _) w.heap.size _ len _ intC intC_len intC_one C HL.out rfl HRD.out (by unfold maxLen; omega) (by omega) (Nat.le_refl _) ?_; intro v1 w1 hown1 hg1 hx1; have hb1 := (Below.refl w.heap.size w).grown hg1 (Nat.le_refl _) (by simp [Value.ownBlock]))
    | (at_builtin; refine wpList_append_own _ rfl (.tmp 16) (.tmp 17) 22 rfl w.heap.size 3 i0 (.int .i64 0) 1 8 Try.underlying22 hi0 hz0 hz1 hz2 rfl (by decide) v1 (0 + len) _ rfl (hown1.alloc _) ⟨w1.heap.size, 0, none⟩ 3 3 [.int .i64 77, .int .i64 77, .int .i64 77] rfl rfl (cell_three_new _ _ _ _ _) (by intro u hu; simp at hu; subst hu; rfl) (by unfold maxLen; omega) (by omega) (by have := hb1.size; simp; omega) ?_; intro v2 w2 hown2 hg2 hx2))
  have hb2 : Below w.heap.size w w2 := (hb1.alloc hb1.size _).grown hg2 (by have := hb1.size; simp; omega) (fun k e => (hown1.lt k e).1)
  obtain ⟨gm, cm, rfl⟩ := own_succ (k := len + 2) (by simpa using hown2)
  have hown2' : w2.ownsRow w.heap.size 3 1 (.slice (some ⟨gm, 0, none⟩) (len + 2 + 1) cm) (C ++ [77, 77, 77]).length ((C ++ [77, 77, 77]).flatMap intC) := by
    rw [List.length_append, HL.out, List.flatMap_append]
    simpa [intC] using hown2
  have hcap : len ≤ cm := by
    obtain ⟨A', c', hv, hr, hlc, _⟩ := own_rd intC_len hown2'
    rw [Value.slice.injEq] at hv
    rw [List.length_append, HL.out] at hlc
    omega
  clear hown1 hown2 hg1 hg2 hb1 hx1 hx2
  refine (refTick_any A len c C n w2 HL.out hc (by omega) HM.out HBD.out ((HRD.out.below hb2).more hb2.size)).mono ?_
  rintro r w3 ⟨vw, rfl, hownW, hb3⟩
  obtain ⟨T, hT⟩ : ∃ T, T = tickL C n := ⟨_, rfl⟩
  rw [← hT] at hownW
  have HT := Lib.hid hT
  clear hT
  have hb03 : Below w.heap.size w w3 := hb2.trans (hb3.mono hb2.size)
  have RC : Rd w3 w3.heap.size 1 intC A C := (HRD.out.below hb03).more hb03.size
  have RM : Rd w3 w3.heap.size 1 intC (some ⟨gm, 0, none⟩) (C ++ [77, 77, 77]) := by
    obtain ⟨A', c', hv, hr, _⟩ := own_rd intC_len hown2'
    rw [Value.slice.injEq] at hv
    rw [← hv.1] at hr
    exact (hr.below hb3).more hb3.size
  have RMC : Rd w3 w3.heap.size 1 intC (some ⟨gm, 0, none⟩) C := by
    have := RM.take len
    rwa [List.take_left' HL.out] at this
  have q77 : w3.cell? ⟨gm, len, none⟩ = some (.int .i64 77) := by
    obtain ⟨b, off, x, hx, hA, _, hcx⟩ := RM.int (k := len) (by rw [List.length_append, HL.out]; simp)
    cases hA
    rw [List.getElem?_append_right (by rw [HL.out]; exact Nat.le_refl _), HL.out] at hx
    simp at hx
    subst hx
    simpa using hcx
  have hg3 : gm < w3.heap.size := by
    have := hown2'.lt gm rfl
    have := hb3.size
    omega
  obtain ⟨Aw, cw, rfl, RW, hxw⟩ := own_rd intC_len hownW
  obtain ⟨m, hm⟩ : ∃ m, T.length = m := ⟨_, rfl⟩
  have hm9 : m ≤ 1000000 := by
    rw [← hm, HT.out]
    unfold tickL formL
    have h1 := trim_le (tickG C (tickOn C n) n) (tickN C n)
    have h2 : tickN C n ≤ 900000 := by
      unfold tickN
      have h3 := HL.out
      by_cases hon : tickOn C n = true
      · rw [if_pos hon]; unfold tickOn at hon; simp at hon; omega
      · rw [if_neg hon]; omega
    simp
    omega
  rw [hm]
  have H1 := Lib.hid RC
  have H2 := Lib.hid RMC
  have H3 := Lib.hid q77
  have H4 := Lib.hid RW
  have H5 := Lib.hid hm
  have H6 := Lib.hid hb03
  have H7 := Lib.hid hm9
  clear hxw RC RMC RM q77 RW hm hb03 hownW hown2' hb2 hb3 hm9
  go_wp2
  go_loopw [7] (fun i wr => ∃ t : Nat, t ≤ 2 ∧ i = .int .i64 t ∧ Below w3.heap.size w3 wr) (fun i _ => 2 - (intOf i).toNat)
  case atStart => exact ⟨0, by omega, rfl, Below.refl _ _⟩
  case round =>
    obtain ⟨t, ht, rfl, hB⟩ := hrel
    by_cases ht2 : t < 2
    · have ht2i : (t : Int) < 2 := by omega
      have HB := Lib.hid hB
      clear hB
      go_wp2_with fail
      refine (tick_any _ len cm C n wr HL.out (by omega) ((H2.out.below HB.out).more HB.out.size)).mono ?_
      rintro r w4 ⟨vo, rfl, hownO, hb4⟩
      rw [← HT.out] at hownO
      have hB4 : Below w3.heap.size w3 w4 := HB.out.trans (hb4.mono HB.out.size)
      obtain ⟨Ao, co, rfl, hro, hxo⟩ := own_rd intC_len hownO
      rw [H5.out] at hownO ⊢
      have HO := Lib.hid hownO
      have HRO := Lib.hid hro
      have HB4 := Lib.hid hB4
      clear hxo hownO hro hB4 hb4
      go_wp2_with fail
      refine (at_12 (n := n) HL.out (H2.out.below HB4.out)).mono ?_
      rintro r w' ⟨rfl, rfl⟩
      go_wp2_with fail
      refine (at_13 (n := n) HL.out (H1.out.below HB4.out)).mono ?_
      rintro r w' ⟨rfl, rfl⟩
      go_wp2_with fail
      have hs1 := refSame_any Ao Aw m co m cw w4.heap.size T T w4 H5.out H5.out HRO.out ((H4.out.below HB4.out).more HB4.out.size) H7.out
      rw [decide_eq_true rfl] at hs1
      refine hs1.mono ?_
      rintro r w' ⟨rfl, n1, rfl⟩
      clear hs1
      go_wp2_with fail
      have hs2 := refSame_any (some ⟨gm, 0, none⟩) A len cm len c w3.heap.size C C (w4.drewN n1) HL.out HL.out (H2.out.below (below_drewN HB4.out n1)) (H1.out.below (below_drewN HB4.out n1)) (by omega)
      rw [decide_eq_true rfl] at hs2
      refine hs2.mono ?_
      rintro r w' ⟨rfl, n2, rfl⟩
      clear hs2
      have q77 : (w4.drewN (n1 + n2)).cell? ⟨gm, len, none⟩ = some (.int .i64 77) := (HB4.out.cell hg3).trans H3.out
      have hB5 := below_drewN HB4.out (n1 + n2)
      go_wp2
      go_loopw [9] (fun i wq => ∃ (k : Nat) (xs : List Value), k ≤ m ∧ i = .int .i64 k ∧ wq.ownsRow wr.heap.size 3 1 (.slice Ao m co) m xs ∧ Below w3.heap.size w3 wq) (fun i _ => m - (intOf i).toNat)
      case atStart => exact ⟨0, _, by omega, rfl, HO.out, hB5⟩
      case round =>
        obtain ⟨k, xs, hk, rfl, hox, hBx⟩ := hrel
        clear q77 hB5
        by_cases hkm : k < m
        · have hform : ∃ go, Ao = some ⟨go, 0, none⟩ := by
            rcases hox.2 with ⟨_, h0⟩ | ⟨go, cap, _, hv, _⟩
            · omega
            · cases hv; exact ⟨go, rfl⟩
          obtain ⟨go, rfl⟩ := hform
          have hxl := hox.1
          obtain ⟨u, hu⟩ : ∃ u, xs[k]? = some u := ⟨xs[k]'(by omega), List.getElem?_eq_getElem (by omega)⟩
          have hcell := hox.cellAt k (by omega)
          rw [hu] at hcell
          have hfr := hox.frozenAt k
          have hst := hox.stored k (.int .i64 (-9))
          have hB6 := hBx.setCell (p := ⟨go, k, none⟩) (by have := (hox.lt go rfl).1; have := HB.out.size; show w3.heap.size ≤ go; omega) (.int .i64 (-9))
          have HST := Lib.hid hst.1
          have HB6 := Lib.hid hB6
          have hmm := H7.out
          have hkmi : (k : Int) < (m : Int) := by omega
          clear hst hB6 hxl hu hox hBx
          go_wp2
          go_roundw
          case rel => exact ⟨k + 1, _, by omega, by go_num, HST.out, HB6.out⟩
          case measure => simp [intOf] <;> omega
        · obtain rfl : k = m := by omega
          go_wp2
          go_roundw
          case rel => exact ⟨t + 1, by omega, by go_num, hBx⟩
          case measure => simp [intOf] <;> omega
    · obtain rfl : t = 2 := by omega
      go_wp2
      go_ret
      exact ⟨rfl, H6.out.trans (hB.mono H6.out.size)⟩
end Go.Proofs.Ytfhainobolfleaa
