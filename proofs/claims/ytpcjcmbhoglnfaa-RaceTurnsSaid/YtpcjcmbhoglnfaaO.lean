/- Race: the contract of reaches: the walk. -/
import Derived.Test.YtpcjcmbhoglnfaaN
import Derived.Test.YtpcjcmbhoglnfaaI
import Derived.Lib.QuietBelow
namespace Go.Proofs.Ytpcjcmbhoglnfaa
open Go.RowKit
set_option linter.unusedVariables false
set_option linter.unusedSimpArgs false

theorem Rd.nat (w : World) (a : Nat) (t : TypeId) : Rd (w.alloc (.cells #[.int .i64 a] t)) (w.heap.size + 1) 1 intC (some ⟨w.heap.size, 0, none⟩) [(a : Int)] := by
  refine .inr ⟨w.heap.size, 0, rfl, by omega, fun i x hx j u hu => ?_⟩
  rw [(Blk.new w t _).cell]
  match i, hx with
  | 0, hx =>
    simp at hx; subst hx
    match j, hu with
    | 0, hu => simp [intC] at hu; subst hu; rfl
    | j + 1, hu => simp [intC] at hu
  | i + 1, hx => simp at hx

theorem own_other {w w' : World} {B B' e e' s s' n n' : Nat} {v v' : Value} {xs xs' : List Value} (h : w.ownsRow B e s v n xs) (ho : w.ownsRow B' e' s' v' n' xs') (hne : e ≠ e') (hg : w.grownBy w' v'.ownBlock) : w'.ownsRow B e s v n xs := by
  refine h.kept hg ?_
  cases e1 : v.ownBlock with
  | none => exact .inl rfl
  | some g => exact .inr (fun e2 => (own_ty h e1).ne (own_ty ho e2.symm) hne rfl)
theorem made_false (n : Nat) : (madeCells (Value.bool false).cells (n * 1)).toList = (List.replicate n false).map Value.bool := by
  rw [List.map_replicate, Nat.mul_one]
  apply List.ext_getElem
  · simp [madeCells]
  · intro i h1 h2
    simp [madeCells, Value.cells, Nat.mod_one]

set_option maxRecDepth 100000 in
set_option maxHeartbeats 12800000 in
theorem reaches_any {w : World} (A : Option Addr) (len c : Nat) (L : List Ev) (h : EvRow w A len c L) (i k : Nat) (hik : i < k) (hk : k < len) (b : Bool) (hb : b = true ↔ HB (trOf L).F i k) :
    Calls Try.prog 16 #[.slice A len c, .int .i64 i, .int .i64 k] w fun r w' => r = .returned (.bool b) ∧ Below w.heap.size w w' := by
  have HR := Lib.hid h
  have hN := h.N
  have HBI := Lib.hid hb
  clear h hb
  obtain ⟨i0, hi0, hz0, hz1, hz2⟩ := info_parts info4
  obtain ⟨j0, hj0, hy0, hy1, hy2⟩ := info_parts info3
  obtain ⟨g, hg⟩ : ∃ g, g = w.heap.size := ⟨_, rfl⟩
  have HG := Lib.hid hg
  clear hg
  go_enter Try.func16, Try.ntmps16
  go_wp2_with (at_make; refine wpList_make_full _ rfl _ _ 51 rfl w.heap.size 4 i0 (.bool false) 1 Try.underlying51 hi0 hz0 hz1 .i64 .i64 _ _ (k + 1) rfl rfl (by omega) (by omega) (by rw [hz2]; omega) (by unfold maxLen; omega) (Nat.le_refl _) ?_; intro w1 hown1 hg1)
  have hb1 : Below w.heap.size w w1 := (Below.refl _ w).grown hg1 (Nat.le_refl _) (by simp)
  rw [made_false] at hown1
  have hrow := World.ownsRow_lit (base := w.heap.size) (e := 3) (size := 1) w1 #[natV k] 1 hb1.size (by unfold maxLen; omega) rfl
  have hRW : RW w w.heap.size k (List.replicate (k + 1) false) [k] (.slice (some ⟨w1.heap.size, 0, none⟩) 1 1) (w1.alloc (.cells #[natV k] 3)) := ⟨hown1.alloc _, hrow, hb1.alloc hb1.size _⟩
  obtain ⟨W1, hW1⟩ : ∃ W1, W1 = w1.alloc (.cells #[natV k] 3) := ⟨_, rfl⟩
  rw [← hW1] at hRW
  unfold natV at hW1
  rw [← hW1]
  rw [← HG.out] at hRW
  rw [show (⟨w.heap.size, 0, none⟩ : Addr) = ⟨g, 0, none⟩ by rw [HG.out]]
  have HRW := Lib.hid hRW
  clear hW1 hRW hrow hown1 hg1 hb1 hi0 hz0 hz1 hz2 i0
  go_loopw [8] (fun v wr => ∃ (seen : List Bool) (td : List Nat), RW w g k seen td v wr ∧ RInv (trOf L).F k seen td ∧ 2 * seen.count false + td.length ≤ 2 * k + 3) (fun v wr => 2 * fcount wr g (k + 1) + lenV v)
  case atStart => exact ⟨_, _, HRW.out, rinv0 _ _, by simp [List.count_replicate]; omega⟩
  case round =>
    obtain ⟨seen, td, hrw, hinv, hcnt⟩ := hrel
    have HW := Lib.hid hrw
    have HI := Lib.hid hinv
    have hfc := fcount_of hrw.o4 hinv.len
    have HFC := Lib.hid hfc
    clear hrw hinv hfc
    rcases List.eq_nil_or_concat td with rfl | ⟨td', n, rfl⟩
    · obtain ⟨Av, cv, rfl⟩ := own_slice HW.out.o3
      obtain ⟨sb, hsb⟩ : ∃ sb, seen[i]? = some sb := ⟨_, List.getElem?_eq_getElem (by rw [HI.out.len]; omega)⟩
      have hcell := HW.out.o4.cellAt i (by omega)
      rw [List.getElem?_map, hsb] at hcell
      replace hcell : wr.cell? ⟨g, i, none⟩ = some (.bool sb) := hcell
      have e : b = sb := by
        rw [Bool.eq_iff_iff, HBI.out, ← HI.out.fin (i := i), hsb]
        simp
      have HE := Lib.hid e
      have h1 : (i : Int) < (k : Int) := by omega
      have h2 : (i : Int) < (k : Int) + 1 := by omega
      have h3 : (0 : Int) ≤ (i : Int) := by omega
      clear hsb e
      go_wp2
      go_ret
      exact ⟨by rw [HE.out]; rfl, HW.out.b⟩
    · rw [List.concat_eq_append] at *
      obtain ⟨q, hq⟩ : ∃ q, q = td'.length := ⟨_, rfl⟩
      have ho := HW.out.o3
      rw [List.length_append, ← hq, List.map_append] at ho
      obtain ⟨gt, ct, rfl⟩ := own_succ ho
      obtain ⟨ho3, hcn, hct, hctm⟩ := own_pop ho
      unfold natV at hcn
      have hin := HI.out.pop
      have hnk := hin.nk
      have hrw2 : RW w g k seen td' (.slice (some ⟨gt, 0, none⟩) q ct) wr := ⟨HW.out.o4, by rw [← hq]; exact ho3, HW.out.b⟩
      have HW2 := Lib.hid hrw2
      have HIN := Lib.hid hin
      have hq9 : q ≤ 2 * k + 3 := by simp at hcnt; omega
      have d1 : (q : Int) ≤ (ct : Int) := by omega
      have HQ := Lib.hid hq
      obtain ⟨M0, hM0⟩ : ∃ M0, M0 = 2 * seen.count false + q + 1 := ⟨_, rfl⟩
      have HM0 := Lib.hid hM0
      clear hrw2 hin ho ho3 hq hM0 hctm
      go_wp2
      clear hcn
      go_loopw [8, 10] (fun v j wq => ∃ (m : Nat) (seen2 : List Bool) (td2 : List Nat), m ≤ n ∧ j = .int .i64 m ∧ RW w g k seen2 td2 v wq ∧ RIn (trOf L).F k n m seen2 td2 ∧ 2 * seen2.count false + td2.length + 1 ≤ M0) (fun _ j _ => n - (intOf j).toNat)
      case atStart => exact ⟨0, seen, td', by omega, rfl, HW2.out, HIN.out, by rw [HM0.out, HQ.out]; omega⟩
      case round =>
        obtain ⟨m, seen2, td2, hm, rfl, hrw, hin, hcn2⟩ := hrel
        have HWi := Lib.hid hrw
        have HII := Lib.hid hin
        clear hrw hin
        by_cases hlt : m < n
        · obtain ⟨sb, hsb⟩ : ∃ sb, seen2[m]? = some sb := ⟨_, List.getElem?_eq_getElem (by rw [HII.out.len]; omega)⟩
          have hcell := HWi.out.o4.cellAt m (by omega)
          rw [List.getElem?_map, hsb] at hcell
          replace hcell : wr.cell? ⟨g, m, none⟩ = some (.bool sb) := hcell
          obtain ⟨Ae, ce, rfl⟩ := own_slice HWi.out.o3
          have hcell0 := hcell
          have hrow := HR.out.below HWi.out.b
          have hmx := at_evAt (L := L) (i := m) (by rw [HR.out.len]; omega)
          have hnx := at_evAt (L := L) (i := n) (by rw [HR.out.len]; omega)
          obtain ⟨bb, off, rfl, _, x0, x1, x2, x3⟩ := hrow.rd.ev hmx
          obtain ⟨b', off', eA, _, y0, y1, y2, y3⟩ := hrow.rd.ev hnx
          cases eA
          obtain ⟨x, hx⟩ : ∃ x, x = evAt L m := ⟨_, rfl⟩
          obtain ⟨y, hy⟩ : ∃ y, y = evAt L n := ⟨_, rfl⟩
          rw [← hx] at x0 x1 x2 x3
          rw [← hy] at y0 y1 y2 y3
          obtain ⟨lx, hlx⟩ : ∃ q, x.path.length = q := ⟨_, rfl⟩
          obtain ⟨ly, hly⟩ : ∃ q, y.path.length = q := ⟨_, rfl⟩
          rw [hlx] at x3
          rw [hly] at y3
          have hcell := cell_regrown hcell
          have x0 := cell_regrown x0
          have x1 := cell_regrown x1
          have x2 := cell_regrown x2
          have x3 := cell_regrown x3
          have y0 := cell_regrown y0
          have y1 := cell_regrown y1
          have y2 := cell_regrown y2
          have y3 := cell_regrown y3
          have HC0 := Lib.hid hcell0
          have HSB := Lib.hid hsb
          obtain ⟨fb, hfb⟩ : ∃ fb, folB x y = fb := ⟨_, rfl⟩
          have hfF : fb = true ↔ (trOf L).F m n := by rw [← hfb, hx, hy]; exact folB_iff L m n
          have hfo : ∀ (d : Nat) (os : Array Obj), Calls Try.prog 27 #[.agg #[.int .u8 x.kind, .int .i64 x.thread, .int .i64 x.id, .slice x.pa lx x.pc], .agg #[.int .u8 y.kind, .int .i64 y.thread, .int .i64 y.id, .slice y.pa ly y.pc]] (Go.Sort.grow (redrawn wr d) os) fun r w' => r = .returned (.bool fb) ∧ ∃ p : Regrown, w' = Go.Sort.grow (redrawn wr p.d) p.os := by
            intro d os
            rw [← hfb]
            exact Calls.regrown_of (follows_any x y lx ly _)
          have HFO := Lib.hid hfo
          have HFF := Lib.hid hfF
          have e1 : (m : Int) < (n : Int) := by omega
          have e2 : (m : Int) < (k : Int) + 1 := by omega
          have e3 : (m : Int) < (len : Int) := by omega
          have e4 : (n : Int) < (len : Int) := by omega
          have e5 : (0 : Int) ≤ (m : Int) := by omega
          have e6 : (0 : Int) ≤ (n : Int) := by omega
          clear hcell0 hsb hfb hfF hfo hx hy hlx hly hrow hmx hnx
          cases sb with
          | true =>
            go_wp2
            refine wp_region_quiet_below (by kernel_rfl) (by kernel_rfl) ?_
            repeat (first | go_big_quiet_step ((first | (go_at_call 27; exact HFO.out _ _))) | quiet_step ((first | (go_at_call 27; exact HFO.out _ _))))
            refine wpQuiet_nil ?_
            intro W2 hW2e
            obtain ⟨⟨dq, osq⟩, hW2⟩ := hW2e
            have hbl2 : Below wr.heap.size wr W2 := by rw [hW2]; exact below_regrown wr dq osq
            clear hW2 hcell x0 x1 x2 x3 y0 y1 y2 y3
            have hsk := HII.out.skip (fun _ => HSB.out)
            have HSK := Lib.hid hsk
            have HW3 := Lib.hid (HWi.out.below hbl2)
            clear hbl2 hsk
            go_wp2
            go_roundw
            case rel => exact ⟨m + 1, seen2, td2, by omega, by go_num, HW3.out, HSK.out, hcn2⟩
            case measure => simp [intOf] <;> omega
          | false =>
            cases fb with
            | false =>
              go_wp2
              refine wp_region_quiet_below (by kernel_rfl) (by kernel_rfl) ?_
              repeat (first | go_big_quiet_step ((first | (go_at_call 27; exact HFO.out _ _))) | quiet_step ((first | (go_at_call 27; exact HFO.out _ _))))
              refine wpQuiet_nil ?_
              intro W2 hW2e
              obtain ⟨⟨dq, osq⟩, hW2⟩ := hW2e
              have hbl2 : Below wr.heap.size wr W2 := by rw [hW2]; exact below_regrown wr dq osq
              clear hW2 hcell x0 x1 x2 x3 y0 y1 y2 y3
              have hsk := HII.out.skip (fun hf => absurd (HFF.out.2 hf) (by simp))
              have HSK := Lib.hid hsk
              have HW3 := Lib.hid (HWi.out.below hbl2)
              clear hbl2 hsk
              go_wp2
              go_roundw
              case rel => exact ⟨m + 1, seen2, td2, by omega, by go_num, HW3.out, HSK.out, hcn2⟩
              case measure => simp [intOf] <;> omega
            | true =>
              go_wp2
              refine wp_region_quiet_below (by kernel_rfl) (by kernel_rfl) ?_
              repeat (first | go_big_quiet_step ((first | (go_at_call 27; exact HFO.out _ _))) | quiet_step ((first | (go_at_call 27; exact HFO.out _ _))))
              refine wpQuiet_nil ?_
              intro W2 hW2e
              obtain ⟨⟨dq, osq⟩, hW2⟩ := hW2e
              have hbl2 : Below wr.heap.size wr W2 := by rw [hW2]; exact below_regrown wr dq osq
              clear hW2 hcell x0 x1 x2 x3 y0 y1 y2 y3
              have htk := HII.out.take hlt ((by first | exact HFF.out.1 trivial | exact HFF.out.1 rfl))
              have HTK := Lib.hid htk
              have hW3 := HWi.out.below hbl2
              have hc2 : W2.cell? ⟨g, m, none⟩ = some (.bool false) := (hbl2.cell (p := ⟨g, m, none⟩) (HWi.out.o4.lt g rfl).2).trans HC0.out
              have hf2 := hW3.o4.frozenAt m
              have hW4 := hW3.set m
              have hrdn : Rd ((W2.setCell ⟨g, m, none⟩ (.bool true)).alloc (.cells #[.int .i64 m] 3)) (W2.heap.size + 1) 1 intC (some ⟨W2.heap.size, 0, none⟩) [(m : Int)] := by
                have h := Rd.nat (W2.setCell ⟨g, m, none⟩ (.bool true)) m 3
                have e : (W2.setCell ⟨g, m, none⟩ (.bool true)).heap.size = W2.heap.size := by simp [World.setCell]
                rw [e] at h
                exact h
              have hcs := count_set HSB.out
              have hsz2 : w.heap.size ≤ W2.heap.size := hW3.b.size
              have HRN := Lib.hid hrdn
              have HW4 := Lib.hid hW4
              have HCS := Lib.hid hcs
              have hq2 : td2.length ≤ 2 * k + 5 := by
                have h1 := hcnt
                rw [List.length_append] at h1
                have := HM0.out; have := HQ.out
                simp at h1
                omega
              clear hbl2 htk hW3 hW4 hrdn hcs
              go_wp2_with (at_builtin; (refine wpList_append_rd _ rfl _ _ 24 rfl w.heap.size 3 j0 (.int .i64 0) 1 8 Try.underlying24 hj0 hy0 hy1 hy2 rfl (by decide) (.slice Ae td2.length ce) td2.length (td2.map natV) rfl (HW4.out.o3.alloc _) (W2.heap.size + 1) _ 1 _ intC intC_len intC_one [(m : Int)] rfl rfl HRN.out ?c3 ?c4 ?c5 ?_))
              case c3 => unfold maxLen; omega
              case c4 => omega
              case c5 => first | omega | (simp [World.setCell]; omega)
              intro v5 w5 hown5 hg5 hx5
              have hown6 : w5.ownsRow w.heap.size 3 1 v5 (td2 ++ [m]).length ((td2 ++ [m]).map natV) := by
                rw [List.length_append, List.map_append]
                exact hown5
              have hbl5 : Below w.heap.size w w5 := (HW4.out.b.alloc HW4.out.b.size _).grown hg5 (by simp [World.setCell]; omega) (fun q e => (HW4.out.o3.lt q e).1)
              have hW6 : RW w g k (seen2.set m true) (td2 ++ [m]) v5 w5 := ⟨own_other (HW4.out.o4.alloc _) (HW4.out.o3.alloc _) (by decide) hg5, hown6, hbl5⟩
              have HW6 := Lib.hid hW6
              clear hown5 hown6 hbl5 hW6 hg5 hx5 hc2 hf2
              go_wp2
              go_roundw
              case rel => exact ⟨m + 1, _, _, by omega, by go_num, HW6.out, HTK.out, by have := HCS.out; simp; omega⟩
              case measure => simp [intOf] <;> omega
        · obtain rfl : m = n := by omega
          have hfc2 := fcount_of HWi.out.o4 HII.out.len
          have HF2 := Lib.hid hfc2
          have hdone := HII.out.done
          have HDN := Lib.hid hdone
          obtain ⟨Ae, ce, rfl⟩ := own_slice HWi.out.o3
          clear hfc2 hdone
          go_wp2
          go_roundw
          case rel => exact ⟨seen2, td2, HWi.out, HDN.out, by rw [List.length_append] at hcnt; have := HM0.out; have := HQ.out; simp at hcnt; omega⟩
          case measure =>
            have := HM0.out
            simp only [lenV, HF2.out, HFC.out]
            omega
end Go.Proofs.Ytpcjcmbhoglnfaa
