/- Clock: the contract of the document's own Tick. -/
import Derived.Test.YtfhainobolfleaaC
namespace Go.Proofs.Ytfhainobolfleaa
open Go.RowKit
set_option linter.unusedVariables false

theorem trim_congr {g g' : Nat → Int} : ∀ n, (∀ i, i < n → g i = g' i) → trim g n = trim g' n
  | 0, _ => rfl
  | n + 1, h => by
    unfold trim
    rw [h n (by omega), trim_congr n fun i hi => h i (by omega)]
theorem formL_congr {g g' : Nat → Int} (n : Nat) (h : ∀ i, i < n → g i = g' i) : formL g n = formL g' n := by
  unfold formL
  rw [trim_congr n h]
  refine List.map_congr_left fun i hi => h i ?_
  have := trim_le g' n
  have := List.mem_range.1 hi
  omega

def lenOf : Value → Nat
  | .slice _ n _ => n
  | _ => 0
theorem lenOf_slice (A : Option Addr) (n c : Nat) : lenOf (.slice A n c) = n := rfl

/-- a clock made long enough, one number turned -/
theorem tick_plain (C : List Int) (k N : Nat) (hN : N = max C.length (k + 1)) (D : List Int) (hD : D = (C ++ List.replicate (N - C.length) 0).set k (wrap64 (atZ C k + 1))) (hon : tickOn C k = true) :
    D.length = N ∧ formL (atN D) N = tickL C k := by
  have hlen : D.length = N := by rw [hD]; simp; omega
  refine ⟨hlen, ?_⟩
  unfold tickL
  have hNN : tickN C k = N := by simp [tickN, hon, hN]
  rw [hon, hNN]
  refine formL_congr N fun i hi => ?_
  have hx : D[i]? = some (if i = k then wrap64 (atZ C k + 1) else atZ C i) := by
    rw [hD]
    by_cases hik : i = k
    · subst hik
      rw [if_pos rfl, List.getElem?_set_self (by simp; omega)]
    · rw [if_neg hik, List.getElem?_set_ne (fun e => hik e.symm)]
      rcases Nat.lt_or_ge i C.length with h | h
      · rw [List.getElem?_append_left h, List.getElem?_eq_getElem h, atZ_in (List.getElem?_eq_getElem h)]
      · rw [List.getElem?_append_right h, atZ_out (.inr (by omega)), List.getElem?_replicate, if_pos (by omega)]
  have := atZ_in hx
  unfold atN tickG
  rw [this]
  by_cases hik : i = k
  · subst hik; simp
  · rw [if_neg hik, if_neg (by omega)]
theorem tick_off (C : List Int) (n : Int) (h : tickOn C n = false) : formL (atN C) C.length = tickL C n := by
  unfold tickL tickN
  rw [h]
  refine formL_congr _ fun i _ => ?_
  simp [tickG, atN]

theorem form_made {w w1 : World} {v : Value} {L : List Int} (hb : Below w.heap.size w w1) (ho : w1.ownsRow w.heap.size 3 1 v L.length (L.flatMap intC)) (hN : L.length ≤ 1000000) :
    Calls Try.prog 20 #[v] w1 (Made w (formL (atN L) L.length)) := by
  obtain ⟨A, c, rfl, hr, hc, hm⟩ := own_rd intC_len ho
  exact (refForm_any A L.length c L w1 rfl hc hN hm hr).mono fun r w' h => Made.up h hb

set_option maxRecDepth 100000 in
set_option maxHeartbeats 1600000 in
theorem refTick_any (A : Option Addr) (len c : Nat) (C : List Int) (n : Int) (w : World) (hlen : C.length = len) (hc : len ≤ c) (hN : len ≤ 900000) (hcm : c ≤ maxLen) (hwf : atZ C n ≤ 9223372036854775807) (h : Rd w w.heap.size 1 intC A C) :
    Calls Try.prog 10 #[.slice A len c, .int .i64 n] w (Made w (tickL C n)) := by
  obtain ⟨i0, hi0, hz0, hz1, hz2⟩ := info_parts info3
  clear hcm
  have HWF := Lib.hid hwf
  clear hwf
  have HL := Lib.hid hlen
  clear hlen
  have off : tickOn C n = false → ∀ (v1 : Value) (w1 : World), Below w.heap.size w w1 → w1.ownsRow w.heap.size 3 1 v1 (0 + len) ([] ++ C.flatMap intC) → Calls Try.prog 20 #[v1] w1 (Made w (tickL C n)) := by
    intro ho v1 w1 hb hown
    rw [← tick_off C n ho]
    exact form_made hb (by rw [HL.out]; simpa using hown) (by rw [HL.out]; omega)
  by_cases hout : n < 0 ∨ 65536 ≤ n
  · have hoff := off (by simp [tickOn]; omega)
    have HOFF := Lib.hid hoff
    clear hoff off
    rcases hout with hn | hn
    · go_enter Try.func10, Try.ntmps10
      go_wp2_with (at_builtin; refine wpList_append_rd _ rfl _ _ 22 rfl w.heap.size 3 i0 (.int .i64 0) 1 8 Try.underlying22 hi0 hz0 hz1 hz2 rfl (by decide) (.slice none 0 0) 0 [] rfl (World.ownsRow_nil _ _ _ _) w.heap.size _ len _ intC intC_len intC_one C HL.out rfl h (by unfold maxLen; omega) (by omega) (Nat.le_refl _) ?_; intro v1 w1 hown1 hg1 _; have hb1 := (Below.refl w.heap.size w).grown hg1 (Nat.le_refl _) (by simp [Value.ownBlock]))
      refine (HOFF.out v1 w1 hb1 hown1).mono ?_
      rintro r w' ⟨v, rfl, hown, hb⟩
      go_wp2
      go_ret
      exact ⟨v, rfl, hown, hb⟩
    · have hn0 : 0 ≤ n := by omega
      go_enter Try.func10, Try.ntmps10
      go_wp2_with (at_builtin; refine wpList_append_rd _ rfl _ _ 22 rfl w.heap.size 3 i0 (.int .i64 0) 1 8 Try.underlying22 hi0 hz0 hz1 hz2 rfl (by decide) (.slice none 0 0) 0 [] rfl (World.ownsRow_nil _ _ _ _) w.heap.size _ len _ intC intC_len intC_one C HL.out rfl h (by unfold maxLen; omega) (by omega) (Nat.le_refl _) ?_; intro v1 w1 hown1 hg1 _; have hb1 := (Below.refl w.heap.size w).grown hg1 (Nat.le_refl _) (by simp [Value.ownBlock]))
      refine (HOFF.out v1 w1 hb1 hown1).mono ?_
      rintro r w' ⟨v, rfl, hown, hb⟩
      go_wp2
      go_ret
      exact ⟨v, rfl, hown, hb⟩
  obtain ⟨k, rfl⟩ : ∃ k : Nat, n = k := ⟨n.toNat, by omega⟩
  have hk : k < 65536 := by omega
  have hki : (k : Int) < 65536 := by omega
  have hk0 : (0 : Int) ≤ (k : Int) := by omega
  obtain ⟨x, hx⟩ : ∃ x, x = atZ C k := ⟨_, rfl⟩
  have hat : ∀ w1 : World, Below w.heap.size w w1 → Calls Try.prog 13 #[.slice A len c, .int .i64 k] w1 fun r w' => r = .returned (.int .i64 x) ∧ w1 = w' := by
    intro w1 hb
    rw [hx]
    exact at_13 HL.out (h.below hb)
  have HAT := Lib.hid hat
  clear hat hout
  by_cases hmax : x = 9223372036854775807
  · have hoff := off (by simp [tickOn, ← hx, hmax])
    have HOFF := Lib.hid hoff
    clear hoff off hx
    have hmx : (x == 9223372036854775807) = true := by simpa using hmax
    have HMX := Lib.hid hmx
    clear hmx hmax
    go_enter Try.func10, Try.ntmps10
    go_wp2_with (at_builtin; refine wpList_append_rd _ rfl _ _ 22 rfl w.heap.size 3 i0 (.int .i64 0) 1 8 Try.underlying22 hi0 hz0 hz1 hz2 rfl (by decide) (.slice none 0 0) 0 [] rfl (World.ownsRow_nil _ _ _ _) w.heap.size _ len _ intC intC_len intC_one C HL.out rfl h (by unfold maxLen; omega) (by omega) (Nat.le_refl _) ?_; intro v1 w1 hown1 hg1 _; have hb1 := (Below.refl w.heap.size w).grown hg1 (Nat.le_refl _) (by simp [Value.ownBlock]))
    refine (HAT.out _ hb1).mono ?_
    rintro r w' ⟨rfl, rfl⟩
    have hmx := HMX.out
    go_wp2_with fail
    refine (HOFF.out v1 w1 hb1 hown1).mono ?_
    rintro r w' ⟨v, rfl, hown, hb⟩
    go_wp2
    go_ret
    exact ⟨v, rfl, hown, hb⟩
  · have hon := Lib.hid (show x < 9223372036854775807 → tickOn C k = true from fun h => by simp [tickOn, ← hx, h]; omega)
    have HBM := Lib.hid (show (x == 9223372036854775807) = false by simpa using hmax)
    have HX := Lib.hid hx
    clear off hmax hx
    go_enter Try.func10, Try.ntmps10
    go_wp2_with (at_builtin; refine wpList_append_rd _ rfl _ _ 22 rfl w.heap.size 3 i0 (.int .i64 0) 1 8 Try.underlying22 hi0 hz0 hz1 hz2 rfl (by decide) (.slice none 0 0) 0 [] rfl (World.ownsRow_nil _ _ _ _) w.heap.size _ len _ intC intC_len intC_one C HL.out rfl h (by unfold maxLen; omega) (by omega) (Nat.le_refl _) ?_; intro v1 w1 hown1 hg1 _; have hb1 := (Below.refl w.heap.size w).grown hg1 (Nat.le_refl _) (by simp [Value.ownBlock]))
    refine (HAT.out _ hb1).mono ?_
    rintro r w' ⟨rfl, rfl⟩
    have hmx := HBM.out
    obtain ⟨A1, c1, rfl⟩ := own_slice hown1
    have hz : decide ((k : Int) < 0) = false := by simp
    have hzz2 : decide (65536 ≤ (k : Int)) = false := by simp; omega
    have hown1' : w1.ownsRow w.heap.size 3 1 (.slice A1 (0 + len) c1) len ((C ++ List.replicate 0 0).flatMap intC) := by simpa using hown1
    have HOWN1 := Lib.hid hown1'
    clear hown1 hown1'
    have hlt9 : x ≤ 9223372036854775807 := by rw [HX.out]; exact HWF.out
    have HON := Lib.hid (hon.out (by have := hlt9; have := HBM.out; simp at this; omega))
    clear hlt9 hon HWF
    go_wp2
    clear hmx
    go_loopw [5] (fun v wr => ∃ (j : Nat) (A2 : Option Addr) (c2 : Nat), v = .slice A2 (len + j) c2 ∧ wr.ownsRow w.heap.size 3 1 (.slice A2 (len + j) c2) (len + j) ((C ++ List.replicate j 0).flatMap intC) ∧ len + j ≤ max len (k + 1) ∧ Below w.heap.size w wr) (fun v _ => k + 1 - lenOf v)
    case atStart => exact ⟨0, A1, c1, by simp, by simpa using HOWN1.out, by omega, hb1⟩
    case round =>
      obtain ⟨j, A2, c2, rfl, hown2, hjm, hB⟩ := hrel
      clear hb1 hz hzz2
      by_cases hle : len + j ≤ k
      · have hlei : (len : Int) + (j : Int) ≤ (k : Int) := by omega
        have HOWN2 := Lib.hid hown2
        clear hown2
        go_wp2_with (at_builtin; refine wpList_append_own _ rfl _ _ 22 rfl w.heap.size 3 i0 (.int .i64 0) 1 8 Try.underlying22 hi0 hz0 hz1 hz2 rfl (by decide) _ (len + j) _ rfl (HOWN2.out.alloc _) ⟨wr.heap.size, 0, none⟩ 1 1 [.int .i64 0] rfl rfl (cell_one_new _ _ _) (intC_one 0) (by unfold maxLen; omega) (by omega) (by have := hB.size; simp; omega) ?_; intro v' w2 hown3 hg2 _; obtain ⟨A3, c3, rfl⟩ := own_slice hown3)
        have hB2 : Below w.heap.size w w2 := ((hB.alloc hB.size _).grown hg2 (by have := hB.size; simp; omega) (fun q e => (HOWN2.out.lt q e).1))
        have hown4 : w2.ownsRow w.heap.size 3 1 (.slice A3 (len + j + 1) c3) (len + (j + 1)) ((C ++ List.replicate (j + 1) 0).flatMap intC) := by
          rw [List.replicate_succ', ← List.append_assoc, List.flatMap_append]
          simpa [intC, Nat.add_assoc] using hown3
        clear hown3 hg2
        go_wp2
        go_roundw
        case rel => exact ⟨j + 1, A3, c3, rfl, hown4, by omega, hB2⟩
        case measure => simp [lenOf]; omega
      · have hN : len + j = max len (k + 1) := by omega
        obtain ⟨q, hq⟩ : ∃ q, len + j = q + 1 := ⟨len + j - 1, by omega⟩
        have hown2' := hown2
        rw [hq] at hown2'
        obtain ⟨g, cap, hv⟩ := own_succ hown2'
        obtain ⟨rfl, rfl⟩ : A2 = some ⟨g, 0, none⟩ ∧ c2 = cap := by
          rw [Value.slice.injEq] at hv
          exact ⟨hv.1, hv.2.2⟩
        clear hown2' hv
        obtain ⟨m, hm⟩ : ∃ m, m = len + j := ⟨_, rfl⟩
        rw [← hm] at hown2 hN
        have hxk : (C ++ List.replicate j 0)[k]? = some x := by
          rw [HX.out]
          rcases Nat.lt_or_ge k C.length with h | h
          · rw [List.getElem?_append_left h, List.getElem?_eq_getElem h, atZ_in (List.getElem?_eq_getElem h)]
          · rw [List.getElem?_append_right h, atZ_out (.inr (by omega)), List.getElem?_replicate, if_pos (by rw [HL.out] at h ⊢; omega)]
        have hcell : wr.cell? ⟨g, k, none⟩ = some (.int .i64 x) := by
          have h1 := hown2.cellAt k (by omega)
          have h2 := flat_at intC_len _ k x hxk 0 (.int .i64 x) rfl
          rw [Nat.mul_one, Nat.add_zero] at h2
          rw [h1, h2]
        have hfr := hown2.frozenAt k
        have hst := (hown2.stored k (.int .i64 (wrap64 (x + 1))))
        obtain ⟨D, hD⟩ : ∃ D, D = (C ++ List.replicate (m - C.length) 0).set k (wrap64 (atZ C k + 1)) := ⟨_, rfl⟩
        have hpl := tick_plain C k m (by rw [HL.out]; exact hN) D hD HON.out
        have hown5 : (wr.setCell ⟨g, k, none⟩ (.int .i64 (wrap64 (x + 1)))).ownsRow w.heap.size 3 1 (.slice (some ⟨g, 0, none⟩) m c2) D.length (D.flatMap intC) := by
          rw [hpl.1, hD, flat_intC]
          have e : m - C.length = j := by rw [HL.out]; omega
          rw [e, ← HX.out, List.map_set]
          have := hst.1
          rw [flat_intC] at this
          exact this
        have hB5 : Below w.heap.size w (wr.setCell ⟨g, k, none⟩ (.int .i64 (wrap64 (x + 1)))) := hB.setCell (p := ⟨g, k, none⟩) ((hown2.lt g rfl).1) _
        have hform := form_made hB5 hown5 (by rw [hpl.1]; omega)
        rw [hpl.1, hpl.2] at hform
        have HF := Lib.hid hform
        have hkm : (k : Int) < (m : Int) := by omega
        have hd1 : decide ((m : Int) ≤ (k : Int)) = false := by simp; omega
        clear hform hB5 hown5 hpl hst hxk hown2 HX HON hD hN hq hle
        rw [← hm]
        clear hm hjm h HAT HBM HL hB HOWN1 hN hc hki hk hg1
        go_wp2_with fail
        refine HF.out.mono ?_
        rintro r w' ⟨v, rfl, hown, hb⟩
        go_wp2
        go_ret
        exact ⟨v, rfl, hown, hb⟩
end Go.Proofs.Ytfhainobolfleaa
