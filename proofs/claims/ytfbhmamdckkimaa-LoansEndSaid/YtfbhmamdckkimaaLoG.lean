/- Loans: contracts of the document's Add, End, Union, Same. -/
import Derived.Test.YtfbhmamdckkimaaLoF
import Derived.Deep.DeepCutAuto
namespace Go.Proofs.Ytfbhmamdckkimaa
open Go.RowKit
set_option linter.unusedVariables false
set_option linter.unusedSimpArgs false

theorem lo_row {W : World} {A : Option Addr} {c : Nat} (O : List Lo) (hrd : Rd W W.heap.size 4 loC A O) (hok : ∀ x ∈ O, LoOk W x) (h1 : O.length ≤ c) (hl : O.length ≤ 1000000) : LoRow W A O.length c O := ⟨rfl, hrd, hok, h1, hl⟩
theorem row_own {w W : World} {B : Nat} {e : TypeId} {v : Value} {n : Nat} {O : List Lo} (h : W.ownsRow B e 4 v n (O.flatMap loC)) (hn : O.length = n) (hok : ∀ x ∈ O, LoOk W x) (hl : n ≤ 1000000) : ∃ A c, v = .slice A n c ∧ LoRow W A n c O := by
  subst hn
  obtain ⟨A, c, rfl, hrd, h1, _⟩ := own_rd loC_len h
  exact ⟨A, c, rfl, lo_row O hrd hok h1 hl⟩

set_option maxHeartbeats 3200000 in
theorem radd_any (A : Option Addr) (len c : Nat) (Ls : List Lo) (x : Lo) (w : World) (h : LoRow w A len c Ls) (hx : LoOk w x) (hl : len ≤ 100000) :
    Calls Try.prog 21 #[.slice A len c, .agg #[.string x.pl.name, .slice x.pl.pa x.pl.path.length x.pl.pc, .bool x.alone, .int .i64 x.till]] w (RowIs (addL (Ls.map Lo.key) x.key) w) := by
  obtain ⟨i0, hi0, hz0, hz1, hz2⟩ := info_parts infoR
  obtain ⟨W0, hW0⟩ : ∃ W0, W0 = w.alloc (.cells #[.string x.pl.name, .slice x.pl.pa x.pl.path.length x.pl.pc, .bool x.alone, .int .i64 x.till] 37) := ⟨_, rfl⟩
  have hb0 : Below w.heap.size w W0 := by rw [hW0]; exact (Below.refl _ _).alloc (Nat.le_refl _) _
  have hk0 : Blk W0 w.heap.size 37 #[.string x.pl.name, .slice x.pl.pa x.pl.path.length x.pl.pc, .bool x.alone, .int .i64 x.till] := by rw [hW0]; exact Blk.new w _ _
  obtain ⟨hb, hhb⟩ : ∃ b, hasL (Ls.map Lo.key) x.key = b := ⟨_, rfl⟩
  have HC := Lib.hid (rhas_any A len c Ls x W0 (h.below hb0) (hx.next hb0) hb hhb)
  have H := Lib.hid h
  have HX := Lib.hid hx
  have HB0 := Lib.hid hb0
  have HW := Lib.hid hW0
  have HK0 := Lib.hid hk0
  have HHB := Lib.hid hhb
  have HLN := Lib.hid h.ln
  clear h hx hb0 hk0 hhb
  cases hb
  · go_enter Try.func21, Try.ntmps21
    go_wp2_with fail
    rw [← HW.out]
    clear hW0
    refine HC.out.mono ?_
    rintro r w1 ⟨rfl, h1⟩
    have HB1 := Lib.hid (HB0.out.trans (h1.mono HB0.out.size))
    have HR1 := Lib.hid ((H.out.below HB1.out).rd)
    have hk1 := HK0.out.below h1 HK0.out.lt
    have HK1 := Lib.hid hk1
    have hs1 := HB1.out.size
    clear h1 hk1 HC
    go_upto_region 5 with (at_builtin; refine wpList_append_rd _ rfl _ _ 31 rfl w.heap.size 37 i0 (.agg #[.string ByteArray.empty, .slice none 0 0, .bool false, .int .i64 0]) 4 56 Try.underlying31 hi0 hz0 hz1 hz2 rfl (by decide) _ 0 [] rfl (World.ownsRow_nil _ _ _ _) _ _ len c loC loC_len loC_one Ls HLN.out rfl HR1.out (by unfold maxLen; omega) (by omega) hs1 ?_; intro v2 w2 hown2 hg2 _)
    have hb2 := HB1.out.grown hg2 hs1 (fun q hq => by cases hq)
    have hbt2 : Below w1.heap.size w1 w2 := (Below.refl _ _).grown hg2 (Nat.le_refl _) (fun q hq => by cases hq)
    have hk2 := HK1.out.below hbt2 HK1.out.lt
    have HB2 := Lib.hid hb2
    have HO2 := Lib.hid hown2
    have d0 := bl0 hk2
    have d1 := bl1 hk2
    have d2 := bl2 hk2
    have d3 := bl3 hk2
    have z2 := hk2.lt
    have hr1 := rd_one (cells := loC) (x := x) loC_len (Blk.new w2 37 #[.string x.pl.name, .slice x.pl.pa x.pl.path.length x.pl.pc, .bool x.alone, .int .i64 x.till]) rfl
    have HR2 := Lib.hid hr1
    have hs2 := HB2.out.size
    clear hown2 hg2 hb2 hbt2 hk2 hr1
    go_wp2_with (at_builtin; refine wpList_append_rd _ rfl _ _ 31 rfl w.heap.size 37 i0 (.agg #[.string ByteArray.empty, .slice none 0 0, .bool false, .int .i64 0]) 4 56 Try.underlying31 hi0 hz0 hz1 hz2 rfl (by decide) _ (0 + len) _ rfl (HO2.out.alloc _) _ _ 1 1 loC loC_len loC_one [x] rfl rfl HR2.out (by unfold maxLen; omega) (by omega) (by simp; omega) ?_; intro v3 w3 hown3 hg3 _)
    have hb3 : Below w2.heap.size w2 (w2.alloc (.cells #[.string x.pl.name, .slice x.pl.pa x.pl.path.length x.pl.pc, .bool x.alone, .int .i64 x.till] 37)) := (Below.refl _ _).alloc (Nat.le_refl _) _
    have HB3 := Lib.hid ((HB2.out.trans (hb3.mono HB2.out.size)).grown hg3 (by simp; omega) (fun q hq => (HO2.out.lt q hq).1))
    have hfin : w3.ownsRow w.heap.size 37 4 v3 (len + 1) ((Ls ++ [x]).flatMap loC) := by
      rw [List.flatMap_append]; simpa using hown3
    obtain ⟨A3, c3, rfl, hrow⟩ := row_own (w := w) hfin (by rw [List.length_append, HLN.out]; rfl) (by
      intro y hy
      rcases List.mem_append.1 hy with hy | hy
      · exact (H.out.ok y hy).next HB3.out
      · rw [List.mem_singleton.1 hy]; exact HX.out.next HB3.out) (by omega)
    have HF := Lib.hid (show RowIs (addL (Ls.map Lo.key) x.key) w (.returned (.slice A3 (len + 1) c3)) w3 from ⟨A3, _, c3, Ls ++ [x], rfl, hrow, by unfold addL; rw [HHB.out, List.map_append]; rfl, HB3.out⟩)
    clear hown3 hg3 hb3 hfin hrow
    go_wp2
    go_ret
    exact HF.out
  · go_enter Try.func21, Try.ntmps21
    go_wp2_with fail
    rw [← HW.out]
    clear hW0
    refine HC.out.mono ?_
    rintro r w1 ⟨rfl, h1⟩
    have HB1 := Lib.hid (HB0.out.trans (h1.mono HB0.out.size))
    have HF := Lib.hid (show RowIs (addL (Ls.map Lo.key) x.key) w (.returned (.slice A len c)) w1 from ⟨A, len, c, Ls, rfl, H.out.below HB1.out, by unfold addL; rw [HHB.out]; rfl, HB1.out⟩)
    clear h1
    go_wp2
    go_ret
    exact HF.out

/-- what the document's Union has got so far -/
def UnR (w : World) (Ks : List LKey) (m : Nat) (v : Value) (wr : World) : Prop := ∃ (A : Option Addr) (n c : Nat) (O : List Lo), v = .slice A n c ∧ LoRow wr A n c O ∧ O.map Lo.key = Ks ∧ n ≤ m
set_option maxHeartbeats 3200000 in
theorem runion_any (A A' : Option Addr) (len len' c c' : Nat) (Ls Ms : List Lo) (w : World) (h : LoRow w A len c Ls) (h' : LoRow w A' len' c' Ms) (hl : len ≤ 1000) (hl' : len' ≤ 1000) :
    Calls Try.prog 23 #[.slice A len c, .slice A' len' c'] w (RowIs (unionL (Ls.map Lo.key) (Ms.map Lo.key)) w) := by
  have H := Lib.hid h
  have H' := Lib.hid h'
  clear h h'
  go_enter Try.func23, Try.ntmps23
  go_wp2
  go_loopw [5, 6] (fun v i wr => ∃ k : Nat, k ≤ len' ∧ i = .int .i64 k ∧ UnR w (unionL (Ls.map Lo.key) ((Ms.map Lo.key).take k)) (len + k) v wr ∧ Below w.heap.size w wr) (fun _ i _ => len' - (intOf i).toNat)
  case atStart => exact ⟨0, by omega, rfl, ⟨A, len, c, Ls, rfl, H.out, by rw [List.take_zero]; rfl, by omega⟩, Below.refl _ _⟩
  case round =>
    obtain ⟨k, hk, rfl, ⟨Ao, n, co, O, rfl, hrow, hkey, hn⟩, hbl⟩ := hrel
    have HB := Lib.hid hbl
    have HR := Lib.hid hrow
    have HK := Lib.hid hkey
    clear hbl hrow hkey
    by_cases hlt : k < len'
    · obtain ⟨x, hx⟩ : ∃ x, Ms[k]? = some x := ⟨_, List.getElem?_eq_getElem (by rw [H'.out.ln]; exact hlt)⟩
      have hkx : (Ms.map Lo.key)[k]? = some x.key := by rw [List.getElem?_map, hx]; rfl
      have HLS := Lib.hid (unionL_succ (a := Ls.map Lo.key) hkx)
      have hmem := List.mem_of_getElem? hx
      obtain ⟨b, off, hA, hb, c0, c1, c2, c3⟩ := ((H'.out.below HB.out).rd).lo hx
      subst hA
      have hki : (k : Int) < (len' : Int) := by omega
      have HC := Lib.hid (radd_any Ao n co O x wr HR.out ((H'.out.below HB.out).ok x hmem) (by omega))
      have HOL := Lib.hid HR.out.ln
      obtain ⟨lx, hlx⟩ : ∃ n, x.pl.path.length = n := ⟨_, rfl⟩
      rw [hlx] at c1 HC
      clear hx hkx hlx
      go_wp2_with fail
      refine HC.out.mono ?_
      rintro r w1 ⟨A1, n1, c1', O1, rfl, hr1, hk1, h1⟩
      have hn1 : n1 ≤ n + 1 := by
        rw [← hr1.ln, ← List.length_map (f := Lo.key), hk1]
        have := addL_len (O.map Lo.key) x.key
        rw [List.length_map, HOL.out] at this
        exact this
      have HB1 := Lib.hid (HB.out.trans (h1.mono HB.out.size))
      have HL5 := Lib.hid (show UnR w (unionL (Ls.map Lo.key) ((Ms.map Lo.key).take (k + 1))) (len + (k + 1)) (.slice A1 n1 c1') w1 from ⟨A1, n1, c1', O1, rfl, hr1, by rw [hk1, HK.out, HLS.out], by omega⟩)
      clear hr1 hk1 h1 c0 c1 c2 c3
      go_wp2
      go_roundw
      case rel => exact ⟨k + 1, by omega, by go_num, HL5.out, HB1.out⟩
      case measure => simp [intOf] <;> omega
    · obtain rfl : k = len' := by omega
      have HF := Lib.hid (show RowIs (unionL (Ls.map Lo.key) (Ms.map Lo.key)) w (.returned (.slice Ao n co)) wr from ⟨Ao, n, co, O, rfl, HR.out, by rw [HK.out, List.take_of_length_le (by rw [List.length_map, H'.out.ln]; exact Nat.le_refl _)], HB.out⟩)
      go_wp2
      go_ret
      exact HF.out

set_option maxHeartbeats 3200000 in
theorem rend_any (A : Option Addr) (len c : Nat) (Ls : List Lo) (d : Int) (w : World) (h : LoRow w A len c Ls) :
    Calls Try.prog 22 #[.slice A len c, .int .i64 d] w (RowIs (endL (Ls.map Lo.key) d) w) := by
  obtain ⟨i0, hi0, hz0, hz1, hz2⟩ := info_parts infoR
  have H := Lib.hid h
  have hN := h.bg
  clear h
  go_enter Try.func22, Try.ntmps22
  go_wp2
  go_loopw [5, 6] (fun v i wr => ∃ (k : Nat) (O : List Lo), k ≤ len ∧ i = .int .i64 k ∧ wr.ownsRow w.heap.size 37 4 v O.length (O.flatMap loC) ∧ (∀ y ∈ O, y ∈ Ls) ∧ O.map Lo.key = endL ((Ls.map Lo.key).take k) d ∧ Below w.heap.size w wr) (fun _ i _ => len - (intOf i).toNat)
  case atStart => exact ⟨0, [], by omega, rfl, World.ownsRow_nil _ _ _ _, by simp, by simp [endL], Below.refl _ _⟩
  case round =>
    obtain ⟨k, O, hk, rfl, hown, hsub, hkey, hbl⟩ := hrel
    have HB := Lib.hid hbl
    have HO := Lib.hid hown
    have HS := Lib.hid hsub
    have HK := Lib.hid hkey
    have hOl : O.length ≤ k := by
      have h1 := congrArg List.length hkey
      rw [List.length_map] at h1
      rw [h1]
      exact Nat.le_trans (List.length_filter_le _ _) (List.length_take_le _ _)
    obtain ⟨Ao, co, rfl⟩ := own_slice hown
    clear hbl hown hsub hkey
    by_cases hlt : k < len
    · obtain ⟨x, hx⟩ : ∃ x, Ls[k]? = some x := ⟨_, List.getElem?_eq_getElem (by rw [H.out.ln]; exact hlt)⟩
      have hkx : (Ls.map Lo.key)[k]? = some x.key := by rw [List.getElem?_map, hx]; rfl
      have HLS := Lib.hid (show endL ((Ls.map Lo.key).take (k + 1)) d = if decide (x.till < d) then endL ((Ls.map Lo.key).take k) d ++ [x.key] else endL ((Ls.map Lo.key).take k) d from filter_succ hkx)
      have hmem := List.mem_of_getElem? hx
      obtain ⟨b, off, hA, hb, c0, c1, c2, c3⟩ := ((H.out.below HB.out).rd).lo hx
      subst hA
      have hki : (k : Int) < (len : Int) := by omega
      obtain ⟨lx, hlx⟩ : ∃ n, x.pl.path.length = n := ⟨_, rfl⟩
      have HLX := Lib.hid hlx
      rw [hlx] at c1
      obtain ⟨tx, htx⟩ : ∃ t, x.till = t := ⟨_, rfl⟩
      have HTX := Lib.hid htx
      rw [htx] at c3 HLS
      clear hlx hx hkx htx
      by_cases ht : tx < d
      · have HLN := Lib.hid (show endL ((Ls.map Lo.key).take (k + 1)) d = endL ((Ls.map Lo.key).take k) d ++ [x.key] by rw [HLS.out, decide_eq_true ht]; rfl)
        have hr1 := rd_one (cells := loC) (x := x) loC_len (Blk.new wr 37 #[.string x.pl.name, .slice x.pl.pa lx x.pl.pc, .bool x.alone, .int .i64 tx]) (by rw [← HLX.out, ← HTX.out]; rfl)
        have HR1 := Lib.hid hr1
        clear hr1
        go_wp2_with (at_builtin; refine wpList_append_rd _ rfl _ _ 31 rfl w.heap.size 37 i0 (.agg #[.string ByteArray.empty, .slice none 0 0, .bool false, .int .i64 0]) 4 56 Try.underlying31 hi0 hz0 hz1 hz2 rfl (by decide) _ O.length _ rfl (HO.out.alloc _) _ _ 1 1 loC loC_len loC_one [x] rfl rfl HR1.out (by unfold maxLen; omega) (by omega) (by have := HB.out.size; simp; omega) ?_; intro v5 w5 hown5 hg5 _)
        have hb5 : Below wr.heap.size wr (wr.alloc (.cells #[.string x.pl.name, .slice x.pl.pa lx x.pl.pc, .bool x.alone, .int .i64 tx] 37)) := (Below.refl _ _).alloc (Nat.le_refl _) _
        have HB5 := Lib.hid ((HB.out.trans (hb5.mono HB.out.size)).grown hg5 (by have := HB.out.size; simp; omega) (fun q hq => (HO.out.lt q hq).1))
        have HL5 := Lib.hid (show w5.ownsRow w.heap.size 37 4 v5 (O ++ [x]).length ((O ++ [x]).flatMap loC) by rw [List.length_append, List.flatMap_append]; simpa using hown5)
        have HS5 := Lib.hid (show ∀ y ∈ O ++ [x], y ∈ Ls by
          intro z hz
          rcases List.mem_append.1 hz with hz | hz
          · exact HS.out z hz
          · rw [List.mem_singleton.1 hz]; exact hmem)
        clear hown5 hg5 hb5
        go_wp2
        go_roundw
        case rel => exact ⟨k + 1, O ++ [x], by omega, by go_num, HL5.out, HS5.out, by rw [List.map_append, HK.out, HLN.out]; rfl, HB5.out⟩
        case measure => simp [intOf] <;> omega
      · have HLN := Lib.hid (show endL ((Ls.map Lo.key).take (k + 1)) d = endL ((Ls.map Lo.key).take k) d by rw [HLS.out, decide_eq_false ht]; rfl)
        go_wp2
        go_roundw
        case rel => exact ⟨k + 1, O, by omega, by go_num, HO.out, HS.out, by rw [HK.out, HLN.out], HB.out⟩
        case measure => simp [intOf] <;> omega
    · obtain rfl : k = len := by omega
      obtain ⟨A3, c3, e, hrow⟩ := row_own (w := w) HO.out rfl (fun y hy => (H.out.ok y (HS.out y hy)).next HB.out) (by omega)
      injection e with e1 e2 e3
      subst e1 e3
      have HF := Lib.hid (show RowIs (endL (Ls.map Lo.key) d) w (.returned (.slice Ao O.length co)) wr from ⟨Ao, _, co, O, rfl, hrow, by rw [HK.out, List.take_of_length_le (by rw [List.length_map, H.out.ln]; exact Nat.le_refl _)], HB.out⟩)
      clear e2 hrow
      go_wp2
      go_ret
      exact HF.out

set_option maxHeartbeats 6400000 in
theorem rsameBook_any (A A' : Option Addr) (len len' c c' : Nat) (Ls Ms : List Lo) (w : World) (h : LoRow w A len c Ls) (h' : LoRow w A' len' c' Ms) :
    Calls Try.prog 28 #[.slice A len c, .slice A' len' c'] w fun r w' => r = .returned (.bool (sameBk (Ls.map Lo.key) (Ms.map Lo.key))) ∧ Below w.heap.size w w' := by
  have H := Lib.hid h
  have H' := Lib.hid h'
  have hN := h.bg
  have hN' := h'.bg
  clear h h'
  go_enter Try.func28, Try.ntmps28
  go_wp2
  go_loopw [5] (fun i wr => ∃ k : Nat, k ≤ len ∧ i = .int .i64 k ∧ (∀ (q : Nat) (y : Lo), q < k → Ls[q]? = some y → hasL (Ms.map Lo.key) y.key = true) ∧ Below w.heap.size w wr) (fun i _ => len - (intOf i).toNat)
  case atStart => exact ⟨0, by omega, rfl, fun q y hq => by omega, Below.refl _ _⟩
  case round =>
    obtain ⟨k, hk, rfl, hall, hbl⟩ := hrel
    have HA1 := Lib.hid hall
    have HB1 := Lib.hid hbl
    clear hall hbl
    by_cases hlt : k < len
    · obtain ⟨y, hy⟩ : ∃ y, Ls[k]? = some y := ⟨_, List.getElem?_eq_getElem (by rw [H.out.ln]; exact hlt)⟩
      obtain ⟨b, off, hA, hb, c0, c1, c2, c3⟩ := ((H.out.below HB1.out).rd).lo hy
      subst hA
      have hki : (k : Int) < (len : Int) := by omega
      have hmem := List.mem_of_getElem? hy
      obtain ⟨hs, hhs⟩ : ∃ b, hasL (Ms.map Lo.key) y.key = b := ⟨_, rfl⟩
      have HC := Lib.hid (rhas_any _ _ _ Ms y wr (H'.out.below HB1.out) ((H.out.below HB1.out).ok y hmem) hs hhs)
      obtain ⟨lx, hlx⟩ : ∃ n, y.pl.path.length = n := ⟨_, rfl⟩
      rw [hlx] at c1 HC
      cases hs
      · have HN := Lib.hid (show sameBk (Ls.map Lo.key) (Ms.map Lo.key) = false by
          rw [Bool.eq_false_iff]; intro hb
          unfold sameBk withinL at hb
          rw [Bool.and_eq_true, List.all_eq_true, List.all_eq_true] at hb
          have := hb.1 y.key (List.mem_map.2 ⟨y, hmem, rfl⟩)
          rw [hhs] at this; cases this)
        clear hy hhs hlx hmem
        go_wp2_with fail
        refine HC.out.mono ?_
        rintro r w1 ⟨rfl, h1⟩
        have HB1 := Lib.hid (HB1.out.trans (h1.mono HB1.out.size))
        clear h1
        go_wp2
        go_ret
        exact ⟨by rw [HN.out]; rfl, HB1.out⟩
      · have HN := Lib.hid (show ∀ (q : Nat) (z : Lo), q < k + 1 → Ls[q]? = some z → hasL (Ms.map Lo.key) z.key = true by
          intro q z hq hz
          rcases Nat.lt_or_ge q k with h1 | h1
          · exact HA1.out q z h1 hz
          · obtain rfl : q = k := by omega
            rw [hy] at hz; cases hz; exact hhs)
        clear hy hhs hlx hmem
        go_wp2_with fail
        refine HC.out.mono ?_
        rintro r w1 ⟨rfl, h1⟩
        have HB1 := Lib.hid (HB1.out.trans (h1.mono HB1.out.size))
        clear h1
        go_wp2
        go_roundw
        case rel => exact ⟨k + 1, by omega, by go_num, HN.out, HB1.out⟩
        case measure => simp [intOf] <;> omega
    · obtain rfl : k = len := by omega
      obtain ⟨wo, rfl⟩ : ∃ wo : World, wo = wr := ⟨_, rfl⟩
      go_wp2
      go_loopw [6] (fun i wr => ∃ k : Nat, k ≤ len' ∧ i = .int .i64 k ∧ (∀ (q : Nat) (y : Lo), q < k → Ms[q]? = some y → hasL (Ls.map Lo.key) y.key = true) ∧ Below w.heap.size w wr) (fun i _ => len' - (intOf i).toNat)
      case atStart => exact ⟨0, by omega, rfl, fun q y hq => by omega, HB1.out⟩
      case round =>
        obtain ⟨k, hk, rfl, hall, hbl⟩ := hrel
        have HA2 := Lib.hid hall
        have HB2 := Lib.hid hbl
        clear hall hbl
        by_cases hlt : k < len'
        · obtain ⟨y, hy⟩ : ∃ y, Ms[k]? = some y := ⟨_, List.getElem?_eq_getElem (by rw [H'.out.ln]; exact hlt)⟩
          obtain ⟨b, off, hA, hb, c0, c1, c2, c3⟩ := ((H'.out.below HB2.out).rd).lo hy
          subst hA
          have hki : (k : Int) < (len' : Int) := by omega
          have hmem := List.mem_of_getElem? hy
          obtain ⟨hs, hhs⟩ : ∃ b, hasL (Ls.map Lo.key) y.key = b := ⟨_, rfl⟩
          have HC := Lib.hid (rhas_any _ _ _ Ls y wr (H.out.below HB2.out) ((H'.out.below HB2.out).ok y hmem) hs hhs)
          obtain ⟨lx, hlx⟩ : ∃ n, y.pl.path.length = n := ⟨_, rfl⟩
          rw [hlx] at c1 HC
          cases hs
          · have HN := Lib.hid (show sameBk (Ls.map Lo.key) (Ms.map Lo.key) = false by
              rw [Bool.eq_false_iff]; intro hb
              unfold sameBk withinL at hb
              rw [Bool.and_eq_true, List.all_eq_true, List.all_eq_true] at hb
              have := hb.2 y.key (List.mem_map.2 ⟨y, hmem, rfl⟩)
              rw [hhs] at this; cases this)
            clear hy hhs hlx hmem
            go_wp2_with fail
            refine HC.out.mono ?_
            rintro r w1 ⟨rfl, h1⟩
            have HB1 := Lib.hid (HB2.out.trans (h1.mono HB2.out.size))
            clear h1
            go_wp2
            go_ret
            exact ⟨by rw [HN.out]; rfl, HB1.out⟩
          · have HN := Lib.hid (show ∀ (q : Nat) (z : Lo), q < k + 1 → Ms[q]? = some z → hasL (Ls.map Lo.key) z.key = true by
              intro q z hq hz
              rcases Nat.lt_or_ge q k with h1 | h1
              · exact HA2.out q z h1 hz
              · obtain rfl : q = k := by omega
                rw [hy] at hz; cases hz; exact hhs)
            clear hy hhs hlx hmem
            go_wp2_with fail
            refine HC.out.mono ?_
            rintro r w1 ⟨rfl, h1⟩
            have HB1 := Lib.hid (HB2.out.trans (h1.mono HB2.out.size))
            clear h1
            go_wp2
            go_roundw
            case rel => exact ⟨k + 1, by omega, by go_num, HN.out, HB1.out⟩
            case measure => simp [intOf] <;> omega
        · obtain rfl : k = len' := by omega
          have HN := Lib.hid (show sameBk (Ls.map Lo.key) (Ms.map Lo.key) = true by
            unfold sameBk withinL
            rw [Bool.and_eq_true, List.all_eq_true, List.all_eq_true]
            constructor
            · intro z hz
              obtain ⟨y, hy, rfl⟩ := List.mem_map.1 hz
              obtain ⟨q, hq⟩ := List.mem_iff_getElem?.1 hy
              exact HA1.out q y (by rw [← H.out.ln]; exact (List.getElem?_eq_some_iff.1 hq).1) hq
            · intro z hz
              obtain ⟨y, hy, rfl⟩ := List.mem_map.1 hz
              obtain ⟨q, hq⟩ := List.mem_iff_getElem?.1 hy
              exact HA2.out q y (by rw [← H'.out.ln]; exact (List.getElem?_eq_some_iff.1 hq).1) hq)
          go_wp2
          go_ret
          exact ⟨by rw [HN.out]; rfl, HB2.out⟩
end Go.Proofs.Ytfbhmamdckkimaa
