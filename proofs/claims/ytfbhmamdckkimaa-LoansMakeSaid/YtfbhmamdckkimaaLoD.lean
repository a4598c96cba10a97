/- Loans: contracts of End, Of, Union, Add, Same. -/
import Derived.Test.YtfbhmamdckkimaaLoC
namespace Go.Proofs.Ytfbhmamdckkimaa
open Go.RowKit
set_option linter.unusedVariables false
set_option linter.unusedSimpArgs false

theorem LoMade.base {w0 w1 w : World} {Ks : List LKey} {v : Value} (h : LoMade w0 Ks v w) (hb : w1.heap.size ≤ w0.heap.size) : LoMade w1 Ks v w := by
  obtain ⟨O, h1, h2, h3⟩ := h
  exact ⟨O, own_mono h1 hb, fun y hy => (h2 y hy).less hb, h3⟩
set_option maxHeartbeats 800000 in
theorem end_any (A : Option Addr) (len c : Nat) (Ls : List Lo) (d : Int) (w : World) (h : LoRow w A len c Ls) (hp : ∀ x ∈ Ls, x.pl.path.length ≤ 1000000) :
    Calls Try.prog 17 #[.slice A len c, .int .i64 d] w fun r w' => ∃ v, r = .returned v ∧ LoMade w (endL (Ls.map Lo.key) d) v w' ∧ Below w.heap.size w w' := by
  obtain ⟨W0, hW0⟩ : ∃ W0, W0 = w.alloc (.cells #[.int .i64 d] 3) := ⟨_, rfl⟩
  have hb0 : Below w.heap.size w W0 := by rw [hW0]; exact (Below.refl _ _).alloc (Nat.le_refl _) _
  have hk : Blk W0 w.heap.size 3 #[.int .i64 d] := by rw [hW0]; exact Blk.new w _ _
  have HC := Lib.hid (some_cap 33 (.pointer (some ⟨w.heap.size, 0, none⟩)) (fun x => decide (x.2.2 < d)) A len c Ls W0 (h.below hb0) hp enter_end1 (fun W hW x hx b hb => end1_any _ x d b W (hk.below hW hk.lt) hb))
  have HB := Lib.hid hb0
  have HW := Lib.hid hW0
  clear h hb0 hk hp
  go_enter Try.func17, Try.ntmps17
  go_wp2_with fail
  rw [← HW.out]
  refine HC.out.mono ?_
  rintro r w1 ⟨v, rfl, hl, h1⟩
  have HL := Lib.hid (hl.base HB.out.size)
  have HB1 := Lib.hid (HB.out.trans (h1.mono HB.out.size))
  clear hl h1
  go_wp2
  go_ret
  exact ⟨_, rfl, HL.out, HB1.out⟩
set_option maxHeartbeats 800000 in
theorem of_any (A : Option Addr) (len c : Nat) (Ls : List Lo) (s : ByteArray) (w : World) (h : LoRow w A len c Ls) (hp : ∀ x ∈ Ls, x.pl.path.length ≤ 1000000) :
    Calls Try.prog 19 #[.slice A len c, .string s] w fun r w' => ∃ v, r = .returned v ∧ LoMade w (ofL (Ls.map Lo.key) s) v w' ∧ Below w.heap.size w w' := by
  obtain ⟨W0, hW0⟩ : ∃ W0, W0 = w.alloc (.cells #[.string s] 9) := ⟨_, rfl⟩
  have hb0 : Below w.heap.size w W0 := by rw [hW0]; exact (Below.refl _ _).alloc (Nat.le_refl _) _
  have hk : Blk W0 w.heap.size 9 #[.string s] := by rw [hW0]; exact Blk.new w _ _
  have HC := Lib.hid (some_cap 36 (.pointer (some ⟨w.heap.size, 0, none⟩)) (fun x => decide (x.1.1 = s)) A len c Ls W0 (h.below hb0) hp enter_of1 (fun W hW x hx b hb => of1_any _ x s b W (hk.below hW hk.lt) hb))
  have HB := Lib.hid hb0
  have HW := Lib.hid hW0
  clear h hb0 hk hp
  go_enter Try.func19, Try.ntmps19
  go_wp2_with fail
  rw [← HW.out]
  refine HC.out.mono ?_
  rintro r w1 ⟨v, rfl, hl, h1⟩
  have HL := Lib.hid (hl.base HB.out.size)
  have HB1 := Lib.hid (HB.out.trans (h1.mono HB.out.size))
  clear hl h1
  go_wp2
  go_ret
  exact ⟨_, rfl, HL.out, HB1.out⟩

theorem sameLo_comm (x y : LKey) : sameLo x y = sameLo y x := by
  rw [Bool.eq_iff_iff, sameLo_iff, sameLo_iff]; exact eq_comm
theorem has_any (Ls : List Lo) (x : LKey) : Ls.any (fun y => sameLo x y.key) = hasL (Ls.map Lo.key) x := by
  unfold hasL
  rw [List.any_map]
  congr 1
  funext y
  exact sameLo_comm _ _
/-- ContainsFunc of a loan's 'is' -/
theorem hasis_any (x : Lo) (A : Option Addr) (len c : Nat) (Ls : List Lo) (w : World) (h : LoRow w A len c Ls) (hx : LoOk w x) (b : Bool) (hb : hasL (Ls.map Lo.key) x.key = b) :
    Calls Try.prog 30 #[.slice A len c, .func (.func 35) #[.agg #[.string x.pl.name, .slice x.pl.pa x.pl.path.length x.pl.pc, .bool x.alone, .int .i64 x.till]] #[]] w fun r w' => r = .returned (.bool b) ∧ Below w.heap.size w w' :=
  lhas_rec 35 (.agg #[.string x.pl.name, .slice x.pl.pa x.pl.path.length x.pl.pc, .bool x.alone, .int .i64 x.till]) (fun y => sameLo x.key y.key) A len c Ls w h b ((has_any _ _).trans hb) enter_is (fun W hW y hy b hb => is_any x y b W (hx.next hW) ((h.below hW).ok y hy) hb)

def Apt (v vM : Value) : Prop := ∀ g, vM.ownBlock = some g → v.ownBlock ≠ some g
/-- what Union has got so far -/
structure UnAt (w : World) (Ks : List LKey) (M : List Lo) (vM v : Value) (wr : World) : Prop where
  made : LoMade w Ks v wr
  own : wr.ownsRow w.heap.size 36 4 vM M.length (M.flatMap loC)
  ok : ∀ y ∈ M, LoOwn wr w.heap.size y
  apt : Apt v vM
set_option maxHeartbeats 3200000 in
theorem union_any (A A' : Option Addr) (len len' c c' : Nat) (Ls Ms : List Lo) (w : World) (h : LoRow w A len c Ls) (h' : LoRow w A' len' c' Ms) (hl : len ≤ 1000) (hl' : len' ≤ 1000) (hp : ∀ x ∈ Ls, x.pl.path.length ≤ 1000000) (hp' : ∀ x ∈ Ms, x.pl.path.length ≤ 1000000) :
    Calls Try.prog 18 #[.slice A len c, .slice A' len' c'] w fun r w' => ∃ v, r = .returned v ∧ LoMade w (unionL (Ls.map Lo.key) (Ms.map Lo.key)) v w' ∧ Below w.heap.size w w' := by
  obtain ⟨i0, hi0, hz0, hz1, hz2⟩ := info_parts infoL
  have HC := Lib.hid (some_non 34 (fun _ => true) A len c Ls w h hp enter_all (fun W hW x hx b hb => by subst hb; exact all_any x W))
  have H' := Lib.hid h'
  have HP' := Lib.hid hp'
  have HLL := Lib.hid (show (Ls.map Lo.key).length = len by rw [List.length_map, h.ln])
  have HML := Lib.hid (show (Ms.map Lo.key).length = len' by rw [List.length_map, h'.ln])
  obtain ⟨Ka, hKa⟩ : ∃ K, K = Ls.map Lo.key := ⟨_, rfl⟩
  obtain ⟨Kb, hKb⟩ : ∃ K, K = Ms.map Lo.key := ⟨_, rfl⟩
  rw [← hKa] at HC HLL ⊢
  rw [← hKb] at HML ⊢
  have HKB := Lib.hid hKb
  clear h h' hp hp' hKa hKb
  go_enter Try.func18, Try.ntmps18
  go_wp2_with fail
  refine HC.out.mono ?_
  rintro r w1 ⟨v1, rfl, hl1, h1⟩
  rw [List.filter_eq_self.2 (fun _ _ => rfl)] at hl1
  have HL1 := Lib.hid hl1
  have HB1 := Lib.hid h1
  have HC2 := Lib.hid (some_non 34 (fun _ => true) A' len' c' Ms w1 (H'.out.below h1) HP'.out enter_all (fun W hW x hx b hb => by subst hb; exact all_any x W))
  clear hl1 h1 HC
  go_wp2_with fail
  refine HC2.out.mono ?_
  rintro r w2 ⟨v2, rfl, hl2, h2⟩
  rw [← HKB.out, List.filter_eq_self.2 (fun _ _ => rfl)] at hl2
  have hml := HML.out
  obtain ⟨M, hMo, hMk, hMK⟩ := hl2
  obtain ⟨AM, cM, rfl, hMrd, hMc, _⟩ := own_rd loC_len hMo
  have hMl : M.length = len' := by rw [← hml, ← hMK, List.length_map]
  have hap : Apt v1 (.slice AM M.length cM) := fun g hg e => by
    obtain ⟨O, ho, _⟩ := HL1.out
    have e1 := (ho.lt g e).2
    have e2 := (hMo.lt g hg).1
    omega
  have HU := Lib.hid (UnAt.mk (HL1.out.below h2) (own_mono hMo HB1.out.size) (fun y hy => (hMk y hy).less HB1.out.size) hap)
  have HB2 := Lib.hid (HB1.out.trans (h2.mono HB1.out.size))
  have HMK := Lib.hid hMK
  have HMCL := Lib.hid hMl
  rw [hMl] at HU ⊢
  clear h2 hMo hMk hMK hMrd hMc hap HC2 HL1 hMl hml
  go_wp2
  go_loopw [5, 13] (fun v i wr => ∃ k : Nat, k ≤ len' ∧ i = .int .i64 k ∧ UnAt w (unionL Ka (Kb.take k)) M (.slice AM len' cM) v wr ∧ Below w.heap.size w wr) (fun _ i _ => len' - (intOf i).toNat)
  case atStart => exact ⟨0, by omega, rfl, by rw [List.take_zero]; exact HU.out, HB2.out⟩
  case round =>
    obtain ⟨k, hk, rfl, ⟨⟨O, hown, hok, hkey⟩, hMo, hMk, hap⟩, hbl⟩ := hrel
    have HB := Lib.hid hbl
    have HOK := Lib.hid hok
    have HK := Lib.hid hkey
    have HO := Lib.hid hown
    have HMO := Lib.hid hMo
    have HMOK := Lib.hid hMk
    have HAP := Lib.hid hap
    have hOl : O.length ≤ len + k := by
      have h1 := congrArg List.length hkey
      rw [List.length_map] at h1
      rw [h1, ← HLL.out]
      exact Nat.le_trans (unionL_len _ _) (Nat.add_le_add_left (List.length_take_le _ _) _)
    obtain ⟨Ao, co, rfl, hrdo, hco, _⟩ := own_rd loC_len hown
    have HRD := Lib.hid hrdo
    have HCO := Lib.hid hco
    clear hbl hok hkey hown hMk hap hrdo hco
    by_cases hlt : k < len'
    · obtain ⟨x, hx⟩ : ∃ x, M[k]? = some x := ⟨_, List.getElem?_eq_getElem (by rw [HMCL.out]; exact hlt)⟩
      have hkx : Kb[k]? = some x.key := by rw [← HMK.out, List.getElem?_map, hx]; rfl
      have HLS := Lib.hid (unionL_succ (a := Ka) hkx)
      have hmem := List.mem_of_getElem? hx
      obtain ⟨AM', cM', e0, hMrd, _, _⟩ := own_rd loC_len hMo
      injection e0 with e1 e2 e3
      subst e1 e3
      clear e2
      obtain ⟨b, off, hA, hb, c0, c1, c2, c3⟩ := hMrd.lo hx
      subst hA
      have hki : (k : Int) < (len' : Int) := by omega
      have hb1 : Below wr.heap.size wr (wr.alloc (.cells #[.string x.pl.name, .slice x.pl.pa x.pl.path.length x.pl.pc, .bool x.alone, .int .i64 x.till] 36)) := (Below.refl _ _).alloc (Nat.le_refl _) _
      obtain ⟨g, hg⟩ : ∃ g, g = wr.heap.size := ⟨_, rfl⟩
      obtain ⟨W1, hW1⟩ : ∃ W1, W1 = wr.alloc (.cells #[.string x.pl.name, .slice x.pl.pa x.pl.path.length x.pl.pc, .bool x.alone, .int .i64 x.till] 36) := ⟨_, rfl⟩
      rw [← hW1] at hb1
      have hbox : Blk W1 g 36 #[.string x.pl.name, .slice x.pl.pa x.pl.path.length x.pl.pc, .bool x.alone, .int .i64 x.till] := by rw [hW1, hg]; exact Blk.new _ _ _
      have hB1 : Below w.heap.size w W1 := HB.out.trans (hb1.mono HB.out.size)
      have hrow : LoRow W1 Ao O.length co O := ⟨rfl, (HRD.out.below hb1).more hb1.size, fun y hy => ((HOK.out y hy).below hb1).ok, HCO.out, by omega⟩
      have hxk : LoOk W1 x := ((HMOK.out x hmem).below hb1).ok
      obtain ⟨hb', hhb⟩ : ∃ b, hasL (O.map Lo.key) x.key = b := ⟨_, rfl⟩
      have HC1 := Lib.hid (hasis_any x Ao O.length co O W1 hrow hxk hb' hhb)
      rw [HK.out] at hhb
      have HHB := Lib.hid hhb
      have HB1' := Lib.hid hB1
      have HW1 := Lib.hid hW1
      have HG := Lib.hid hg
      have HBX := Lib.hid hbox
      have HBB := Lib.hid hb1
      obtain ⟨lx, hlx⟩ : ∃ n, x.pl.path.length = n := ⟨_, rfl⟩
      have HLX := Lib.hid hlx
      rw [hlx] at c1 HW1 HC1 HBX
      clear hhb hB1 hW1 hg hbox hkx hb1 hx hlx hrow hxk hMrd hMo
      go_wp2_with fail
      rw [← HG.out, ← HW1.out]
      refine HC1.out.mono ?_
      rintro r w3 ⟨rfl, h3⟩
      have hB3 := HB1'.out.trans (h3.mono HB1'.out.size)
      have HB3 := Lib.hid hB3
      have hbx3 := HBX.out.below h3 HBX.out.lt
      have hbt3 : Below wr.heap.size wr w3 := HBB.out.trans (h3.mono HBB.out.size)
      have HO3 := Lib.hid (own_below HO.out hbt3)
      have HOK3 := Lib.hid (fun y hy => (HOK.out y hy).below hbt3)
      have HMO3 := Lib.hid (own_below HMO.out hbt3)
      have HMOK3 := Lib.hid (fun y hy => (HMOK.out y hy).below hbt3)
      clear hB3 h3 hbt3 c0 c1 c2 c3
      cases hb'
      · have d0 := bl0 hbx3
        have d1 := bl1 hbx3
        have d2 := bl2 hbx3
        have d3 := bl3 hbx3
        have hr1 := rd_one (cells := loC) (x := x) loC_len (Blk.new w3 36 #[.string x.pl.name, .slice x.pl.pa lx x.pl.pc, .bool x.alone, .int .i64 x.till]) (by rw [← HLX.out]; rfl)
        have HR1 := Lib.hid hr1
        have hz3 := hbx3.lt
        clear hbx3 hr1
        go_wp2_with (at_builtin; refine wpList_append_rd _ rfl _ _ 22 rfl w.heap.size 36 i0 (.agg #[.string ByteArray.empty, .slice none 0 0, .bool false, .int .i64 0]) 4 56 Try.underlying22 hi0 hz0 hz1 hz2 rfl (by decide) _ O.length _ rfl (HO3.out.alloc _) _ _ 1 1 loC loC_len loC_one [x] rfl rfl HR1.out (by unfold maxLen; omega) (by omega) (by have := HB3.out.size; simp; omega) ?_; intro v5 w5 hown5 hg5 hat5)
        have hb5 : Below w3.heap.size w3 (w3.alloc (.cells #[.string x.pl.name, .slice x.pl.pa lx x.pl.pc, .bool x.alone, .int .i64 x.till] 36)) := (Below.refl _ _).alloc (Nat.le_refl _) _
        have HB5 := Lib.hid ((HB3.out.trans (hb5.mono HB3.out.size)).grown hg5 (by have := HB3.out.size; simp; omega) (fun q hq => (HO3.out.lt q hq).1))
        have HL5 := Lib.hid (show UnAt w (unionL Ka (Kb.take (k + 1))) M (.slice (some ⟨b, off, none⟩) len' cM) v5 w5 from ⟨⟨O ++ [x], by rw [List.length_append, List.flatMap_append]; simpa using hown5, by
          intro z hz
          rcases List.mem_append.1 hz with hz | hz
          · exact ((HOK3.out z hz).below hb5).grown (HO3.out.alloc _) (by decide) hg5
          · rw [List.mem_singleton.1 hz]; exact ((HMOK3.out x hmem).below hb5).grown (HO3.out.alloc _) (by decide) hg5, by
          rw [List.map_append, HK.out, HLS.out]; unfold addL; rw [HHB.out]; rfl⟩, (HMO3.out.alloc _).kept hg5 (.inr (fun e => HAP.out b rfl e.symm)), fun y hy => ((HMOK3.out y hy).below hb5).grown (HO3.out.alloc _) (by decide) hg5, by
          intro q hq e
          rcases hat5 with e5 | e5
          · rw [e5] at e; exact HAP.out q hq e
          · rw [e5] at e
            have e6 := (HMO3.out.lt q hq).2
            simp at e; omega⟩)
        clear hown5 hg5 hb5 hat5
        go_wp2
        go_roundw
        case rel => exact ⟨k + 1, by omega, by go_num, HL5.out, HB5.out⟩
        case measure => simp [intOf] <;> omega
      · have HL5 := Lib.hid (show UnAt w (unionL Ka (Kb.take (k + 1))) M (.slice (some ⟨b, off, none⟩) len' cM) (.slice Ao O.length co) w3 from ⟨⟨O, HO3.out, HOK3.out, by
          rw [HK.out, HLS.out]; unfold addL; rw [HHB.out]; rfl⟩, HMO3.out, HMOK3.out, HAP.out⟩)
        clear hbx3
        go_wp2
        go_roundw
        case rel => exact ⟨k + 1, by omega, by go_num, HL5.out, HB3.out⟩
        case measure => simp [intOf] <;> omega
    · obtain rfl : k = len' := by omega
      have HL5 := Lib.hid (show LoMade w (unionL Ka Kb) (.slice Ao O.length co) wr from ⟨O, HO.out, HOK.out, by
        rw [HK.out, List.take_of_length_le (by rw [HML.out]; exact Nat.le_refl _)]⟩)
      clear hMo
      go_wp2
      go_ret
      exact ⟨_, rfl, HL5.out, HB.out⟩
end Go.Proofs.Ytfbhmamdckkimaa
