/- Loans: contracts of some, End, Of. -/
import Derived.Test.YtfbhmamdckkimaaLoB
namespace Go.Proofs.Ytfbhmamdckkimaa
open Go.RowKit
set_option linter.unusedVariables false
set_option linter.unusedSimpArgs false

theorem infoL : (Try.prog.info? 36).map (fun i => (i.zero, i.size, i.bytes)) = some (some (.agg #[.string ByteArray.empty, .slice none 0 0, .bool false, .int .i64 0]), 4, 56) := by kernel_rfl
/-- a loan in memory of its own -/
structure LoOwn (w : World) (B : Nat) (y : Lo) : Prop where
  pl : PlOwn w B y.pl
  wt : (Lit.int .i64 y.till).wf = true
theorem LoOwn.ok {w : World} {B : Nat} {y : Lo} (h : LoOwn w B y) : LoOk w y := ⟨h.pl.ok, h.wt⟩
theorem LoOwn.below {w w' : World} {B : Nat} {y : Lo} (h : LoOwn w B y) (hb : Below w.heap.size w w') : LoOwn w' B y := ⟨h.pl.below hb, h.wt⟩
theorem LoOwn.less {w : World} {B B' : Nat} {y : Lo} (h : LoOwn w B y) (hb : B' ≤ B) : LoOwn w B' y := ⟨h.pl.less hb, h.wt⟩
theorem LoOwn.grown {w w' : World} {B B' n s : Nat} {y : Lo} {v : Value} {xs : List Value} {e' : TypeId} (h : LoOwn w B y) (ho : w.ownsRow B' e' s v n xs) (hne : 9 ≠ e') (hg : w.grownBy w' v.ownBlock) : LoOwn w' B y := ⟨h.pl.grown ho hne hg, h.wt⟩
/-- a book in memory of its own -/
structure LoMade (w0 : World) (Ks : List LKey) (v : Value) (w : World) : Prop where
  ex : ∃ O : List Lo, w.ownsRow w0.heap.size 36 4 v O.length (O.flatMap loC) ∧ (∀ y ∈ O, LoOwn w w0.heap.size y) ∧ O.map Lo.key = Ks
theorem LoMade.below {w0 w w' : World} {Ks : List LKey} {v : Value} (h : LoMade w0 Ks v w) (hb : Below w.heap.size w w') : LoMade w0 Ks v w' := by
  obtain ⟨O, h1, h2, h3⟩ := h
  exact ⟨O, own_below h1 hb, fun y hy => (h2 y hy).below hb, h3⟩
/-- the book as a row -/
theorem LoMade.row {w0 w : World} {Ks : List LKey} {v : Value} (h : LoMade w0 Ks v w) (hl : Ks.length ≤ 1000000) : ∃ (A : Option Addr) (c : Nat) (O : List Lo), v = .slice A Ks.length c ∧ LoRow w A Ks.length c O ∧ O.map Lo.key = Ks ∧ w.ownsRow w0.heap.size 36 4 v O.length (O.flatMap loC) ∧ (∀ y ∈ O, LoOwn w w0.heap.size y) := by
  obtain ⟨O, h1, h2, h3⟩ := h
  obtain ⟨A, c, rfl, hrd, hc, _⟩ := own_rd loC_len h1
  have hl' : O.length = Ks.length := by rw [← h3, List.length_map]
  exact ⟨A, c, O, by rw [hl'], ⟨hl', hrd, fun y hy => (h2 y hy).ok, by rw [← hl']; exact hc, hl⟩, h3, h1, h2⟩
theorem filter_map_key (L : List Lo) (f : LKey → Bool) : (L.map Lo.key).filter f = (L.filter (fun x => f x.key)).map Lo.key := by rw [List.filter_map]; rfl

set_option maxHeartbeats 3200000 in
theorem some_cap (F : Nat) (v1 : Value) (f : LKey → Bool) (A : Option Addr) (len c : Nat) (Ls : List Lo) (w : World) (h : LoRow w A len c Ls) (hp : ∀ x ∈ Ls, x.pl.path.length ≤ 1000000) (hE : ∀ (args : Array Value) (W : World), (callFunc F args).run Try.prog W = .ok (.enter F args) W)
    (hF : ∀ W, Below w.heap.size w W → ∀ x ∈ Ls, ∀ b, f x.key = b → Calls Try.prog F #[.agg #[.string x.pl.name, .slice x.pl.pa x.pl.path.length x.pl.pc, .bool x.alone, .int .i64 x.till], v1] W fun r W' => r = .returned (.bool b) ∧ Below W.heap.size W W') :
    Calls Try.prog 32 #[.slice A len c, .func (.func F) #[] #[v1]] w fun r w' => ∃ v, r = .returned v ∧ LoMade w ((Ls.map Lo.key).filter f) v w' ∧ Below w.heap.size w w' := by
  obtain ⟨i0, hi0, hz0, hz1, hz2⟩ := info_parts infoL
  have HF := Lib.hid hF
  have H := Lib.hid h
  have HP := Lib.hid hp
  have hN := h.bg
  clear hF h hp
  go_enter Try.func32, Try.ntmps32
  go_wp2
  go_loopw [5, 10] (fun v i wr => ∃ k : Nat, k ≤ len ∧ i = .int .i64 k ∧ LoMade w (((Ls.map Lo.key).take k).filter f) v wr ∧ Below w.heap.size w wr) (fun _ i _ => len - (intOf i).toNat)
  case atStart => exact ⟨0, by omega, rfl, ⟨[], World.ownsRow_nil _ _ _ _, by simp, by simp⟩, Below.refl _ _⟩
  case round =>
    obtain ⟨k, hk, rfl, ⟨O, hown, hok, hkey⟩, hbl⟩ := hrel
    have HB := Lib.hid hbl
    have HOK := Lib.hid hok
    have HK := Lib.hid hkey
    have HO := Lib.hid hown
    have hOl : O.length ≤ k := by
      have h1 := congrArg List.length hkey
      rw [List.length_map] at h1
      rw [h1]
      exact Nat.le_trans (List.length_filter_le _ _) (List.length_take_le _ _)
    obtain ⟨Ao, co, rfl, _, _, _⟩ := own_rd loC_len hown
    clear hbl hok hkey hown
    by_cases hlt : k < len
    · obtain ⟨x, hx⟩ : ∃ x, Ls[k]? = some x := ⟨_, List.getElem?_eq_getElem (by rw [H.out.ln]; exact hlt)⟩
      have hkx : (Ls.map Lo.key)[k]? = some x.key := by rw [List.getElem?_map, hx]; rfl
      have HLS := Lib.hid (filter_succ (f := f) hkx)
      have hmem := List.mem_of_getElem? hx
      obtain ⟨b, off, hA, hb, c0, c1, c2, c3⟩ := ((H.out.below HB.out).rd).lo hx
      subst hA
      have hki : (k : Int) < (len : Int) := by omega
      have hb1 : Below wr.heap.size wr (wr.alloc (.cells #[.string x.pl.name, .slice x.pl.pa x.pl.path.length x.pl.pc, .bool x.alone, .int .i64 x.till] 36)) := (Below.refl _ _).alloc (Nat.le_refl _) _
      have hpx := HP.out x hmem
      obtain ⟨g, hg⟩ : ∃ g, g = wr.heap.size := ⟨_, rfl⟩
      obtain ⟨W1, hW1⟩ : ∃ W1, W1 = wr.alloc (.cells #[.string x.pl.name, .slice x.pl.pa x.pl.path.length x.pl.pc, .bool x.alone, .int .i64 x.till] 36) := ⟨_, rfl⟩
      rw [← hW1] at hb1
      have hbox : Blk W1 g 36 #[.string x.pl.name, .slice x.pl.pa x.pl.path.length x.pl.pc, .bool x.alone, .int .i64 x.till] := by rw [hW1, hg]; exact Blk.new _ _ _
      have hB1 : Below w.heap.size w W1 := HB.out.trans (hb1.mono HB.out.size)
      have hgl : g < W1.heap.size := hbox.lt
      obtain ⟨bf, hbf⟩ : ∃ bf, f x.key = bf := ⟨_, rfl⟩
      have HC1 := Lib.hid (HF.out W1 hB1 x hmem bf hbf)
      have HBF := Lib.hid hbf
      have HB1 := Lib.hid hB1
      have HW1 := Lib.hid hW1
      have HG := Lib.hid hg
      have HBX := Lib.hid hbox
      have HGL := Lib.hid hgl
      have HBB := Lib.hid hb1
      have HOX := Lib.hid ((H.out.below HB.out).ok x hmem)
      have hne : some g ≠ (Value.slice Ao O.length co).ownBlock := fun e => by have := (HO.out.lt g e.symm).2; omega
      have HNE := Lib.hid hne
      clear hne
      obtain ⟨lx, hlx⟩ : ∃ n, x.pl.path.length = n := ⟨_, rfl⟩
      have HLX := Lib.hid hlx
      rw [hlx] at c1 HW1 hpx HC1 HBX
      clear hbf hB1 hW1 hg hbox hgl hkx hb1 hx hlx
      go_wp2_with fail
      rw [← HG.out, ← HW1.out]
      refine HC1.out.mono ?_
      rintro r w2 ⟨rfl, h2⟩
      have hB2 := HB1.out.trans (h2.mono HB1.out.size)
      have HB2 := Lib.hid hB2
      have hbx2 := HBX.out.below h2 HGL.out
      have hbt2 : Below wr.heap.size wr w2 := HBB.out.trans (h2.mono HBB.out.size)
      have HO2 := Lib.hid (own_below HO.out hbt2)
      have HOK2 := Lib.hid (fun y hy => (HOK.out y hy).below hbt2)
      have HX2 := Lib.hid (HOX.out.next hbt2)
      have HK2 := Lib.hid hbx2
      have hgl2 : g < w2.heap.size := hbx2.lt
      clear c0 c1 c2 c3 hB2 h2 hbt2
      cases bf
      · have HL5 := Lib.hid (show LoMade w (((Ls.map Lo.key).take (k + 1)).filter f) (.slice Ao O.length co) w2 from ⟨O, HO2.out, HOK2.out, by rw [HK.out, HLS.out, HBF.out]; rfl⟩)
        clear hbx2
        go_wp2
        go_roundw
        case rel => exact ⟨k + 1, by omega, by go_num, HL5.out, HB2.out⟩
        case measure => simp [intOf] <;> omega
      · have HLN := Lib.hid (show ((Ls.map Lo.key).take (k + 1)).filter f = ((Ls.map Lo.key).take k).filter f ++ [x.key] by rw [HLS.out, HBF.out]; rfl)
        have HC3 := Lib.hid (with_new x.pl [] none 0 0 w2.drew (HX2.out.pl.next ((Below.refl _ _).drew)) (by rw [HLX.out]; exact hpx) rfl (by omega) (.inl rfl) (by simp))
        rw [HLX.out] at HC3
        have hS0 : w2.drew.cell? ⟨g, 0, none⟩ = some (.string x.pl.name) ∧ w2.drew.cell? ⟨g, 1, none⟩ = some (.slice x.pl.pa lx x.pl.pc) ∧ w2.drew.cell? ⟨g, 2, none⟩ = some (.bool x.alone) ∧ w2.drew.cell? ⟨g, 3, none⟩ = some (.int .i64 x.till) := ⟨bl0 hbx2, bl1 hbx2, bl2 hbx2, bl3 hbx2⟩
        have h63 : O.length + 1 ≤ maxLen := by unfold maxLen; omega
        have hby : (O.length + 1) * 56 ≤ 140737488355328 := by omega
        have hbs := HB2.out.size
        clear hbx2
        go_wp2_with fail
        go_region_held3 (fun W => W.cell? ⟨g, 0, none⟩ = some (.string x.pl.name) ∧ W.cell? ⟨g, 1, none⟩ = some (.slice x.pl.pa lx x.pl.pc) ∧ W.cell? ⟨g, 2, none⟩ = some (.bool x.alone) ∧ W.cell? ⟨g, 3, none⟩ = some (.int .i64 x.till)) (first | exact hS0 | exact hS1 | exact hS2 | exact hS3)
          (first
            | (go_at_call 25; refine HC3.out.mono ?_; rintro r w4 ⟨y, rfl, hyk, hyok, hyown, h4⟩; have hS1 := And.intro (cell_of_below h4 hgl2 hS0.1) (And.intro (cell_of_below h4 hgl2 hS0.2.1) (And.intro (cell_of_below h4 hgl2 hS0.2.2.1) (cell_of_below h4 hgl2 hS0.2.2.2))); have hb5 : Below w4.heap.size w4 (w4.alloc (.cells #[.string y.name, .slice y.pa y.path.length y.pc, .bool x.alone, .int .i64 x.till] 36)) := (Below.refl _ _).alloc (Nat.le_refl _) _; have hgl4 : g < w4.heap.size := Nat.lt_of_lt_of_le hgl2 h4.size; have hS2 := And.intro (cell_of_below hb5 hgl4 hS1.1) (And.intro (cell_of_below hb5 hgl4 hS1.2.1) (And.intro (cell_of_below hb5 hgl4 hS1.2.2.1) (cell_of_below hb5 hgl4 hS1.2.2.2))); have ho4 := own_below (own_below HO2.out (Below.refl w2.heap.size w2).drew) h4; have hr1 := rd_one (cells := loC) (x := (⟨y, x.alone, x.till⟩ : Lo)) loC_len (Blk.new w4 36 #[.string y.name, .slice y.pa y.path.length y.pc, .bool x.alone, .int .i64 x.till]) rfl; have hbs4 : w.heap.size ≤ (w4.alloc (.cells #[.string y.name, .slice y.pa y.path.length y.pc, .bool x.alone, .int .i64 x.till] 36)).heap.size := by have := h4.size; simp at this ⊢; omega)
            | (refine step_append_rd (by rfl) _ _ _ (by rfl) w.heap.size 36 i0 (.agg #[.string ByteArray.empty, .slice none 0 0, .bool false, .int .i64 0]) 4 56 Try.underlying22 hi0 hz0 hz1 hz2 (by rfl) (by decide) _ O.length _ (by rfl) (ho4.alloc _) _ _ 1 1 loC loC_len loC_one [(⟨y, x.alone, x.till⟩ : Lo)] rfl (by rfl) hr1 h63 hby hbs4 ?_; intro v5 w5 hown5 hg5 _; have hS3 := And.intro (hg5.cell hS2.1 HNE.out) (And.intro (hg5.cell hS2.2.1 HNE.out) (And.intro (hg5.cell hS2.2.2.1 HNE.out) (hg5.cell hS2.2.2.2 HNE.out)))))
        have hb4 := HB2.out.drew.trans (h4.mono HB2.out.size)
        have HB5 := Lib.hid ((hb4.trans (hb5.mono hb4.size)).grown hg5 hbs4 (fun q hq => (ho4.lt q hq).1))
        have HL5 := Lib.hid (show LoMade w (((Ls.map Lo.key).take (k + 1)).filter f) v5 w5 from ⟨O ++ [⟨y, x.alone, x.till⟩], by rw [List.length_append, List.flatMap_append]; simpa using hown5, by
          intro z hz
          rcases List.mem_append.1 hz with hz | hz
          · exact (((((HOK2.out z hz).below (Below.refl w2.heap.size w2).drew).below h4)).below hb5).grown (ho4.alloc _) (by decide) hg5
          · rw [List.mem_singleton.1 hz]
            exact ((LoOwn.below (y := ⟨y, x.alone, x.till⟩) ⟨(PlOwn.mk hyown hyok.wn hyok.wp).less HB2.out.size, HX2.out.wt⟩ hb5)).grown (ho4.alloc _) (by decide) hg5, by
          rw [List.map_append, HK.out, HLN.out, List.map_cons]
          show _ ++ [(y.key, x.alone, x.till)] = _ ++ [(x.pl.key, x.alone, x.till)]
          rw [hyk, List.append_nil]; rfl⟩)
        clear hown5 hg5 hb5 hb4 h4 ho4 hr1 hyown hyok hyk hS0 hS1 hS2 hS3
        go_wp2
        go_roundw
        case rel => exact ⟨k + 1, by omega, by go_num, HL5.out, HB5.out⟩
        case measure => simp [intOf] <;> omega
    · obtain rfl : k = len := by omega
      have HL5 := Lib.hid (show LoMade w ((Ls.map Lo.key).filter f) (.slice Ao O.length co) wr from ⟨O, HO.out, HOK.out, by
        rw [HK.out, List.take_of_length_le (by rw [List.length_map, H.out.ln]; exact Nat.le_refl _)]⟩)
      go_wp2
      go_ret
      exact ⟨_, rfl, HL5.out, HB.out⟩

set_option maxHeartbeats 3200000 in
theorem some_non (F : Nat)  (f : LKey → Bool) (A : Option Addr) (len c : Nat) (Ls : List Lo) (w : World) (h : LoRow w A len c Ls) (hp : ∀ x ∈ Ls, x.pl.path.length ≤ 1000000) (hE : ∀ (args : Array Value) (W : World), (callFunc F args).run Try.prog W = .ok (.enter F args) W)
    (hF : ∀ W, Below w.heap.size w W → ∀ x ∈ Ls, ∀ b, f x.key = b → Calls Try.prog F #[.agg #[.string x.pl.name, .slice x.pl.pa x.pl.path.length x.pl.pc, .bool x.alone, .int .i64 x.till]] W fun r W' => r = .returned (.bool b) ∧ Below W.heap.size W W') :
    Calls Try.prog 32 #[.slice A len c, .func (.func F) #[] #[]] w fun r w' => ∃ v, r = .returned v ∧ LoMade w ((Ls.map Lo.key).filter f) v w' ∧ Below w.heap.size w w' := by
  obtain ⟨i0, hi0, hz0, hz1, hz2⟩ := info_parts infoL
  have HF := Lib.hid hF
  have H := Lib.hid h
  have HP := Lib.hid hp
  have hN := h.bg
  clear hF h hp
  go_enter Try.func32, Try.ntmps32
  go_wp2
  go_loopw [5, 10] (fun v i wr => ∃ k : Nat, k ≤ len ∧ i = .int .i64 k ∧ LoMade w (((Ls.map Lo.key).take k).filter f) v wr ∧ Below w.heap.size w wr) (fun _ i _ => len - (intOf i).toNat)
  case atStart => exact ⟨0, by omega, rfl, ⟨[], World.ownsRow_nil _ _ _ _, by simp, by simp⟩, Below.refl _ _⟩
  case round =>
    obtain ⟨k, hk, rfl, ⟨O, hown, hok, hkey⟩, hbl⟩ := hrel
    have HB := Lib.hid hbl
    have HOK := Lib.hid hok
    have HK := Lib.hid hkey
    have HO := Lib.hid hown
    have hOl : O.length ≤ k := by
      have h1 := congrArg List.length hkey
      rw [List.length_map] at h1
      rw [h1]
      exact Nat.le_trans (List.length_filter_le _ _) (List.length_take_le _ _)
    obtain ⟨Ao, co, rfl, _, _, _⟩ := own_rd loC_len hown
    clear hbl hok hkey hown
    by_cases hlt : k < len
    · obtain ⟨x, hx⟩ : ∃ x, Ls[k]? = some x := ⟨_, List.getElem?_eq_getElem (by rw [H.out.ln]; exact hlt)⟩
      have hkx : (Ls.map Lo.key)[k]? = some x.key := by rw [List.getElem?_map, hx]; rfl
      have HLS := Lib.hid (filter_succ (f := f) hkx)
      have hmem := List.mem_of_getElem? hx
      obtain ⟨b, off, hA, hb, c0, c1, c2, c3⟩ := ((H.out.below HB.out).rd).lo hx
      subst hA
      have hki : (k : Int) < (len : Int) := by omega
      have hb1 : Below wr.heap.size wr (wr.alloc (.cells #[.string x.pl.name, .slice x.pl.pa x.pl.path.length x.pl.pc, .bool x.alone, .int .i64 x.till] 36)) := (Below.refl _ _).alloc (Nat.le_refl _) _
      have hpx := HP.out x hmem
      obtain ⟨g, hg⟩ : ∃ g, g = wr.heap.size := ⟨_, rfl⟩
      obtain ⟨W1, hW1⟩ : ∃ W1, W1 = wr.alloc (.cells #[.string x.pl.name, .slice x.pl.pa x.pl.path.length x.pl.pc, .bool x.alone, .int .i64 x.till] 36) := ⟨_, rfl⟩
      rw [← hW1] at hb1
      have hbox : Blk W1 g 36 #[.string x.pl.name, .slice x.pl.pa x.pl.path.length x.pl.pc, .bool x.alone, .int .i64 x.till] := by rw [hW1, hg]; exact Blk.new _ _ _
      have hB1 : Below w.heap.size w W1 := HB.out.trans (hb1.mono HB.out.size)
      have hgl : g < W1.heap.size := hbox.lt
      obtain ⟨bf, hbf⟩ : ∃ bf, f x.key = bf := ⟨_, rfl⟩
      have HC1 := Lib.hid (HF.out W1 hB1 x hmem bf hbf)
      have HBF := Lib.hid hbf
      have HB1 := Lib.hid hB1
      have HW1 := Lib.hid hW1
      have HG := Lib.hid hg
      have HBX := Lib.hid hbox
      have HGL := Lib.hid hgl
      have HBB := Lib.hid hb1
      have HOX := Lib.hid ((H.out.below HB.out).ok x hmem)
      have hne : some g ≠ (Value.slice Ao O.length co).ownBlock := fun e => by have := (HO.out.lt g e.symm).2; omega
      have HNE := Lib.hid hne
      clear hne
      obtain ⟨lx, hlx⟩ : ∃ n, x.pl.path.length = n := ⟨_, rfl⟩
      have HLX := Lib.hid hlx
      rw [hlx] at c1 HW1 hpx HC1 HBX
      clear hbf hB1 hW1 hg hbox hgl hkx hb1 hx hlx
      go_wp2_with fail
      rw [← HG.out, ← HW1.out]
      refine HC1.out.mono ?_
      rintro r w2 ⟨rfl, h2⟩
      have hB2 := HB1.out.trans (h2.mono HB1.out.size)
      have HB2 := Lib.hid hB2
      have hbx2 := HBX.out.below h2 HGL.out
      have hbt2 : Below wr.heap.size wr w2 := HBB.out.trans (h2.mono HBB.out.size)
      have HO2 := Lib.hid (own_below HO.out hbt2)
      have HOK2 := Lib.hid (fun y hy => (HOK.out y hy).below hbt2)
      have HX2 := Lib.hid (HOX.out.next hbt2)
      have HK2 := Lib.hid hbx2
      have hgl2 : g < w2.heap.size := hbx2.lt
      clear c0 c1 c2 c3 hB2 h2 hbt2
      cases bf
      · have HL5 := Lib.hid (show LoMade w (((Ls.map Lo.key).take (k + 1)).filter f) (.slice Ao O.length co) w2 from ⟨O, HO2.out, HOK2.out, by rw [HK.out, HLS.out, HBF.out]; rfl⟩)
        clear hbx2
        go_wp2
        go_roundw
        case rel => exact ⟨k + 1, by omega, by go_num, HL5.out, HB2.out⟩
        case measure => simp [intOf] <;> omega
      · have HLN := Lib.hid (show ((Ls.map Lo.key).take (k + 1)).filter f = ((Ls.map Lo.key).take k).filter f ++ [x.key] by rw [HLS.out, HBF.out]; rfl)
        have HC3 := Lib.hid (with_new x.pl [] none 0 0 w2.drew (HX2.out.pl.next ((Below.refl _ _).drew)) (by rw [HLX.out]; exact hpx) rfl (by omega) (.inl rfl) (by simp))
        rw [HLX.out] at HC3
        have hS0 : w2.drew.cell? ⟨g, 0, none⟩ = some (.string x.pl.name) ∧ w2.drew.cell? ⟨g, 1, none⟩ = some (.slice x.pl.pa lx x.pl.pc) ∧ w2.drew.cell? ⟨g, 2, none⟩ = some (.bool x.alone) ∧ w2.drew.cell? ⟨g, 3, none⟩ = some (.int .i64 x.till) := ⟨bl0 hbx2, bl1 hbx2, bl2 hbx2, bl3 hbx2⟩
        have h63 : O.length + 1 ≤ maxLen := by unfold maxLen; omega
        have hby : (O.length + 1) * 56 ≤ 140737488355328 := by omega
        have hbs := HB2.out.size
        clear hbx2
        go_wp2_with fail
        go_region_held3 (fun W => W.cell? ⟨g, 0, none⟩ = some (.string x.pl.name) ∧ W.cell? ⟨g, 1, none⟩ = some (.slice x.pl.pa lx x.pl.pc) ∧ W.cell? ⟨g, 2, none⟩ = some (.bool x.alone) ∧ W.cell? ⟨g, 3, none⟩ = some (.int .i64 x.till)) (first | exact hS0 | exact hS1 | exact hS2 | exact hS3)
          (first
            | (go_at_call 25; refine HC3.out.mono ?_; rintro r w4 ⟨y, rfl, hyk, hyok, hyown, h4⟩; have hS1 := And.intro (cell_of_below h4 hgl2 hS0.1) (And.intro (cell_of_below h4 hgl2 hS0.2.1) (And.intro (cell_of_below h4 hgl2 hS0.2.2.1) (cell_of_below h4 hgl2 hS0.2.2.2))); have hb5 : Below w4.heap.size w4 (w4.alloc (.cells #[.string y.name, .slice y.pa y.path.length y.pc, .bool x.alone, .int .i64 x.till] 36)) := (Below.refl _ _).alloc (Nat.le_refl _) _; have hgl4 : g < w4.heap.size := Nat.lt_of_lt_of_le hgl2 h4.size; have hS2 := And.intro (cell_of_below hb5 hgl4 hS1.1) (And.intro (cell_of_below hb5 hgl4 hS1.2.1) (And.intro (cell_of_below hb5 hgl4 hS1.2.2.1) (cell_of_below hb5 hgl4 hS1.2.2.2))); have ho4 := own_below (own_below HO2.out (Below.refl w2.heap.size w2).drew) h4; have hr1 := rd_one (cells := loC) (x := (⟨y, x.alone, x.till⟩ : Lo)) loC_len (Blk.new w4 36 #[.string y.name, .slice y.pa y.path.length y.pc, .bool x.alone, .int .i64 x.till]) rfl; have hbs4 : w.heap.size ≤ (w4.alloc (.cells #[.string y.name, .slice y.pa y.path.length y.pc, .bool x.alone, .int .i64 x.till] 36)).heap.size := by have := h4.size; simp at this ⊢; omega)
            | (refine step_append_rd (by rfl) _ _ _ (by rfl) w.heap.size 36 i0 (.agg #[.string ByteArray.empty, .slice none 0 0, .bool false, .int .i64 0]) 4 56 Try.underlying22 hi0 hz0 hz1 hz2 (by rfl) (by decide) _ O.length _ (by rfl) (ho4.alloc _) _ _ 1 1 loC loC_len loC_one [(⟨y, x.alone, x.till⟩ : Lo)] rfl (by rfl) hr1 h63 hby hbs4 ?_; intro v5 w5 hown5 hg5 _; have hS3 := And.intro (hg5.cell hS2.1 HNE.out) (And.intro (hg5.cell hS2.2.1 HNE.out) (And.intro (hg5.cell hS2.2.2.1 HNE.out) (hg5.cell hS2.2.2.2 HNE.out)))))
        have hb4 := HB2.out.drew.trans (h4.mono HB2.out.size)
        have HB5 := Lib.hid ((hb4.trans (hb5.mono hb4.size)).grown hg5 hbs4 (fun q hq => (ho4.lt q hq).1))
        have HL5 := Lib.hid (show LoMade w (((Ls.map Lo.key).take (k + 1)).filter f) v5 w5 from ⟨O ++ [⟨y, x.alone, x.till⟩], by rw [List.length_append, List.flatMap_append]; simpa using hown5, by
          intro z hz
          rcases List.mem_append.1 hz with hz | hz
          · exact (((((HOK2.out z hz).below (Below.refl w2.heap.size w2).drew).below h4)).below hb5).grown (ho4.alloc _) (by decide) hg5
          · rw [List.mem_singleton.1 hz]
            exact ((LoOwn.below (y := ⟨y, x.alone, x.till⟩) ⟨(PlOwn.mk hyown hyok.wn hyok.wp).less HB2.out.size, HX2.out.wt⟩ hb5)).grown (ho4.alloc _) (by decide) hg5, by
          rw [List.map_append, HK.out, HLN.out, List.map_cons]
          show _ ++ [(y.key, x.alone, x.till)] = _ ++ [(x.pl.key, x.alone, x.till)]
          rw [hyk, List.append_nil]; rfl⟩)
        clear hown5 hg5 hb5 hb4 h4 ho4 hr1 hyown hyok hyk hS0 hS1 hS2 hS3
        go_wp2
        go_roundw
        case rel => exact ⟨k + 1, by omega, by go_num, HL5.out, HB5.out⟩
        case measure => simp [intOf] <;> omega
    · obtain rfl : k = len := by omega
      have HL5 := Lib.hid (show LoMade w ((Ls.map Lo.key).filter f) (.slice Ao O.length co) wr from ⟨O, HO.out, HOK.out, by
        rw [HK.out, List.take_of_length_le (by rw [List.length_map, H.out.ln]; exact Nat.le_refl _)]⟩)
      go_wp2
      go_ret
      exact ⟨_, rfl, HL5.out, HB.out⟩
end Go.Proofs.Ytfbhmamdckkimaa
