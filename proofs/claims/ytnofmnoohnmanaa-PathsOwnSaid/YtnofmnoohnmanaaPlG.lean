/- Places: contracts of Least, by the program and by the document. -/
import Derived.Test.YtnofmnoohnmanaaPlE
namespace Go.Proofs.Ytnofmnoohnmanaa
open Go.RowKit
set_option linter.unusedVariables false
set_option linter.unusedSimpArgs false

theorem enter2 (args : Array Value) (W : World) : (callFunc 32 args).run Try.prog W = .ok (.enter 32 args) W := by kernel_rfl
/-- the box of a place -/
def PlBox (w : World) (g : Nat) (x : Pl) : Prop := Blk w g 24 #[.string x.name, .slice x.pa x.path.length x.pc]
def begunP (x q : Pl) : Bool := begB q.key x.key && !sameB q.key x.key
def sameP (x q : Pl) : Bool := sameB q.key x.key

set_option maxHeartbeats 800000 in
theorem least1_any (g : Nat) (q x : Pl) (b : Bool) (w : World) (hg : PlBox w g x) (hx : PlOk w w.heap.size x) (hq : PlOk w w.heap.size q) (hb : begunP x q = b) :
    Calls Try.prog 31 #[.agg #[.string q.name, .slice q.pa q.path.length q.pc], .pointer (some ⟨g, 0, none⟩)] w fun r w' => r = .returned (.bool b) ∧ Below w.heap.size w w' := by
  unfold PlBox at hg
  have hb1 : Below w.heap.size w (w.alloc (.cells #[.string q.name, .slice q.pa q.path.length q.pc] 24)) := (Below.refl _ _).alloc (Nat.le_refl _) _
  have hgl := hg.lt
  obtain ⟨bb, hbb⟩ : ∃ bb, begB q.key x.key = bb := ⟨_, rfl⟩
  have HE := Lib.hid (beg_bool q x hbb _ (hq.next hb1) (hx.next hb1))
  obtain ⟨sb, hsb⟩ : ∃ sb, sameB q.key x.key = sb := ⟨_, rfl⟩
  have hbv : b = (bb && !sb) := by rw [← hb, ← hbb, ← hsb]; rfl
  have HS := Lib.hid (fun W h1 h2 => same_bool q x hsb W h1 h2)
  have HB := Lib.hid hb1
  have HX := Lib.hid (hx.next hb1)
  have HQ := Lib.hid (hq.next hb1)
  obtain ⟨lx, hlx⟩ : ∃ n, x.path.length = n := ⟨_, rfl⟩
  obtain ⟨lq, hlq⟩ : ∃ n, q.path.length = n := ⟨_, rfl⟩
  rw [hlx] at hg HE HS
  rw [hlq] at HE HB HS HX HQ ⊢
  have HG := Lib.hid hg
  have c0 := hg.cell 0
  have c1 := hg.cell 1
  simp at c0 c1
  clear hx hq hb hb1 hbb hsb hlx hlq hg
  cases bb
  · have hbv' : b = false := by rw [hbv]; rfl
    subst hbv'
    clear hbv
    go_enter Try.func31, Try.ntmps31
    go_wp2_with fail
    refine HE.out.mono ?_
    rintro r w1 ⟨rfl, h1⟩
    have HB1 := Lib.hid (HB.out.trans (h1.mono HB.out.size))
    clear h1
    go_wp2
    go_ret
    exact ⟨rfl, HB1.out⟩
  · have hbv' : b = !sb := by rw [hbv]; rfl
    clear hbv
    subst hbv'
    go_enter Try.func31, Try.ntmps31
    go_wp2_with fail
    refine HE.out.mono ?_
    rintro r w1 ⟨rfl, h1⟩
    have HB1 := Lib.hid (HB.out.trans (h1.mono HB.out.size))
    have hk := (Blk.new w 24 #[.string q.name, .slice q.pa lq q.pc]).below h1 (by simp)
    have hk2 := (HG.out.alloc (.cells #[.string q.name, .slice q.pa lq q.pc] 24)).below h1 (by simp; omega)
    have d0 := hk.cell 0
    have d1 := hk.cell 1
    have d2 := hk2.cell 0
    have d3 := hk2.cell 1
    have HC := Lib.hid (HS.out w1 (HQ.out.next h1) (HX.out.next h1))
    simp at d0 d1 d2 d3
    clear h1 hk hk2 c0 c1
    go_wp2_with fail
    refine HC.out.mono ?_
    rintro r w2 ⟨rfl, h2⟩
    have HB2 := Lib.hid (HB1.out.trans (h2.mono HB1.out.size))
    clear h2
    cases sb
    all_goals
      go_wp2
      go_ret
      exact ⟨rfl, HB2.out⟩
set_option maxHeartbeats 800000 in
theorem least2_any (g : Nat) (q x : Pl) (b : Bool) (w : World) (hg : PlBox w g x) (hx : PlOk w w.heap.size x) (hq : PlOk w w.heap.size q) (hb : sameP x q = b) :
    Calls Try.prog 32 #[.agg #[.string q.name, .slice q.pa q.path.length q.pc], .pointer (some ⟨g, 0, none⟩)] w fun r w' => r = .returned (.bool b) ∧ Below w.heap.size w w' := by
  unfold PlBox at hg
  have hb1 : Below w.heap.size w (w.alloc (.cells #[.string q.name, .slice q.pa q.path.length q.pc] 24)) := (Below.refl _ _).alloc (Nat.le_refl _) _
  have hgl := hg.lt
  have HS := Lib.hid (same_bool q x hb _ (hq.next hb1) (hx.next hb1))
  have HB := Lib.hid hb1
  obtain ⟨lx, hlx⟩ : ∃ n, x.path.length = n := ⟨_, rfl⟩
  obtain ⟨lq, hlq⟩ : ∃ n, q.path.length = n := ⟨_, rfl⟩
  rw [hlx] at hg HS
  rw [hlq] at HB HS ⊢
  have c0 := hg.cell 0
  have c1 := hg.cell 1
  simp at c0 c1
  clear hx hq hb hb1 hlx hlq hg
  go_enter Try.func32, Try.ntmps32
  go_wp2_with fail
  refine HS.out.mono ?_
  rintro r w1 ⟨rfl, h1⟩
  have HB1 := Lib.hid (HB.out.trans (h1.mono HB.out.size))
  clear h1
  go_wp2
  go_ret
  exact ⟨rfl, HB1.out⟩

theorem infoP : (Try.prog.info? 24).map (fun i => (i.zero, i.size, i.bytes)) = some (some (.agg #[.string ByteArray.empty, .slice none 0 0]), 2, 40) := by kernel_rfl
theorem plC_one (x : Pl) : ∀ u ∈ plC x, u.oneCell' = true := by
  intro u hu; simp [plC] at hu; rcases hu with rfl | rfl <;> rfl

/-- a place in memory of its own -/
structure PlOwn (w : World) (B : Nat) (y : Pl) : Prop where
  own : w.ownsRow B 9 1 (.slice y.pa y.path.length y.pc) y.path.length (y.path.flatMap strC)
  wn : y.name.size ≤ maxLen
  wp : ∀ s ∈ y.path, s.size ≤ maxLen
theorem PlOwn.ok {w : World} {B : Nat} {y : Pl} (h : PlOwn w B y) : PlOk w w.heap.size y := by
  obtain ⟨A2, c2, e, hrd, h1, h2⟩ := own_rd strC_len h.own
  injection e with e1 e2 e3
  subst e1 e3
  exact ⟨hrd, h.wn, h.wp, h1, h2⟩
theorem grown_of_below {w w' : World} (h : Below w.heap.size w w') (row : Option Nat) : w.grownBy w' row := ⟨h.os, h.tape, h.output, h.size, fun k hk _ => h.block k hk⟩
theorem own_below {w w' : World} {B : Nat} {e : TypeId} {s n : Nat} {v : Value} {xs : List Value} (h : w.ownsRow B e s v n xs) (hb : Below w.heap.size w w') : w'.ownsRow B e s v n xs :=
  h.kept (row := none) (grown_of_below hb none) (by
    cases hv : v.ownBlock with
    | none => exact .inl rfl
    | some _ => exact .inr (by simp))
theorem PlOwn.below {w w' : World} {B : Nat} {y : Pl} (h : PlOwn w B y) (hb : Below w.heap.size w w') : PlOwn w' B y :=
  ⟨h.own.kept (row := none) (grown_of_below hb none) (by
    cases hv : (Value.slice y.pa y.path.length y.pc).ownBlock with
    | none => exact .inl rfl
    | some _ => exact .inr (by simp)), h.wn, h.wp⟩
theorem PlOwn.less {w : World} {B B' : Nat} {y : Pl} (h : PlOwn w B y) (hb : B' ≤ B) : PlOwn w B' y := ⟨own_mono h.own hb, h.wn, h.wp⟩
theorem own_ne {w : World} {B B' : Nat} {e e' : TypeId} {s s' n n' : Nat} {v v' : Value} {xs xs' : List Value} (h : w.ownsRow B e s v n xs) (h' : w.ownsRow B' e' s' v' n' xs') (hne : e ≠ e') : v.ownBlock = none ∨ v.ownBlock ≠ v'.ownBlock := by
  rcases h.2 with ⟨rfl, _⟩ | ⟨g, cap, cur, rfl, _, hh, _⟩
  · exact .inl rfl
  · right
    rcases h'.2 with ⟨rfl, _⟩ | ⟨g', cap', cur', rfl, _, hh', _⟩
    · simp [Value.ownBlock]
    · intro e1
      have e2 : g = g' := by simpa [Value.ownBlock] using e1
      subst e2
      rw [hh] at hh'
      injection hh' with hh'
      injection hh' with _ ht
      exact hne ht
theorem PlOwn.grown {w w' : World} {B B' n s : Nat} {y : Pl} {v : Value} {xs : List Value} {e' : TypeId} (h : PlOwn w B y) (ho : w.ownsRow B' e' s v n xs) (hne : 9 ≠ e') (hg : w.grownBy w' v.ownBlock) : PlOwn w' B y :=
  ⟨h.own.kept hg (own_ne h.own ho hne), h.wn, h.wp⟩
theorem rd_one {α : Type} {W : World} {g : Nat} {e : TypeId} {size : Nat} {cells : α → List Value} {x : α} (hlen : ∀ x, (cells x).length = size) {cs : Array Value} (h : Blk W g e cs) (hcs : cs.toList = cells x) : Rd W W.heap.size size cells (some ⟨g, 0, none⟩) [x] := by
  refine .inr ⟨g, 0, rfl, h.lt, fun i y hy j u hu => ?_⟩
  rcases i with _ | i
  · simp at hy
    subst hy
    rw [h.cell, ← Array.getElem?_toList, hcs, Nat.zero_mul, Nat.zero_add]
    exact hu
  · simp at hy

/-- what Least has got so far -/
structure LeastAt (w : World) (Ks Ms : List PKey) (v : Value) (wr : World) : Prop where
  ex : ∃ O : List Pl, wr.ownsRow w.heap.size 24 2 v O.length (O.flatMap plC) ∧ (∀ y ∈ O, PlOwn wr w.heap.size y) ∧ O.map Pl.key = leastP Ks Ms
theorem begun_any (L : List Pl) (x : Pl) : L.any (begunP x) = begun (L.map Pl.key) x.key := by
  unfold begun; rw [List.any_map]; rfl
theorem same_anyP (L : List Pl) (x : Pl) : L.any (sameP x) = (L.map Pl.key).any (fun q => sameB q x.key) := by
  rw [List.any_map]; rfl
theorem leastP_le (Ks Ms : List PKey) : (leastP Ks Ms).length ≤ Ms.length := by
  have : ∀ (M out : List PKey), (M.foldl (leastStep Ks) out).length ≤ out.length + M.length := by
    intro M
    induction M with
    | nil => intro out; simp
    | cons x M ih =>
      intro out
      rw [List.foldl_cons]
      have h1 := ih (leastStep Ks out x)
      have h2 : (leastStep Ks out x).length ≤ out.length + 1 := by unfold leastStep; split <;> simp
      simp only [List.length_cons]; omega
  have := this Ms []
  simpa [leastP] using this

set_option maxHeartbeats 3200000 in
theorem least_any (A : Option Addr) (len c : Nat) (L : List Pl) (w : World) (h : PlRow w A len c L) (h40 : len ≤ 1000) (hp : ∀ x ∈ L, x.path.length ≤ 1000000) :
    Calls Try.prog 24 #[.slice A len c] w fun r w' => ∃ v, r = .returned v ∧ LeastAt w (L.map Pl.key) (L.map Pl.key) v w' ∧ Below w.heap.size w w' := by
  obtain ⟨i0, hi0, hz0, hz1, hz2⟩ := info_parts infoP
  have H := Lib.hid h
  have HP := Lib.hid hp
  clear h hp
  go_enter Try.func24, Try.ntmps24
  go_wp2
  go_loopw [3, 10] (fun v i wr => ∃ k : Nat, k ≤ len ∧ i = .int .i64 k ∧ LeastAt w (L.map Pl.key) ((L.map Pl.key).take k) v wr ∧ Below w.heap.size w wr) (fun _ i _ => len - (intOf i).toNat)
  case atStart => exact ⟨0, by omega, rfl, ⟨[], World.ownsRow_nil _ _ _ _, by simp, by simp [leastP]⟩, Below.refl _ _⟩
  case round =>
    obtain ⟨k, hk, rfl, ⟨O, hown, hok, hkey⟩, hbl⟩ := hrel
    have HB := Lib.hid hbl
    have HOK := Lib.hid hok
    have HK := Lib.hid hkey
    have HO := Lib.hid hown
    have hOl : O.length ≤ k := by
      have h1 := congrArg List.length hkey
      rw [List.length_map] at h1
      rw [h1]
      exact Nat.le_trans (leastP_le _ _) (List.length_take_le _ _)
    obtain ⟨Ao, co, rfl, hrd, hco, hcb⟩ := own_rd plC_len hown
    have HRD := Lib.hid hrd
    have HCO := Lib.hid hco
    clear hbl hok hkey hown hrd hco
    by_cases hlt : k < len
    · obtain ⟨x, hx⟩ : ∃ x, L[k]? = some x := ⟨_, List.getElem?_eq_getElem (by rw [H.out.ln]; exact hlt)⟩
      have hkx : (L.map Pl.key)[k]? = some x.key := by rw [List.getElem?_map, hx]; rfl
      have HLS := Lib.hid (leastP_succ hkx)
      have hmem := List.mem_of_getElem? hx
      obtain ⟨b, off, hA, hb, c0, c1⟩ := ((H.out.below HB.out).rd).pl hx
      subst hA
      have hki : (k : Int) < (len : Int) := by omega
      have hb1 : Below wr.heap.size wr (wr.alloc (.cells #[.string x.name, .slice x.pa x.path.length x.pc] 24)) := (Below.refl _ _).alloc (Nat.le_refl _) _
      have hpx := HP.out x hmem
      have hokx := (H.out.below HB.out).ok x hmem
      obtain ⟨g, hg⟩ : ∃ g, g = wr.heap.size := ⟨_, rfl⟩
      obtain ⟨W1, hW1⟩ : ∃ W1, W1 = wr.alloc (.cells #[.string x.name, .slice x.pa x.path.length x.pc] 24) := ⟨_, rfl⟩
      rw [← hW1] at hb1
      have hbox : PlBox W1 g x := by unfold PlBox; rw [hW1, hg]; exact Blk.new _ _ _
      have hB1 : Below w.heap.size w W1 := HB.out.trans (hb1.mono HB.out.size)
      have hrow1 := H.out.below hB1
      have hgl : g < W1.heap.size := hbox.lt
      obtain ⟨bg, hbg⟩ : ∃ bg, L.any (begunP x) = bg := ⟨_, rfl⟩
      have hC1 := phas_any 31 (.pointer (some ⟨g, 0, none⟩)) (begunP x) (some ⟨b, off, none⟩) len c L W1 hrow1 bg hbg enter1 (fun W hW y hy bb hbb => least1_any g y x bb W (Blk.below hbox hW hgl) ((hrow1.below hW).ok x hmem) ((hrow1.below hW).ok y hy) hbb)
      rw [begun_any] at hbg
      have HC1 := Lib.hid hC1
      have HBG := Lib.hid hbg
      have HB1 := Lib.hid hB1
      have HW1 := Lib.hid hW1
      have HG := Lib.hid hg
      have HBX := Lib.hid hbox
      have HGL := Lib.hid hgl
      have HKX := Lib.hid hkx
      have HBB := Lib.hid hb1
      have HOX := Lib.hid hokx
      obtain ⟨lx, hlx⟩ : ∃ n, x.path.length = n := ⟨_, rfl⟩
      have HLX := Lib.hid hlx
      rw [hlx] at c1 HW1 hpx
      clear hC1 hbg hB1 hW1 hg hbox hgl hkx hb1 hrow1 hx hlx hokx
      go_wp2_with fail
      rw [← HG.out, ← HW1.out]
      refine HC1.out.mono ?_
      rintro r w2 ⟨rfl, h2⟩
      have hB2 := HB1.out.trans (h2.mono HB1.out.size)
      have HB2 := Lib.hid hB2
      have hbx2 : PlBox w2 g x := Blk.below HBX.out h2 HGL.out
      have hbt2 : Below wr.heap.size wr w2 := HBB.out.trans (h2.mono HBB.out.size)
      cases bg
      · have hrowO : PlRow w2 Ao O.length co O := ⟨rfl, (HRD.out.below hbt2).more hbt2.size, fun y hy => ((HOK.out y hy).below hbt2).ok, HCO.out, by omega⟩
        have hokx2 := (H.out.below hB2).ok x hmem
        have hgl2 : g < w2.heap.size := Blk.lt hbx2
        obtain ⟨sb, hsb⟩ : ∃ sb, O.any (sameP x) = sb := ⟨_, rfl⟩
        have hC2 := phas_any 32 (.pointer (some ⟨g, 0, none⟩)) (sameP x) Ao O.length co O w2 hrowO sb hsb enter2 (fun W hW y hy bb hbb => least2_any g y x bb W (Blk.below hbx2 hW hgl2) (hokx2.next hW) ((hrowO.below hW).ok y hy) hbb)
        rw [same_anyP, HK.out] at hsb
        have HC2 := Lib.hid hC2
        have HSB := Lib.hid hsb
        have HBX2 := Lib.hid hbx2
        have HBT2 := Lib.hid hbt2
        have HGL2 := Lib.hid hgl2
        clear hrowO hokx2 hgl2 hC2 hsb hbx2 hbt2 h2 hB2 c0 c1
        go_wp2_with fail
        refine HC2.out.mono ?_
        rintro r w3 ⟨rfl, h3⟩
        have hB3 := HB2.out.trans (h3.mono HB2.out.size)
        have hbx3 : PlBox w3 g x := Blk.below HBX2.out h3 HGL2.out
        have hbt3 := HBT2.out.trans (h3.mono HBT2.out.size)
        have hokx3 := (H.out.below hB3).ok x hmem
        have HB3 := Lib.hid hB3
        have HBT3 := Lib.hid hbt3
        have HO3 := Lib.hid (HO.out.kept (w' := w3) (row := none) ⟨hbt3.os, hbt3.tape, hbt3.output, hbt3.size, fun k hk _ => hbt3.block k hk⟩ (by
          cases hv : (Value.slice Ao O.length co).ownBlock with
          | none => exact .inl rfl
          | some _ => exact .inr (by simp)))
        clear h3 hB3 hbt3
        cases sb
        · have hC3 := with_new x [] none 0 0 w3 hokx3 (by rw [HLX.out]; exact hpx) rfl (by omega) (.inl rfl) (by simp)
          have e3 := hbx3
          unfold PlBox at e3
          rw [HLX.out] at e3 hC3
          have d0 := e3.cell 0
          have d1 := e3.cell 1
          simp at d0 d1
          have HC3 := Lib.hid hC3
          clear e3 hC3 hbx3 hokx3
          have HLN := Lib.hid (show leastP (L.map Pl.key) ((L.map Pl.key).take (k + 1)) = leastP (L.map Pl.key) ((L.map Pl.key).take k) ++ [x.key] by
            rw [HLS.out]; unfold leastStep; rw [HBG.out, HSB.out]; rfl)
          go_wp2_with fail
          refine HC3.out.mono ?_
          rintro r w4 ⟨y, rfl, hyk, hyok, hyown, h4⟩
          have hB4 := HB3.out.trans (h4.mono HB3.out.size)
          have hbt4 := HBT3.out.trans (h4.mono HBT3.out.size)
          have ho4 := HO3.out.kept (w' := w4) (row := none) (grown_of_below h4 none) (by
            cases hv : (Value.slice Ao O.length co).ownBlock with
            | none => exact .inl rfl
            | some _ => exact .inr (by simp))
          have hyo : PlOwn w4 w.heap.size y := (PlOwn.mk hyown hyok.wn hyok.wp).less HB3.out.size
          have HYK := Lib.hid hyk
          have HYO := Lib.hid hyo
          have HB4 := Lib.hid hB4
          have HBT4 := Lib.hid hbt4
          have hr1 := rd_one (cells := plC) (x := y) plC_len (Blk.new w4 24 #[.string y.name, .slice y.pa y.path.length y.pc]) rfl
          have HR1 := Lib.hid hr1
          have HO4 := Lib.hid (ho4.alloc (.cells #[.string y.name, .slice y.pa y.path.length y.pc] 24))
          clear h4 hB4 hbt4 ho4 hyk hyok hyown hyo hr1
          go_wp2_with (at_builtin; refine wpList_append_rd _ rfl _ _ 30 rfl w.heap.size 24 i0 (.agg #[.string ByteArray.empty, .slice none 0 0]) 2 40 Try.underlying30 hi0 hz0 hz1 hz2 rfl (by decide) _ O.length _ rfl HO4.out _ _ 1 1 plC plC_len plC_one [y] rfl rfl HR1.out (by unfold maxLen; omega) (by omega) (by have := HB4.out.size; simp; omega) ?_; intro v5 w5 hown5 hg5 _)
          have hb5 : Below w4.heap.size w4 (w4.alloc (.cells #[.string y.name, .slice y.pa y.path.length y.pc] 24)) := (Below.refl _ _).alloc (Nat.le_refl _) _
          have HB5 := Lib.hid ((HB4.out.trans (hb5.mono HB4.out.size)).grown hg5 (by have := HB4.out.size; simp; omega) (fun q hq => (HO4.out.lt q hq).1))
          have HL5 := Lib.hid (show LeastAt w (L.map Pl.key) ((L.map Pl.key).take (k + 1)) v5 w5 from ⟨O ++ [y], by rw [List.length_append, List.flatMap_append]; simpa using hown5, by
            intro z hz
            rcases List.mem_append.1 hz with hz | hz
            · exact (((HOK.out z hz).below HBT4.out).below hb5).grown HO4.out (by decide) hg5
            · rw [List.mem_singleton.1 hz]; exact (HYO.out.below hb5).grown HO4.out (by decide) hg5, by
            rw [List.map_append, HK.out, HLN.out, List.map_cons, HYK.out, List.append_nil]; rfl⟩)
          clear hown5 hg5 hb5
          go_wp2
          go_roundw
          case rel => exact ⟨k + 1, by omega, by go_num, HL5.out, HB5.out⟩
          case measure => simp [intOf] <;> omega
        · have HL5 := Lib.hid (show LeastAt w (L.map Pl.key) ((L.map Pl.key).take (k + 1)) (.slice Ao O.length co) w3 from ⟨O, HO3.out, fun z hz => (HOK.out z hz).below HBT3.out, by
            rw [HK.out, HLS.out]; unfold leastStep; rw [HBG.out, HSB.out]; rfl⟩)
          clear hbx3 hokx3
          go_wp2
          go_roundw
          case rel => exact ⟨k + 1, by omega, by go_num, HL5.out, HB3.out⟩
          case measure => simp [intOf] <;> omega
      · have ho2 := HO.out.kept (w' := w2) (row := none) (grown_of_below hbt2 none) (by
            cases hv : (Value.slice Ao O.length co).ownBlock with
            | none => exact .inl rfl
            | some _ => exact .inr (by simp))
        have HL5 := Lib.hid (show LeastAt w (L.map Pl.key) ((L.map Pl.key).take (k + 1)) (.slice Ao O.length co) w2 from ⟨O, ho2, fun z hz => (HOK.out z hz).below hbt2, by
          rw [HK.out, HLS.out]; unfold leastStep; rw [HBG.out]; rfl⟩)
        clear h2 hB2 hbx2 hbt2 ho2
        go_wp2
        go_roundw
        case rel => exact ⟨k + 1, by omega, by go_num, HL5.out, HB2.out⟩
        case measure => simp [intOf] <;> omega
    · obtain rfl : k = len := by omega
      have HL5 := Lib.hid (show LeastAt w (L.map Pl.key) (L.map Pl.key) (.slice Ao O.length co) wr from ⟨O, HO.out, HOK.out, by
        rw [HK.out, List.take_of_length_le (by rw [List.length_map, H.out.ln]; exact Nat.le_refl _)]⟩)
      go_wp2
      go_ret
      exact ⟨_, rfl, HL5.out, HB.out⟩
end Go.Proofs.Ytnofmnoohnmanaa
