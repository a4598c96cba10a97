/- Places: the contract of awake: the chapter's rows. -/
import Derived.Test.YtnofmnoohnmanaaPlF
import Derived.Test.YtnofmnoohnmanaaPlH
namespace Go.Proofs.Ytnofmnoohnmanaa
open Go.RowKit
set_option linter.unusedVariables false
set_option linter.unusedSimpArgs false

def nX : ByteArray := ⟨#[120]⟩
def plX : Pl := ⟨⟨#[120]⟩, none, 0, []⟩
theorem plX_ok (w : World) : PlOk w w.heap.size plX := ⟨.inl rfl, by decide, by simp [plX], by decide, by decide⟩
theorem rd_str1 (W : World) (s : ByteArray) : Rd (W.alloc (.cells #[.string s] 9)) (W.alloc (.cells #[.string s] 9)).heap.size 1 strC (some ⟨W.heap.size, 0, none⟩) [s] :=
  rd_one (cells := strC) (x := s) strC_len (Blk.new W 9 #[.string s]) rfl
/-- With one step, behind the step's own block -/
theorem with_one (x : Pl) (s : ByteArray) (W : World) (hx : PlOk W W.heap.size x) (hl : x.path.length ≤ 1000) (hs : s.size ≤ 1000) :
    Calls Try.prog 26 #[.agg #[.string x.name, .slice x.pa x.path.length x.pc], .slice (some ⟨W.heap.size, 0, none⟩) 1 1] (W.alloc (.cells #[.string s] 9)) (PlNew (W.alloc (.cells #[.string s] 9)) x.name (x.path ++ [s])) :=
  with_new x [s] _ 1 1 _ (hx.next ((Below.refl _ _).alloc (Nat.le_refl _) _)) (by omega) rfl (by omega) (rd_str1 W s) (by simp [maxLen]; omega)

/-- the five places of the row, and the world behind them -/
def plY (g : Nat) : Pl := ⟨⟨#[121]⟩, some ⟨g, 0, none⟩, 1, [⟨#[98]⟩]⟩
def fiveL (a b : Pl) (W : World) : List Pl := [a, plX, plY W.heap.size, plY (W.heap.size + 1), b]
def fiveW (a b : Pl) (W : World) : World := ((W.alloc (.cells #[.string ⟨#[98]⟩] 9)).alloc (.cells #[.string ⟨#[98]⟩] 9)).alloc (.cells #[.string a.name, .slice a.pa a.path.length a.pc, .string ⟨#[120]⟩, .slice none 0 0, .string ⟨#[121]⟩, .slice (some ⟨W.heap.size, 0, none⟩) 1 1, .string ⟨#[121]⟩, .slice (some ⟨W.heap.size + 1, 0, none⟩) 1 1, .string b.name, .slice b.pa b.path.length b.pc] 24)
theorem five_bel (a b : Pl) (W : World) : Below W.heap.size W (fiveW a b W) := (((Below.refl _ _).alloc (Nat.le_refl _) _).alloc (by simp) _).alloc (by simp; omega) _
theorem rd_blk {α : Type} {W : World} {g : Nat} {e : TypeId} {size : Nat} {cells : α → List Value} (hlen : ∀ x, (cells x).length = size) {cs : Array Value} {L : List α} (h : Blk W g e cs) (hcs : cs.toList = L.flatMap cells) : Rd W W.heap.size size cells (some ⟨g, 0, none⟩) L := by
  refine .inr ⟨g, 0, rfl, h.lt, fun i y hy j u hu => ?_⟩
  rw [h.cell, ← Array.getElem?_toList, hcs, Nat.zero_add]
  exact flat_at hlen L i y hy j u hu
theorem plY_ok {W : World} {g : Nat} (h : Blk W g 9 #[.string ⟨#[98]⟩]) : PlOk W W.heap.size (plY g) :=
  ⟨rd_blk (cells := strC) (L := [⟨#[98]⟩]) strC_len h rfl, show (1:Nat) ≤ maxLen by decide, by simp [plY]; decide, Nat.le_refl _, show (1:Nat) ≤ maxLen by decide⟩
theorem five_row (a b : Pl) (W : World) (ha : PlOk W W.heap.size a) (hb : PlOk W W.heap.size b) : PlRow (fiveW a b W) (some ⟨W.heap.size + 1 + 1, 0, none⟩) 5 5 (fiveL a b W) := by
  have hk : Blk (fiveW a b W) (W.heap.size + 1 + 1) 24 _ := blk_at (Blk.new ((W.alloc (.cells #[.string ⟨#[98]⟩] 9)).alloc (.cells #[.string ⟨#[98]⟩] 9)) 24 _) (by simp)
  have hy1 : Blk (fiveW a b W) W.heap.size 9 #[.string ⟨#[98]⟩] := ((Blk.new W _ _).alloc _).alloc _
  have hy2 : Blk (fiveW a b W) (W.heap.size + 1) 9 #[.string ⟨#[98]⟩] := blk_at ((Blk.new (W.alloc _) _ _).alloc _) (by simp)
  refine ⟨rfl, rd_blk plC_len hk rfl, ?_, by decide, by decide⟩
  intro x hx
  simp only [fiveL, List.mem_cons, List.not_mem_nil, or_false] at hx
  rcases hx with rfl | rfl | rfl | rfl | rfl
  · exact ha.next (five_bel _ _ _)
  · exact plX_ok _
  · exact plY_ok hy1
  · exact plY_ok hy2
  · exact hb.next (five_bel _ _ _)
theorem five_least {a b : Pl} {W : World} (ha : a.key = (plX.name, plX.path ++ [⟨#[97]⟩])) (hb : b.key = (plX.name, plX.path ++ [⟨#[98]⟩])) : (fiveL a b W).map Pl.key = [(⟨#[120]⟩, [⟨#[97]⟩]), (⟨#[120]⟩, []), (⟨#[121]⟩, [⟨#[98]⟩]), (⟨#[121]⟩, [⟨#[98]⟩]), (⟨#[120]⟩, [⟨#[98]⟩])] := by
  unfold fiveL
  simp only [List.map_cons, List.map_nil, ha, hb]
  rfl

theorem two_of : ∀ {O : List Pl} {k1 k2 : PKey}, O.map Pl.key = [k1, k2] → ∃ o0 o1, O = [o0, o1] ∧ o1.key = k2
  | [o0, o1], k1, k2, h => ⟨o0, o1, rfl, by simp only [List.map_cons, List.map_nil, List.cons.injEq, and_true] at h; exact h.2⟩
  | [], _, _, h => by cases h
  | [_], _, _, h => by simp at h
  | _ :: _ :: _ :: _, _, _, h => by simp at h
def AwOld (w0 W : World) : Prop := Below w0.heap.size w0 W
def Aw (w0 : World) (g1 g2 g3 bo oo : Nat) (a b : Pl) (W : World) : Prop :=
  W.cell? ⟨g1, 0, none⟩ = some (.string ⟨#[120]⟩) ∧ W.cell? ⟨g1, 1, none⟩ = some (.slice none 0 0) ∧ W.cell? ⟨g2, 0, none⟩ = some (.string a.name) ∧ W.cell? ⟨g2, 1, none⟩ = some (.slice a.pa a.path.length a.pc) ∧ W.cell? ⟨g3, 0, none⟩ = some (.string b.name) ∧ W.cell? ⟨g3, 1, none⟩ = some (.slice b.pa b.path.length b.pc) ∧ W.cell? ⟨bo, oo + 1 * 2, none⟩ = some (.string ⟨#[121]⟩) ∧ AwOld w0 W
def AwG (w0 : World) (g1 g2 g3 bo : Nat) : Prop := g1 < w0.heap.size ∧ g2 < w0.heap.size ∧ g3 < w0.heap.size ∧ bo < w0.heap.size
section
variable {w0 W W' : World} {g1 g2 g3 bo oo : Nat} {a b : Pl}
theorem aw_old {p1 p2 p3 p4 p5 p6 p7 : Prop} (h : p1 ∧ p2 ∧ p3 ∧ p4 ∧ p5 ∧ p6 ∧ p7 ∧ AwOld w0 W) : AwOld w0 W := h.2.2.2.2.2.2.2
theorem Aw.step (hg : AwG w0 g1 g2 g3 bo) (h : Aw w0 g1 g2 g3 bo oo a b W) (hb : Below W.heap.size W W') : Aw w0 g1 g2 g3 bo oo a b W' := by
  obtain ⟨h1, h2, h3, h4, h5, h6, h7, h8⟩ := h
  obtain ⟨k1, k2, k3, k4⟩ := hg
  have hs := Below.size h8
  exact ⟨cell_of_below hb (by omega) h1, cell_of_below hb (by omega) h2, cell_of_below hb (by omega) h3, cell_of_below hb (by omega) h4, cell_of_below hb (by omega) h5, cell_of_below hb (by omega) h6, cell_of_below hb (by omega) h7, Below.trans h8 (hb.mono hs)⟩
theorem Aw.alloc (hg : AwG w0 g1 g2 g3 bo) (h : Aw w0 g1 g2 g3 bo oo a b W) (o : Obj) : Aw w0 g1 g2 g3 bo oo a b (W.alloc o) := h.step hg ((Below.refl _ _).alloc (Nat.le_refl _) o)
theorem aw_len (ha : a.key = (plX.name, plX.path ++ [⟨#[97]⟩])) : a.path.length = 1 := by
  have := congrArg (fun k : PKey => k.2.length) ha; simpa [Pl.key, plX] using this
theorem aw_key {y : Pl} (ha : a.key = (plX.name, plX.path ++ [⟨#[97]⟩])) (h : y.key = (a.name, a.path ++ [⟨#[42]⟩])) : y.key = (⟨#[120]⟩, [⟨#[97]⟩, ⟨#[42]⟩]) := by
  rw [h]
  have h1 : a.name = ⟨#[120]⟩ := congrArg Prod.fst ha
  have h2 : a.path = [⟨#[97]⟩] := congrArg Prod.snd ha
  rw [h1, h2]; rfl
theorem aw_beg1 (ha : a.key = (plX.name, plX.path ++ [⟨#[97]⟩])) (W : World) (hok : PlOk W W.heap.size a) :
    Calls Try.prog 14 #[.agg #[.string ⟨#[120]⟩, .slice none 0 0], .agg #[.string a.name, .slice a.pa a.path.length a.pc]] W fun r w' => r = .returned (.bool true) ∧ Below W.heap.size W w' :=
  beg_bool plX a (by rw [ha]; decide +kernel) W (plX_ok _) hok
theorem aw_beg2 (ha : a.key = (plX.name, plX.path ++ [⟨#[97]⟩])) (W : World) (hok : PlOk W W.heap.size a) :
    Calls Try.prog 14 #[.agg #[.string a.name, .slice a.pa a.path.length a.pc], .agg #[.string ⟨#[120]⟩, .slice none 0 0]] W fun r w' => r = .returned (.bool false) ∧ Below W.heap.size W w' :=
  beg_bool a plX (by rw [ha]; decide +kernel) W hok (plX_ok _)
theorem aw_beg3 (ha : a.key = (plX.name, plX.path ++ [⟨#[97]⟩])) (hb : b.key = (plX.name, plX.path ++ [⟨#[98]⟩])) (W : World) (hok : PlOk W W.heap.size a) (hok' : PlOk W W.heap.size b) :
    Calls Try.prog 14 #[.agg #[.string a.name, .slice a.pa a.path.length a.pc], .agg #[.string b.name, .slice b.pa b.path.length b.pc]] W fun r w' => r = .returned (.bool false) ∧ Below W.heap.size W w' :=
  beg_bool a b (by rw [ha, hb]; decide +kernel) W hok hok'
theorem meets_bool (x y : Pl) {b : Bool} (hb : meetB x.key y.key = b) (w : World) (hx : PlOk w w.heap.size x) (hy : PlOk w w.heap.size y) :
    Calls Try.prog 16 #[.agg #[.string x.name, .slice x.pa x.path.length x.pc], .agg #[.string y.name, .slice y.pa y.path.length y.pc]] w fun r w' => r = .returned (.bool b) ∧ Below w.heap.size w w' := by
  subst hb; exact meets_any x y w hx hy
theorem aw_meet1 (ha : a.key = (plX.name, plX.path ++ [⟨#[97]⟩])) (hb : b.key = (plX.name, plX.path ++ [⟨#[98]⟩])) (W : World) (hok : PlOk W W.heap.size a) (hok' : PlOk W W.heap.size b) :
    Calls Try.prog 16 #[.agg #[.string a.name, .slice a.pa a.path.length a.pc], .agg #[.string b.name, .slice b.pa b.path.length b.pc]] W fun r w' => r = .returned (.bool false) ∧ Below W.heap.size W w' :=
  meets_bool a b (by rw [ha, hb]; decide +kernel) W hok hok'
theorem aw_meet2 {y : Pl} (hy : y.key = (⟨#[120]⟩, [⟨#[97]⟩, ⟨#[42]⟩])) (W : World) (hok : PlOk W W.heap.size y) :
    Calls Try.prog 16 #[.agg #[.string y.name, .slice y.pa y.path.length y.pc], .agg #[.string ⟨#[120]⟩, .slice none 0 0]] W fun r w' => r = .returned (.bool true) ∧ Below W.heap.size W w' :=
  meets_bool y plX (by rw [hy]; decide +kernel) W hok (plX_ok _)
theorem aw_text {y : Pl} (hy : y.key = (⟨#[120]⟩, [⟨#[97]⟩, ⟨#[42]⟩])) (W : World) (hok : PlOk W W.heap.size y) :
    Calls Try.prog 19 #[.agg #[.string y.name, .slice y.pa y.path.length y.pc]] W fun r w' => r = .returned (.string ⟨#[120, 46, 97, 46, 42]⟩) ∧ Below W.heap.size W w' := by
  have h1 : y.name = ⟨#[120]⟩ := congrArg Prod.fst hy
  have h2 : y.path = [⟨#[97]⟩, ⟨#[42]⟩] := congrArg Prod.snd hy
  have h := text_any y W hok (by rw [h2]; decide) (by rw [h1]; decide) (by rw [h2]; decide)
  have e : textL y.name y.path = [120, 46, 97, 46, 42] := by rw [h1, h2]; rfl
  rw [e] at h
  exact h
theorem aw_with3 (W : World) :
    Calls Try.prog 26 #[.agg #[.string ⟨#[120]⟩, .slice none 0 0], .slice (some ⟨W.heap.size, 0, none⟩) 3 3] (W.alloc (.cells #[.string ⟨#[42]⟩, .string ⟨#[97]⟩, .string ⟨#[42]⟩] 9)) (PlNew (W.alloc (.cells #[.string ⟨#[42]⟩, .string ⟨#[97]⟩, .string ⟨#[42]⟩] 9)) ⟨#[120]⟩ [⟨#[42]⟩, ⟨#[97]⟩, ⟨#[42]⟩]) :=
  with_new plX [⟨#[42]⟩, ⟨#[97]⟩, ⟨#[42]⟩] _ 3 3 _ (plX_ok _) (by decide) rfl (by omega) (rd_blk (cells := strC) (L := [⟨#[42]⟩, ⟨#[97]⟩, ⟨#[42]⟩]) strC_len (Blk.new W 9 #[.string ⟨#[42]⟩, .string ⟨#[97]⟩, .string ⟨#[42]⟩]) rfl) (by decide)
theorem aw_thr {y : Pl} (hy : y.key = (⟨#[120]⟩, [⟨#[42]⟩, ⟨#[97]⟩, ⟨#[42]⟩])) (W : World) (hok : PlOk W W.heap.size y) :
    Calls Try.prog 21 #[.agg #[.string y.name, .slice y.pa y.path.length y.pc]] W fun r w' => r = .returned (.int .i64 2) ∧ Below W.heap.size W w' := by
  have h2 : y.path = [⟨#[42]⟩, ⟨#[97]⟩, ⟨#[42]⟩] := congrArg Prod.snd hy
  have h := through_any y W hok (by rw [h2]; decide)
  have e : thrL y.path = 2 := by rw [h2]; decide +kernel
  rw [e] at h
  exact h
end

set_option maxHeartbeats 6400000 in
set_option maxRecDepth 100000 in
theorem awake_yes (w : World) : Calls Try.prog 18 #[] w fun r w' => r = .returned (.bool true) ∧ Below w.heap.size w w' := by
  go_enter Try.func18, Try.ntmps18
  go_wp2_with fail
  obtain ⟨W0, hW0⟩ : ∃ W0, W0 = w.alloc (.cells #[.string ⟨#[120]⟩, .slice none 0 0] 24) := ⟨_, rfl⟩
  have hB0 : Below w.heap.size w W0 := by rw [hW0]; exact (Below.refl _ _).alloc (Nat.le_refl _) _
  have hk1 : Blk W0 w.heap.size 24 #[.string ⟨#[120]⟩, .slice none 0 0] := by rw [hW0]; exact Blk.new _ _ _
  have hws : w.heap.size + 1 = W0.heap.size := by rw [hW0]; simp
  have HB0 := Lib.hid hB0
  have HK1 := Lib.hid hk1
  rw [hws, ← hW0]
  clear hW0 hws hB0 hk1
  refine (with_one plX ⟨#[97]⟩ W0 (plX_ok _) (by decide) (by decide)).mono ?_
  rintro r w1 ⟨a, rfl, hak, haok, _, hb1⟩
  have hbt1 : Below W0.heap.size W0 w1 := ((Below.refl _ _).alloc (Nat.le_refl _) _).trans (hb1.mono (by simp))
  have HAK := Lib.hid hak
  have HAO := Lib.hid haok
  have HB1 := Lib.hid (HB0.out.trans (hbt1.mono HB0.out.size))
  have hk1 := HK1.out.below hbt1 HK1.out.lt
  have HKA := Lib.hid hk1
  have c0 := hk1.cell 0
  have c1 := hk1.cell 1
  have c2 := hk1.lt
  simp at c0 c1
  clear hak haok hb1 hbt1 hk1
  go_wp2_with fail
  obtain ⟨W2, hW2⟩ : ∃ W2, W2 = w1.alloc (.cells #[.string a.name, .slice a.pa a.path.length a.pc] 24) := ⟨_, rfl⟩
  have hb2 : Below w1.heap.size w1 W2 := by rw [hW2]; exact (Below.refl _ _).alloc (Nat.le_refl _) _
  have hk2 : Blk W2 w1.heap.size 24 #[.string a.name, .slice a.pa a.path.length a.pc] := by rw [hW2]; exact Blk.new _ _ _
  have hk1 := HKA.out.below hb2 HKA.out.lt
  have HK1 := Lib.hid hk1
  have HK2 := Lib.hid hk2
  have HB2 := Lib.hid (HB1.out.trans (hb2.mono HB1.out.size))
  have HA2 := Lib.hid (HAO.out.next hb2)
  have hws : w1.heap.size + 1 = W2.heap.size := by rw [hW2]; simp
  rw [hws, ← hW2]
  clear hW2 hws hb2 hk1 hk2 c0 c1 c2
  refine (with_one plX ⟨#[98]⟩ W2 (plX_ok _) (by decide) (by decide)).mono ?_
  rintro r w3 ⟨b, rfl, hbk, hbok, _, hb3⟩
  have hbt3 : Below W2.heap.size W2 w3 := ((Below.refl _ _).alloc (Nat.le_refl _) _).trans (hb3.mono (by simp))
  have HBK := Lib.hid hbk
  have hb4 : Below w3.heap.size w3 (w3.alloc (.cells #[.string b.name, .slice b.pa b.path.length b.pc] 24)) := (Below.refl _ _).alloc (Nat.le_refl _) _
  obtain ⟨W4, hW4⟩ : ∃ W4, W4 = w3.alloc (.cells #[.string b.name, .slice b.pa b.path.length b.pc] 24) := ⟨_, rfl⟩
  rw [← hW4] at hb4
  have hbt4 := hbt3.trans (hb4.mono hbt3.size)
  have HB4 := Lib.hid (HB2.out.trans (hbt4.mono HB2.out.size))
  have HK1o := HK1
  have HK2o := HK2
  have hk1 := HK1.out.below hbt4 HK1.out.lt
  have hk2 := HK2.out.below hbt4 HK2.out.lt
  have hk3 : Blk W4 w3.heap.size 24 #[.string b.name, .slice b.pa b.path.length b.pc] := by rw [hW4]; exact Blk.new _ _ _
  have HA4 := Lib.hid (HA2.out.next hbt4)
  have HBO := Lib.hid (hbok.next hb4)
  have HK1 := Lib.hid hk1
  have HK2 := Lib.hid hk2
  have HK3 := Lib.hid hk3
  have hq1 := HK1o.out.below hbt3 HK1o.out.lt
  have hq2 := HK2o.out.below hbt3 HK2o.out.lt
  have c0 := hq1.cell 0
  have c1 := hq1.cell 1
  have c2 := hq2.cell 0
  have c3 := hq2.cell 1
  have z1 := hq1.lt
  have z2 := hq2.lt
  simp at c0 c1 c2 c3
  have HW4 := Lib.hid hW4
  clear hq1 hq2
  clear hW4 hb3 hbt3 hb4 hbt4 hk1 hk2 hk3 hbk hbok
  go_wp2_with fail
  rw [← HW4.out]
  have hws : w3.heap.size + 1 = W4.heap.size := by rw [HW4.out]; simp
  rw [hws]
  have hrow := five_row a b W4 HA4.out HBO.out
  have HROW := Lib.hid hrow
  have hb5 := five_bel a b W4
  have hb5' := hb5
  obtain ⟨W5, hW5⟩ : ∃ W5, W5 = fiveW a b W4 := ⟨_, rfl⟩
  have hsp : fiveW a b W4 = W5 := hW5.symm
  unfold fiveW at hsp
  rw [hsp]
  rw [← hW5] at hb5 hrow
  have hl5 := least_any _ 5 5 (fiveL a b W4) W5 hrow (by decide) (by
    intro x hx
    simp [fiveL] at hx
    have ha : a.path.length = 1 := by have := congrArg (fun k : PKey => k.2.length) HAK.out; simpa [Pl.key, plX] using this
    have hb : b.path.length = 1 := by have := congrArg (fun k : PKey => k.2.length) HBK.out; simpa [Pl.key, plX] using this
    rcases hx with rfl | rfl | rfl | rfl | rfl
    · omega
    · simp [plX]
    · simp [plY]
    · simp [plY]
    · omega)
  rw [five_least HAK.out HBK.out] at hl5
  have HB5 := Lib.hid (HB4.out.trans (hb5.mono HB4.out.size))
  have HBB5 := Lib.hid hb5
  have HL5 := Lib.hid hl5
  clear hrow hb5 hb5' hW5 hsp hl5 hws c0 c1 c2 c3 z1 z2
  refine HL5.out.mono ?_
  rintro r w6 ⟨v, rfl, ⟨O, hown, hok, hkey⟩, hb6⟩
  have hb46 := HBB5.out.trans (hb6.mono HBB5.out.size)
  have HB6 := Lib.hid (HB4.out.trans (hb46.mono HB4.out.size))
  have hk1 := HK1.out.below hb46 HK1.out.lt
  have hk2 := HK2.out.below hb46 HK2.out.lt
  have hk3 := HK3.out.below hb46 HK3.out.lt
  have hle : O.map Pl.key = [(⟨#[120]⟩, []), (⟨#[121]⟩, [⟨#[98]⟩])] := hkey.trans (by decide +kernel)
  obtain ⟨o0, o1, rfl, ho1⟩ := two_of hle
  have hn1 : o1.name = ⟨#[121]⟩ := congrArg Prod.fst ho1
  obtain ⟨Ao, co, rfl, hrdo, _, _⟩ := own_rd plC_len hown
  obtain ⟨bo, oo, rfl, hbo, d0, _⟩ := hrdo.pl (k := 1) (x := o1) rfl
  rw [hn1] at d0
  have hS0 : Aw w6 w.heap.size w1.heap.size w3.heap.size bo oo a b w6.drew := ⟨hk1.cell 0, hk1.cell 1, hk2.cell 0, hk2.cell 1, hk3.cell 0, hk3.cell 1, d0, (Below.refl _ _).drew⟩
  have hg : AwG w6 w.heap.size w1.heap.size w3.heap.size bo := ⟨hk1.lt, hk2.lt, hk3.lt, hbo⟩
  have HG := Lib.hid hg
  have HA6 := Lib.hid (HA4.out.next hb46)
  have HB6o := Lib.hid (HBO.out.next hb46)
  have HXA := Lib.hid (fun W (h : AwOld w6 W) => aw_beg1 HAK.out W (HA6.out.next h))
  have HAX := Lib.hid (fun W (h : AwOld w6 W) => aw_beg2 HAK.out W (HA6.out.next h))
  have HAB := Lib.hid (fun W (h : AwOld w6 W) => aw_beg3 HAK.out HBK.out W (HA6.out.next h) (HB6o.out.next h))
  have HMAB := Lib.hid (fun W (h : AwOld w6 W) => aw_meet1 HAK.out HBK.out W (HA6.out.next h) (HB6o.out.next h))
  have HWA := Lib.hid (fun W (h : AwOld w6 W) => with_one a ⟨#[42]⟩ W (HA6.out.next h) (by rw [aw_len HAK.out]; decide) (by decide))
  unfold Aw at hS0
  clear hk1 hk2 hk3 hb6 hb46 hkey hle hok hown hrdo d0 hg
  go_wp2_with fail
  go_region_held3 (fun W => W.cell? ⟨w.heap.size, 0, none⟩ = some (.string ⟨#[120]⟩) ∧ W.cell? ⟨w.heap.size, 1, none⟩ = some (.slice none 0 0) ∧ W.cell? ⟨w1.heap.size, 0, none⟩ = some (.string a.name) ∧ W.cell? ⟨w1.heap.size, 1, none⟩ = some (.slice a.pa a.path.length a.pc) ∧ W.cell? ⟨w3.heap.size, 0, none⟩ = some (.string b.name) ∧ W.cell? ⟨w3.heap.size, 1, none⟩ = some (.slice b.pa b.path.length b.pc) ∧ W.cell? ⟨bo, oo + 1 * 2, none⟩ = some (.string ⟨#[121]⟩) ∧ AwOld w6 W) (first | assumption | exact Aw.alloc HG.out (by assumption) _)
    (first
      | ((with_reducible refine (HXA.out _ (aw_old (by assumption))).mono ?_); rintro r wn ⟨rfl, hbn⟩; have hSn := Aw.step HG.out (by assumption) hbn; unfold Aw at hSn)
      | ((with_reducible refine (HAX.out _ (aw_old (by assumption))).mono ?_); rintro r wn ⟨rfl, hbn⟩; have hSn := Aw.step HG.out (by assumption) hbn; unfold Aw at hSn)
      | ((with_reducible refine (HAB.out _ (aw_old (by assumption))).mono ?_); rintro r wn ⟨rfl, hbn⟩; have hSn := Aw.step HG.out (by assumption) hbn; unfold Aw at hSn)
      | ((with_reducible refine (HMAB.out _ (aw_old (by assumption))).mono ?_); rintro r wn ⟨rfl, hbn⟩; have hSn := Aw.step HG.out (by assumption) hbn; unfold Aw at hSn)
      | ((with_reducible refine (HWA.out _ (aw_old (by assumption))).mono ?_); rintro r wn ⟨y, rfl, hyk, hyok, _, hbn⟩; have hSn := Aw.step HG.out (Aw.alloc HG.out (by assumption) _) hbn; unfold Aw at hSn)
      | ((with_reducible refine (aw_meet2 (aw_key HAK.out hyk) _ hyok).mono ?_); rintro r wn ⟨rfl, hbn⟩; have hSn := Aw.step HG.out (by assumption) hbn; unfold Aw at hSn)
      | ((with_reducible refine (aw_text (aw_key HAK.out hyk) _ hyok).mono ?_); rintro r wn ⟨rfl, hbn⟩; have hSn := Aw.step HG.out (by assumption) hbn; unfold Aw at hSn)
      | ((with_reducible refine (aw_with3 _).mono ?_); rintro r wn ⟨y3, rfl, hyk3, hyok3, _, hbn⟩; have hSn := Aw.step HG.out (Aw.alloc HG.out (by assumption) _) hbn; unfold Aw at hSn)
      | ((with_reducible refine (aw_thr hyk3 _ hyok3).mono ?_); rintro r wn ⟨rfl, hbn⟩; have hSn := Aw.step HG.out (by assumption) hbn; unfold Aw at hSn))
  have HBF := Lib.hid (HB6.out.trans ((aw_old (by assumption) : AwOld w6 _).mono HB6.out.size))
  go_wp2
  go_ret
  exact ⟨rfl, HBF.out⟩
end Go.Proofs.Ytnofmnoohnmanaa
