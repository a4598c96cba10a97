/- Places: contracts of slices.Clone, With, Root, Through. -/
import Derived.Test.YtfbhmamdckkimaaPlB
import Derived.Test.YtfbhmamdckkimaaApp2
import Derived.WalkSpells
namespace Go.Proofs.Ytfbhmamdckkimaa
open Go.RowKit
set_option linter.unusedVariables false
set_option linter.unusedSimpArgs false

theorem infoS : (Try.prog.info? 9).map (fun i => (i.zero, i.size, i.bytes)) = some (some (.string ByteArray.empty), 1, 16) := by kernel_rfl
theorem flat_strC (L : List ByteArray) : L.flatMap strC = L.map Value.string := by
  induction L with
  | nil => rfl
  | cons x L ih => simp [strC, ih]

set_option maxHeartbeats 800000 in
theorem clone_any (A : Option Addr) (len c : Nat) (L : List ByteArray) (w : World) (hl : L.length = len) (hm : len ≤ 1000000) (h : Rd w w.heap.size 1 strC A L) :
    Calls Try.prog 39 #[.slice A len c] w fun r w' => ∃ v, r = .returned v ∧ w'.ownsRow w.heap.size 9 1 v len (L.flatMap strC) ∧ Below w.heap.size w w' := by
  obtain ⟨i0, hi0, hz0, hz1, hz2⟩ := info_parts infoS
  have q22 : ∀ (w : World) (a : Option Addr) (n c n' c' : Nat), (binOp .eql 23 (.slice a n c) (.slice none n' c')).run Try.prog w = .ok (.bool a.isNone) w := fun w a n c n' c' => Lib.run_eql_slice_nil w _ _ a n c n' c' Try.underlying23
  rcases A with _ | ad
  · have hnil : L = [] := by
      rcases h with h | ⟨b, off, h, _⟩
      · exact h
      · cases h
    subst hnil
    obtain rfl : len = 0 := by simpa using hl.symm
    clear h hl
    go_enter Try.func39, Try.ntmps39
    go_wp2
    go_ret
    exact ⟨_, rfl, World.ownsRow_nil _ _ _ _, Below.refl _ _⟩
  · have H := Lib.hid h
    have HL := Lib.hid hl
    have hown0 := World.ownsRow_lit (base := w.heap.size) (e := 9) (size := 1) w #[] 0 (Nat.le_refl _) (by unfold maxLen; omega) rfl
    have HO := Lib.hid hown0
    clear h hl hown0
    go_enter Try.func39, Try.ntmps39
    go_wp2_with (at_builtin; refine wpList_append_rd _ rfl _ _ 23 rfl w.heap.size 9 i0 (.string ByteArray.empty) 1 16 Try.underlying23 hi0 hz0 hz1 hz2 rfl (by decide) _ 0 _ rfl HO.out w.heap.size _ len c strC strC_len strC_one L HL.out rfl (H.out.alloc (Nat.le_refl _) _) (by unfold maxLen; omega) (by omega) (by simp) ?_; intro v2 w2 hown2 hg2 _)
    have HO2 := Lib.hid hown2
    have HB2 := Lib.hid (((Below.refl w.heap.size w).alloc (Nat.le_refl _) (.cells #[] 9)).grown hg2 (by simp) (fun k hk => by cases hk; exact Nat.le_refl _))
    clear hown2 hg2
    go_wp2
    go_ret
    exact ⟨_, rfl, by simpa using HO2.out, HB2.out⟩

/-! ### With -/
theorem cell_of_below {w W : World} {B : Nat} (h : Below B w W) {g o : Nat} (hg : g < B) {v : Value} (hc : w.cell? ⟨g, o, none⟩ = some v) : W.cell? ⟨g, o, none⟩ = some v := (h.cell (p := ⟨g, o, none⟩) hg).trans hc

theorem own_mono {w : World} {base base' : Nat} {e : TypeId} {size : Nat} {v : Value} {n : Nat} {xs : List Value} (h : w.ownsRow base e size v n xs) (hb : base' ≤ base) : w.ownsRow base' e size v n xs := by
  refine ⟨h.1, ?_⟩
  rcases h.2 with h2 | ⟨g, cap, cur, a, b, r⟩
  · exact .inl h2
  · exact .inr ⟨g, cap, cur, a, Nat.le_trans hb b, r⟩
theorem own_far2 {W : World} {base : Nat} {e : TypeId} {size : Nat} {v : Value} {k : Nat} {xs : List Value} {p : Addr} (h : W.ownsRow base e size v k xs) (hp : p.block < base) (u : Value) : (W.setCell p u).ownsRow base e size v k xs :=
  h.kept (row := some p.block) ⟨rfl, rfl, rfl, by simp [World.setCell], fun k _ hk => Below.heap_setCell _ _ _ k (fun e => hk (by rw [e]))⟩ (by
    cases hb : v.ownBlock with
    | none => exact .inl rfl
    | some g => exact .inr (fun e => by have := (h.lt g hb).1; cases e; omega))
/-- a place that is told, in memory of its own -/
def PlMade (w : World) (name : ByteArray) (L : List ByteArray) (r : Ending) (w' : World) : Prop :=
  ∃ v, r = .returned (.agg #[.string name, v]) ∧ w'.ownsRow w.heap.size 9 1 v L.length (L.flatMap strC) ∧ Below w.heap.size w w'

set_option maxHeartbeats 1600000 in
theorem with_any (x : Pl) (S : List ByteArray) (A : Option Addr) (ls cs : Nat) (w : World) (hx : PlOk w w.heap.size x) (hl : x.path.length ≤ 1000000) (hls : S.length = ls) (hs : ls ≤ 1000000) (hr : Rd w w.heap.size 1 strC A S) :
    Calls Try.prog 25 #[.agg #[.string x.name, .slice x.pa x.path.length x.pc], .slice A ls cs] w (PlMade w x.name (x.path ++ S)) := by
  obtain ⟨i0, hi0, hz0, hz1, hz2⟩ := info_parts infoS
  obtain ⟨lx, hlx⟩ : ∃ n, x.path.length = n := ⟨_, rfl⟩
  have HX := Lib.hid hx
  have HLX := Lib.hid hlx
  have HLS := Lib.hid hls
  have HR := Lib.hid hr
  rw [hlx] at hl ⊢
  clear hx hlx hls hr
  obtain ⟨W0, hW0⟩ : ∃ W0, W0 = (w.alloc (.cells #[.string x.name, .slice x.pa lx x.pc] 25)).alloc (.cells #[.string ⟨#[]⟩, .slice none 0 0] 25) := ⟨_, rfl⟩
  have hb0 : Below w.heap.size w W0 := by rw [hW0]; exact ((Below.refl _ _).alloc (Nat.le_refl _) _).alloc (by simp) _
  have hz0' : W0.heap.size = w.heap.size + 2 := by rw [hW0]; simp
  have hk1 : Blk W0 w.heap.size 25 #[.string x.name, .slice x.pa lx x.pc] := by rw [hW0]; exact (Blk.new w _ _).alloc _
  have hk2 : Blk W0 (w.heap.size + 1) 25 #[.string ⟨#[]⟩, .slice none 0 0] := by rw [hW0]; exact blk_at (Blk.new (w.alloc _) _ _) (by simp)
  have HK2 := Lib.hid hk2
  have HZ0 := Lib.hid hz0'
  have HB0 := Lib.hid hb0
  have HW0 := Lib.hid hW0
  have hS0 : W0.drew.cell? ⟨w.heap.size, 0, none⟩ = some (.string x.name) ∧ W0.drew.cell? ⟨w.heap.size, 1, none⟩ = some (.slice x.pa lx x.pc) := ⟨hk1.cell 0, hk1.cell 1⟩
  have hc1 := clone_any x.pa lx x.pc x.path W0.drew HLX.out hl ((HX.out.rd.below hb0.drew).more hb0.size)
  have HC1 := Lib.hid hc1
  have HRD := Lib.hid (HR.out.below hb0.drew)
  have h63 : lx + ls ≤ maxLen := by unfold maxLen; omega
  have hby : (lx + ls) * 16 ≤ 140737488355328 := by omega
  clear hb0 hk1 hk2 hc1
  go_enter Try.func25, Try.ntmps25
  go_wp2_with fail
  rw [← HW0.out]
  clear hW0 hz0'
  go_region_held3 (fun w' => w'.cell? ⟨w.heap.size, 0, none⟩ = some (.string x.name) ∧ w'.cell? ⟨w.heap.size, 1, none⟩ = some (.slice x.pa lx x.pc)) (first | exact hS0 | exact hS1 | exact hS2 | exact And.intro (cell_of_below (((Below.refl (w.heap.size + 1) w2).setCell (p := ⟨w.heap.size + 1, 0, none⟩) (Nat.le_refl _) _).setCell (p := ⟨w.heap.size + 1, 1, none⟩) (Nat.le_refl _) _) (Nat.lt_succ_self _) hS2.1) (cell_of_below (((Below.refl (w.heap.size + 1) w2).setCell (p := ⟨w.heap.size + 1, 0, none⟩) (Nat.le_refl _) _).setCell (p := ⟨w.heap.size + 1, 1, none⟩) (Nat.le_refl _) _) (Nat.lt_succ_self _) hS2.2))
    (first
      | (go_at_call 39; refine HC1.out.mono ?_; rintro r w1 ⟨v1, rfl, hown1, hb1⟩; have hS1 := And.intro (cell_of_below hb1 (by have := HZ0.out; show _ < W0.heap.size; omega) hS0.1) (cell_of_below hb1 (by have := HZ0.out; show _ < W0.heap.size; omega) hS0.2))
      | (refine step_append_rd (by rfl) _ _ _ (by rfl) W0.heap.size 9 i0 (.string ByteArray.empty) 1 16 Try.underlying23 hi0 hz0 hz1 hz2 (by rfl) (by decide) _ lx _ (by rfl) hown1 w.heap.size _ ls cs strC strC_len strC_one S HLS.out (by rfl) (HRD.out.below (hb1.mono (by have := HZ0.out; show w.heap.size ≤ W0.heap.size; omega))) h63 hby hb1.size ?_; intro v2 w2 hown2 hg2 hx2; have hb2 := (hb1.mono (Nat.le_refl _)).grown hg2 hb1.size (fun k hk => (hown1.lt k hk).1); obtain ⟨A2, c2, rfl⟩ := own_slice hown2; have hk3 := HK2.out.drew.below hb2 (by have := HZ0.out; show _ < W0.heap.size; omega); have hk30 := hk3.cell 0; have hk31 := hk3.cell 1; have hk32 := hk3.frozen 0; have hk33 := hk3.frozen 1; have hk34 := hk3.lt; have hS2 := And.intro (cell_of_below hb2 (by have := HZ0.out; show _ < W0.heap.size; omega) hS0.1) (cell_of_below hb2 (by have := HZ0.out; show _ < W0.heap.size; omega) hS0.2)))
  have HO2 := Lib.hid hown2
  have HB2 := Lib.hid hb2
  clear hown1 hb1 hown2 hg2 hx2 hb2 hS0 hS1 hS2
  have hk4 : Blk ((w2.setCell ⟨w.heap.size + 1, 0, none⟩ (.string x.name)).setCell ⟨w.heap.size + 1, 1, none⟩ (.slice A2 (lx + ls) c2)) (w.heap.size + 1) 25 #[.string x.name, .slice A2 (lx + ls) c2] := (hk3.set_ 0 (.string x.name)).set_ 1 (.slice A2 (lx + ls) c2)
  have q0 := hk4.cell 0
  have q1 := hk4.cell 1
  clear hk3 hk30 hk31 hk32 hk33 hk4
  simp at q0 q1
  go_wp2
  refine bodyPost_ret (v := .agg #[.string x.name, .slice A2 (lx + ls) c2]) (by simp [results, Try.results25, go_sem, q0, q1]) rfl ⟨_, rfl, ?_, ?_⟩
  · rw [List.length_append, HLX.out, HLS.out, List.flatMap_append]
    exact own_mono (own_far2 (own_far2 HO2.out (by have := HZ0.out; show _ < _; simp only; omega) _) (by have := HZ0.out; show _ < _; simp only; omega) _) (by have := HZ0.out; omega)
  · exact (((HB0.out.drew.trans (HB2.out.mono HB0.out.size))).setCell (by simp) _).setCell (by simp) _
end Go.Proofs.Ytfbhmamdckkimaa
