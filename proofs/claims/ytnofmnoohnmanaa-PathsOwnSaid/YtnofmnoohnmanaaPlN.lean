/- Places: the contract of the document's Copy; a place's own row, cell by cell. -/
import Derived.Test.YtnofmnoohnmanaaPlStW
import Derived.Laws.OwnMore
namespace Go.Proofs.Ytnofmnoohnmanaa
open Go.RowKit
set_option linter.unusedVariables false
set_option linter.unusedSimpArgs false

set_option maxHeartbeats 1600000 in
theorem copy_any (x : Pl) (w : World) (hx : PlOk w w.heap.size x) (hl : x.path.length ≤ 1000000) :
    Calls Try.prog 27 #[.agg #[.string x.name, .slice x.pa x.path.length x.pc]] w (PlNew w x.name x.path) := by
  obtain ⟨i0, hi0, hz0, hz1, hz2⟩ := info_parts infoS
  obtain ⟨lx, hlx⟩ : ∃ n, x.path.length = n := ⟨_, rfl⟩
  have HX := Lib.hid hx
  have HLX := Lib.hid hlx
  rw [hlx] at hl ⊢
  obtain ⟨W0, hW0⟩ : ∃ W0, W0 = (w.alloc (.cells #[.string x.name, .slice x.pa lx x.pc] 24)).alloc (.cells #[.string ⟨#[]⟩, .slice none 0 0] 24) := ⟨_, rfl⟩
  have hb0 : Below w.heap.size w W0 := by rw [hW0]; exact ((Below.refl _ _).alloc (Nat.le_refl _) _).alloc (by simp) _
  have hz0' : W0.heap.size = w.heap.size + 2 := by rw [hW0]; simp
  have hk1 : Blk W0 w.heap.size 24 #[.string x.name, .slice x.pa lx x.pc] := by rw [hW0]; exact (Blk.new w _ _).alloc _
  have hk2 : Blk W0 (w.heap.size + 1) 24 #[.string ⟨#[]⟩, .slice none 0 0] := by rw [hW0]; exact blk_at (Blk.new (w.alloc _) _ _) (by simp)
  have hba : Below W0.heap.size W0 (W0.alloc (.cells #[] 9)).drew := ((Below.refl _ _).alloc (Nat.le_refl _) _).drew
  have HBA := Lib.hid hba
  have HK2 := Lib.hid hk2
  have HZ0 := Lib.hid hz0'
  have HB0 := Lib.hid hb0
  have HW0 := Lib.hid hW0
  have hS0 : W0.drew.cell? ⟨w.heap.size, 0, none⟩ = some (.string x.name) ∧ W0.drew.cell? ⟨w.heap.size, 1, none⟩ = some (.slice x.pa lx x.pc) := ⟨hk1.cell 0, hk1.cell 1⟩
  have hS1 : (W0.alloc (.cells #[] 9)).drew.cell? ⟨w.heap.size, 0, none⟩ = some (.string x.name) ∧ (W0.alloc (.cells #[] 9)).drew.cell? ⟨w.heap.size, 1, none⟩ = some (.slice x.pa lx x.pc) := ⟨cell_of_below hba hk1.lt (hk1.cell 0), cell_of_below hba hk1.lt (hk1.cell 1)⟩
  have HOW := Lib.hid (show (W0.alloc (.cells #[] 9)).drew.ownsRow W0.heap.size 9 1 (.slice (some ⟨W0.heap.size, 0, none⟩) 0 0) 0 [] from World.ownsRow_lit (base := W0.heap.size) (e := 9) (size := 1) W0 #[] 0 (Nat.le_refl _) (by unfold maxLen; omega) rfl)
  have HRD := Lib.hid (show Rd (W0.alloc (.cells #[] 9)).drew w.heap.size 1 strC x.pa x.path from hx.rd.below (hb0.trans (hba.mono hb0.size)))
  have h63 : 0 + lx ≤ maxLen := by unfold maxLen; omega
  have hby : (0 + lx) * 16 ≤ 140737488355328 := by omega
  have hbs : W0.heap.size ≤ (W0.alloc (.cells #[] 9)).drew.heap.size := hba.size
  clear hb0 hk1 hk2 hx hlx hba
  go_enter Try.func27, Try.ntmps27
  go_wp2_with fail
  rw [← HW0.out]
  clear hW0 hz0'
  go_region_held3 (fun w' => w'.cell? ⟨w.heap.size, 0, none⟩ = some (.string x.name) ∧ w'.cell? ⟨w.heap.size, 1, none⟩ = some (.slice x.pa lx x.pc)) (first | exact hS0 | exact hS1 | exact hS2 | exact And.intro (cell_of_below (((Below.refl (w.heap.size + 1) w2).setCell (p := ⟨w.heap.size + 1, 0, none⟩) (Nat.le_refl _) _).setCell (p := ⟨w.heap.size + 1, 1, none⟩) (Nat.le_refl _) _) (Nat.lt_succ_self _) hS2.1) (cell_of_below (((Below.refl (w.heap.size + 1) w2).setCell (p := ⟨w.heap.size + 1, 0, none⟩) (Nat.le_refl _) _).setCell (p := ⟨w.heap.size + 1, 1, none⟩) (Nat.le_refl _) _) (Nat.lt_succ_self _) hS2.2))
    (first
      | (refine step_append_rd (by rfl) _ _ _ (by rfl) W0.heap.size 9 i0 (.string ByteArray.empty) 1 16 Try.underlying22 hi0 hz0 hz1 hz2 (by rfl) (by decide) _ 0 _ (by rfl) HOW.out w.heap.size _ lx x.pc strC strC_len strC_one x.path HLX.out (by rfl) HRD.out h63 hby hbs ?_; intro v2 w2 hown2 hg2 hx2; have hb2 := HBA.out.grown hg2 hbs (fun k hk => (HOW.out.lt k hk).1); obtain ⟨A2, c2, rfl⟩ := own_slice hown2; have hk3 := HK2.out.below hb2 (by have := HZ0.out; show _ < W0.heap.size; omega); have hk30 := hk3.cell 0; have hk31 := hk3.cell 1; have hk32 := hk3.frozen 0; have hk33 := hk3.frozen 1; have hk34 := hk3.lt; have hS2 := And.intro (cell_of_below hb2 (by have := HZ0.out; show _ < W0.heap.size; omega) hS0.1) (cell_of_below hb2 (by have := HZ0.out; show _ < W0.heap.size; omega) hS0.2)))
  have HO2 := Lib.hid hown2
  have HB2 := Lib.hid hb2
  clear hown2 hg2 hx2 hb2 hS0 hS1 hS2
  have hk4 : Blk ((w2.setCell ⟨w.heap.size + 1, 0, none⟩ (.string x.name)).setCell ⟨w.heap.size + 1, 1, none⟩ (.slice A2 (0 + lx) c2)) (w.heap.size + 1) 24 #[.string x.name, .slice A2 (0 + lx) c2] := (hk3.set_ 0 (.string x.name)).set_ 1 (.slice A2 (0 + lx) c2)
  have q0 := hk4.cell 0
  have q1 := hk4.cell 1
  clear hk3 hk30 hk31 hk32 hk33 hk4
  simp at q0 q1
  have hfin : ((w2.setCell ⟨w.heap.size + 1, 0, none⟩ (.string x.name)).setCell ⟨w.heap.size + 1, 1, none⟩ (.slice A2 lx c2)).ownsRow w.heap.size 9 1 (.slice A2 x.path.length c2) x.path.length (x.path.flatMap strC) := by
    have h1 : w2.ownsRow W0.heap.size 9 1 (.slice A2 lx c2) lx (x.path.flatMap strC) := by simpa using HO2.out
    rw [HLX.out]
    exact own_mono (own_far2 (own_far2 h1 (by have := HZ0.out; show _ < _; simp only; omega) _) (by have := HZ0.out; show _ < _; simp only; omega) _) (by have := HZ0.out; omega)
  have HF := Lib.hid hfin
  clear hfin
  go_wp2
  have hfb : Below w.heap.size w ((w2.setCell ⟨w.heap.size + 1, 0, none⟩ (.string x.name)).setCell ⟨w.heap.size + 1, 1, none⟩ (.slice A2 lx c2)) := (((HB0.out.trans (HB2.out.mono HB0.out.size))).setCell (by simp) _).setCell (by simp) _
  have hy : PlOk ((w2.setCell ⟨w.heap.size + 1, 0, none⟩ (.string x.name)).setCell ⟨w.heap.size + 1, 1, none⟩ (.slice A2 lx c2)) ((w2.setCell ⟨w.heap.size + 1, 0, none⟩ (.string x.name)).setCell ⟨w.heap.size + 1, 1, none⟩ (.slice A2 lx c2)).heap.size ⟨x.name, A2, c2, x.path⟩ := PlOwn.ok (B := w.heap.size) ⟨HF.out, HX.out.wn, HX.out.wp⟩
  refine bodyPost_ret (v := .agg #[.string x.name, .slice A2 lx c2]) (by simp [results, Try.results27, go_sem, q0, q1]) rfl ⟨⟨x.name, A2, c2, x.path⟩, ?_, rfl, ?_, ?_, ?_⟩
  · rw [HLX.out]
  · simpa using hy
  · simpa using HF.out
  · simpa using hfb
end Go.Proofs.Ytnofmnoohnmanaa
