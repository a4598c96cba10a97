/- Places: contracts of Text and the document's Text. -/
import Derived.Test.YtnofmnoohnmanaaPlE
import Derived.Test.YtnofmnoohnmanaaJoin
import Derived.Laws.Concat
namespace Go.Proofs.Ytnofmnoohnmanaa
open Go.RowKit
set_option linter.unusedVariables false
set_option linter.unusedSimpArgs false

def tailL (L : List ByteArray) : List UInt8 := (L.map (fun s => 46 :: s.data.toList)).flatten
def textL (nm : ByteArray) (L : List ByteArray) : List UInt8 := nm.data.toList ++ tailL L
theorem tailL_snoc (L : List ByteArray) (s : ByteArray) : tailL (L ++ [s]) = tailL L ++ (46 :: s.data.toList) := by simp [tailL]
theorem tailL_len {L : List ByteArray} {m : Nat} (h : ∀ s ∈ L, s.size ≤ m) : (tailL L).length ≤ L.length * (m + 1) := by
  induction L with
  | nil => simp [tailL]
  | cons x L ih =>
    have h1 := ih (fun s hs => h s (List.mem_cons_of_mem _ hs))
    have h2 := h x (by simp)
    have e : tailL (x :: L) = (46 :: x.data.toList) ++ tailL L := rfl
    have e2 : x.data.toList.length = x.size := by simp
    rw [e, List.length_append, List.length_cons, List.length_cons, Nat.add_mul, e2]
    omega
theorem textL_join (nm : ByteArray) (L : List ByteArray) : Lib.join ((nm :: L).map (·.data.toList)) [46] = textL nm L := by
  rw [List.map_cons, Lib.join_cons]
  unfold textL tailL Lib.joinTail
  rw [List.map_map]
  rfl
theorem size_data (s : ByteArray) : s.size = s.data.toList.length := by simp
theorem data_app (a b : ByteArray) : (a ++ b).data.toList = a.data.toList ++ b.data.toList := by simp

set_option maxHeartbeats 1600000 in
theorem rtext_any (x : Pl) (w : World) (hx : PlOk w w.heap.size x) (hl : x.path.length ≤ 1000) (hn : x.name.size ≤ 1000) (hp : ∀ s ∈ x.path, s.size ≤ 1000) :
    Calls Try.prog 20 #[.agg #[.string x.name, .slice x.pa x.path.length x.pc]] w fun r w' => r = .returned (.string ⟨(textL x.name x.path).toArray⟩) ∧ Below w.heap.size w w' := by
  obtain ⟨lx, hlx⟩ : ∃ n, x.path.length = n := ⟨_, rfl⟩
  obtain ⟨W, hW⟩ : ∃ W, W = (w.alloc (.cells #[.string x.name, .slice x.pa lx x.pc] 24)) := ⟨_, rfl⟩
  have hb2 : Below w.heap.size w W := by rw [hW]; exact (Below.refl _ _).alloc (Nat.le_refl _) _
  have hk1 : Blk W w.heap.size 24 #[.string x.name, .slice x.pa lx x.pc] := by rw [hW]; exact Blk.new w _ _
  have c0 := hk1.cell 0
  have c1 := hk1.cell 1
  have z1 := hk1.lt
  simp at c0 c1
  have HB := Lib.hid hb2
  have HX := Lib.hid (hx.rd.below hb2)
  have HLX := Lib.hid hlx
  have HW := Lib.hid hW
  have HN := Lib.hid hn
  have HP := Lib.hid hp
  rw [hlx] at hl ⊢
  clear hx hb2 hlx hk1 hn hp
  go_enter Try.func20, Try.ntmps20
  go_wp2
  rw [← HW.out]
  clear hW
  go_loop [3, 4] (fun s i => ∃ (k : Nat) (t : ByteArray), k ≤ lx ∧ i = .int .i64 k ∧ s = .string t ∧ t.data.toList = textL x.name (x.path.take k)) (fun _ i => lx - (intOf i).toNat)
  case atStart => exact ⟨0, x.name, by omega, rfl, rfl, by simp [textL, tailL]⟩
  case round =>
    obtain ⟨k, t, hk, rfl, rfl, ht⟩ := hrel
    have HT := Lib.hid ht
    clear ht
    by_cases hlt : k < lx
    · obtain ⟨b, off, s, hs, hpa, hb, hc⟩ := HX.out.str (k := k) (by rw [HLX.out]; exact hlt)
      have hki : (k : Int) < (lx : Int) := by omega
      rw [hpa] at c1
      have hss := HP.out s (List.mem_of_getElem? hs)
      have htl : t.size ≤ 1000 + 1000 * 1001 := by
        rw [size_data, HT.out]
        unfold textL
        rw [List.length_append]
        have h1 := tailL_len (L := x.path.take k) (m := 1000) (fun s hs => HP.out s (List.mem_of_mem_take hs))
        have h2 : (x.path.take k).length ≤ 1000 := by rw [List.length_take]; omega
        have h3 : (x.path.take k).length * (1000 + 1) ≤ 1000 * 1001 := Nat.mul_le_mul h2 (Nat.le_refl _)
        have h4 := HN.out
        rw [size_data] at h4
        omega
      obtain ⟨t1, ht1⟩ : ∃ t1 : ByteArray, t1 = t ++ ⟨#[46]⟩ := ⟨_, rfl⟩
      obtain ⟨t2, ht2⟩ : ∃ t2 : ByteArray, t2 = t1 ++ s := ⟨_, rfl⟩
      have hd : (⟨#[46]⟩ : ByteArray).size = 1 := rfl
      have hs1 : t1.size = t.size + 1 := by rw [size_data, size_data, ht1, data_app]; simp
      have hcat1 : ∀ W : World, (Op.stringOp .add t ⟨#[46]⟩).run Try.prog W = .ok (.string t1) W := fun W => by
        rw [ht1]; exact run_string_add_sum (P := Try.prog) W t _ (by omega)
      have hcat2 : ∀ W : World, (Op.stringOp .add t1 s).run Try.prog W = .ok (.string t2) W := fun W => by
        rw [ht2]; exact run_string_add_sum (P := Try.prog) W t1 s (by omega)
      have hfin : t2.data.toList = textL x.name (x.path.take (k + 1)) := by
        rw [ht2, data_app, ht1, data_app, HT.out, List.take_add_one, hs]
        show _ = textL x.name (x.path.take k ++ [s])
        unfold textL
        rw [tailL_snoc]
        simp
      have HF := Lib.hid hfin
      clear hfin ht1 ht2 hd hs1 hs hpa hss htl
      go_wp2
      go_round
      case rel => exact ⟨k + 1, t2, by omega, by go_num, rfl, HF.out⟩
      case measure => simp [intOf] <;> omega
    · obtain rfl : k = lx := by omega
      have HF := Lib.hid (show t = ⟨(textL x.name x.path).toArray⟩ by
        apply ByteArray.ext
        apply Array.toList_inj.1
        rw [HT.out, ← HLX.out, List.take_length])
      go_wp2
      go_ret
      exact ⟨by rw [← HF.out]; rfl, HB.out⟩

set_option maxHeartbeats 1600000 in
theorem text_any (x : Pl) (w : World) (hx : PlOk w w.heap.size x) (hl : x.path.length ≤ 1000) (hn : x.name.size ≤ 1000) (hp : ∀ s ∈ x.path, s.size ≤ 1000) :
    Calls Try.prog 19 #[.agg #[.string x.name, .slice x.pa x.path.length x.pc]] w fun r w' => r = .returned (.string ⟨(textL x.name x.path).toArray⟩) ∧ Below w.heap.size w w' := by
  obtain ⟨i0, hi0, hz0, hz1, hz2⟩ := info_parts infoS
  obtain ⟨lx, hlx⟩ : ∃ n, x.path.length = n := ⟨_, rfl⟩
  obtain ⟨W, hW⟩ : ∃ W, W = (w.alloc (.cells #[.string x.name, .slice x.pa lx x.pc] 24)) := ⟨_, rfl⟩
  have hb2 : Below w.heap.size w W := by rw [hW]; exact (Below.refl _ _).alloc (Nat.le_refl _) _
  have hb3 : Below w.heap.size w (W.alloc (.cells #[.string x.name] 9)) := hb2.alloc hb2.size _
  have hown0 : World.ownsRow (W.alloc (.cells #[.string x.name] 9)) W.heap.size 9 1 (.slice (some ⟨W.heap.size, 0, none⟩) 1 1) 1 [.string x.name] := World.ownsRow_lit (base := W.heap.size) (e := 9) (size := 1) W #[.string x.name] 1 (Nat.le_refl _) (by unfold maxLen; omega) rfl
  have hWs : W.heap.size = w.heap.size + 1 := by rw [hW]; simp
  rw [hWs] at hown0
  have HO := Lib.hid hown0
  have HB := Lib.hid hb2
  have HB3 := Lib.hid hb3
  have HR := Lib.hid (hx.rd.below hb3)
  have HLX := Lib.hid hlx
  have HW := Lib.hid hW
  have HWS := Lib.hid hWs
  have HN := Lib.hid hn
  have HP := Lib.hid hp
  rw [hlx] at hl ⊢
  clear hx hb2 hlx hn hp hb3 hown0 hWs
  rw [hW] at HO HR HB3
  go_enter Try.func19, Try.ntmps19
  go_wp2_with (at_builtin; refine wpList_append_rd _ rfl _ _ 22 rfl (w.heap.size + 1) 9 i0 (.string ByteArray.empty) 1 16 Try.underlying22 hi0 hz0 hz1 hz2 rfl (by decide) _ 1 _ rfl HO.out w.heap.size _ lx x.pc strC strC_len strC_one x.path HLX.out rfl HR.out (by unfold maxLen; omega) (by omega) (by simp) ?_; intro v2 w2 hown2 hg2 _)
  have hb4 := HB3.out.grown hg2 HB3.out.size (fun k hk => by cases hk; show _ ≤ w.heap.size + 1; omega)
  have hown3 : w2.ownsRow (w.heap.size + 1) 9 1 v2 (x.name :: x.path).length ((x.name :: x.path).flatMap strC) := by
    rw [List.length_cons, HLX.out, Nat.add_comm lx 1]; exact hown2
  obtain ⟨A3, c3, rfl, hrd3, hcap3, hbig3⟩ := own_rd strC_len hown3
  obtain ⟨bk, o, rfl, hbk, hcells⟩ := hrd3.head (by simp)
  have hjoin := Try.strings_Join bk o c3 (x.name :: x.path) ⟨#[46]⟩ w2 (fun j s hj => by have := hcells j s hj 0 _ rfl; simpa using this) hbk (by rw [List.length_cons, HLX.out]; omega) hcap3 (by
    show (Lib.join _ [46]).length ≤ _
    rw [textL_join]
    unfold textL
    rw [List.length_append]
    have h1 := tailL_len (L := x.path) (m := 1000) HP.out
    rw [HLX.out] at h1
    have h3 : lx * (1000 + 1) ≤ 1000 * 1001 := Nat.mul_le_mul hl (Nat.le_refl _)
    have h4 := HN.out
    rw [size_data] at h4
    omega)
  have hj2 : Lib.join ((x.name :: x.path).map (·.data.toList)) (⟨#[46]⟩ : ByteArray).data.toList = textL x.name x.path := textL_join _ _
  rw [hj2, List.length_cons, HLX.out] at hjoin
  rw [List.length_cons, HLX.out]
  have HJ := Lib.hid hjoin
  have HB4 := Lib.hid hb4
  clear hjoin hj2 hb4 hown2 hown3 hg2 hrd3 hcells
  go_wp2_with fail
  refine HJ.out.mono ?_
  rintro r w3 ⟨rfl, hb5⟩
  have HB5 := Lib.hid (HB4.out.trans (hb5.mono HB4.out.size))
  clear hb5
  go_wp2
  go_ret
  exact ⟨rfl, HB5.out⟩
end Go.Proofs.Ytnofmnoohnmanaa
