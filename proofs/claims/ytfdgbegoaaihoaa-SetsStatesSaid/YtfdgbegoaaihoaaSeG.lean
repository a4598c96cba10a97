/- Sets: the chapter's own rows: awake. -/
import Derived.Test.YtfdgbegoaaihoaaSeF
namespace Go.Proofs.Ytfdgbegoaaihoaa
open Go.RowKit
set_option linter.unusedVariables false
set_option linter.unusedSimpArgs false

theorem rd_blk {α : Type} {W : World} {g : Nat} {e : TypeId} {size : Nat} {cells : α → List Value} (hlen : ∀ x, (cells x).length = size) {cs : Array Value} {L : List α} (h : Blk W g e cs) (hcs : cs.toList = L.flatMap cells) : Rd W W.heap.size size cells (some ⟨g, 0, none⟩) L := by
  refine .inr ⟨g, 0, rfl, h.lt, fun i y hy j u hu => ?_⟩
  rw [h.cell, ← Array.getElem?_toList, hcs, Nat.zero_add]
  exact flat_at hlen L i y hy j u hu
theorem lit_ok {W : World} {g n : Nat} {cs : Array Value} {L : List Bs} (h : Blk W g 9 cs) (hcs : cs.toList = L.flatMap sC) (hn : L.length = n) (hm : n ≤ maxLen) : NmOk W ⟨some ⟨g, 0, none⟩, n, L⟩ n := ⟨rd_blk sC_len h hcs, hn, Nat.le_refl _, hm⟩
/-- a cell that is known -/
def At (W : World) (b o : Nat) (v : Value) : Prop := b < W.heap.size ∧ W.cell? ⟨b, o, none⟩ = some v
theorem At.next {W W' : World} {b o : Nat} {v : Value} (h : At W b o v) (hb : Below W.heap.size W W') : At W' b o v := ⟨Nat.lt_of_lt_of_le h.1 hb.size, cell_of_below hb h.1 h.2⟩
/-- a row is told: its first name, how many -/
def Hd (W : World) (s : ByteArray) (n : Nat) (r : Ending) (w' : World) : Prop := ∃ b o c, r = .returned (.slice (some ⟨b, o, none⟩) n c) ∧ At w' b o (.string s) ∧ Below W.heap.size W w'
theorem ok_head {w' : World} {z : Nm} {k : Nat} {x : Bs} {L : List Bs} (h : NmOk w' z k) (hz : z.row = x :: L) : ∃ b o, z.pa = some ⟨b, o, none⟩ ∧ At w' b o (.string (enc x)) := by
  obtain ⟨b, o, y, hy, hA, hb, hc⟩ := h.rd.str (k := 0) (by rw [hz]; simp)
  rw [hz] at hy
  cases hy
  exact ⟨b, o, hA, hb, hc⟩
theorem Hd.of {W W0 : World} {L M : List Bs} {x : Bs} {n : Nat} {r : Ending} {w' : World} (h : NmMade W0 L r w') (he : L = x :: M) (hn : M.length + 1 = n) (hb : Below W.heap.size W W0) : Hd W (enc x) n r w' := by
  obtain ⟨z, k, rfl, hz, ho, hbl⟩ := h
  have hk := ho.ln
  rw [hz, he, List.length_cons, hn] at hk
  subst hk
  obtain ⟨b, o, hA, ha⟩ := ok_head ho.ok (hz.trans he)
  exact ⟨b, o, z.pc, by rw [hA], ha, hb.trans (hbl.mono hb.size)⟩
/-- a live state is told: its first name, how many -/
def Hs (W : World) (s : ByteArray) (n : Nat) (r : Ending) (w' : World) : Prop := ∃ b o c, r = .returned (.agg #[.bool false, .slice (some ⟨b, o, none⟩) n c]) ∧ At w' b o (.string s) ∧ Below W.heap.size W w'
theorem Hs.of {W W0 : World} {ad : Bool} {L M : List Bs} {x : Bs} {n : Nat} {r : Ending} {w' : World} (h : StIs W0 ad L r w') (hd : ad = false) (he : L = x :: M) (hn : M.length + 1 = n) (hb : Below W.heap.size W W0) : Hs W (enc x) n r w' := by
  obtain ⟨z, k, rfl, hz, ho, hbl⟩ := h
  have hk := ho.ln
  rw [hz, he, List.length_cons, hn] at hk
  subst hk hd
  obtain ⟨b, o, hA, ha⟩ := ok_head ho (hz.trans he)
  exact ⟨b, o, z.pc, by rw [hA], ha, hb.trans (hbl.mono hb.size)⟩
def ba (n : UInt8) : Value := .string ⟨#[n]⟩
theorem bel2 (W : World) (o o' : Obj) : Below W.heap.size W ((W.alloc o).alloc o') := ((Below.refl _ _).alloc (Nat.le_refl _) _).alloc (by simp) _
theorem bel1 (W : World) (o : Obj) : Below W.heap.size W (W.alloc o) := (Below.refl _ _).alloc (Nat.le_refl _) _
theorem two_ok1 (W : World) (a b : UInt8) (o : Obj) : NmOk ((W.alloc (.cells #[.string ⟨#[a]⟩, .string ⟨#[b]⟩] 9)).alloc o) ⟨some ⟨W.heap.size, 0, none⟩, 2, [[a], [b]]⟩ 2 := lit_ok ((Blk.new W _ _).alloc _) rfl rfl (by decide)
theorem two_ok2 (W : World) (a b : UInt8) (o : Obj) : NmOk ((W.alloc o).alloc (.cells #[.string ⟨#[a]⟩, .string ⟨#[b]⟩] 9)) ⟨some ⟨W.heap.size + 1, 0, none⟩, 2, [[a], [b]]⟩ 2 := lit_ok (blk_at (Blk.new (W.alloc o) _ _) (by simp)) rfl rfl (by decide)
theorem set_is {L M : List Bs} (h : Rise M) (h1 : ∀ x ∈ M, x ∈ L) (h2 : ∀ x ∈ L, x ∈ M) : setS L = M := (setS_of h fun x => ⟨h1 x, h2 x⟩).symm
theorem aw1 : setS [[98], [97], [98]] = [[97], [98]] := set_is (by unfold Rise; decide) (by decide) (by decide)
theorem aw2 : unionS [[97], [99]] [[98], [99]] = [[97], [98], [99]] := set_is (by unfold Rise; decide) (by decide) (by decide)
theorem aw0 : setS [[97], [99]] = [[97], [99]] := set_is (by unfold Rise; decide) (by decide) (by decide)
theorem aw0b : setS [[97], [98]] = [[97], [98]] := set_is (by unfold Rise; decide) (by decide) (by decide)
theorem aw0c : setS [[97]] = [[97]] := set_is (by unfold Rise; decide) (by decide) (by decide)
theorem aw3 : pickS [[97], [99]] [[98], [99]] true = [[99]] := by unfold pickS; rw [aw0]; decide
theorem aw4 : pickS [[97], [99]] [[98], [99]] false = [[97]] := by unfold pickS; rw [aw0]; decide
theorem aw5 : (joinS false [[97], [98]] false [[98], [99]]).2 = [[98]] := by
  show pickS [[97], [98]] [[98], [99]] true = _
  unfold pickS; rw [aw0b]; decide
theorem aw6 : (joinS true [] false [[97]]).2 = [[97]] := aw0c
theorem aw7 : withinS [[97], [99]] [[97], [98]] = false := by unfold withinS pickS; rw [aw0]; decide

theorem of_aw (W : World) : Calls Try.prog 22 #[.slice (some ⟨W.heap.size, 0, none⟩) 3 3] (W.alloc (.cells #[.string ⟨#[98]⟩, .string ⟨#[97]⟩, .string ⟨#[98]⟩] 9)) (Hd W ⟨#[97]⟩ 2) :=
  (of_any ⟨some ⟨W.heap.size, 0, none⟩, 3, [[98], [97], [98]]⟩ 3 _ (lit_ok (Blk.new W _ _) rfl rfl (by decide)) (by decide)).mono fun r w' h => Hd.of h aw1 rfl (bel1 _ _)

theorem un_aw (W : World) : Calls Try.prog 12 #[.slice (some ⟨W.heap.size, 0, none⟩) 2 2, .slice (some ⟨W.heap.size + 1, 0, none⟩) 2 2] ((W.alloc (.cells #[.string ⟨#[97]⟩, .string ⟨#[99]⟩] 9)).alloc (.cells #[.string ⟨#[98]⟩, .string ⟨#[99]⟩] 9)) (Hd W ⟨#[97]⟩ 3) :=
  (union_any ⟨some ⟨W.heap.size, 0, none⟩, 2, [[97], [99]]⟩ ⟨some ⟨W.heap.size + 1, 0, none⟩, 2, [[98], [99]]⟩ 2 2 _ (two_ok1 W 97 99 _) (two_ok2 W 98 99 _) (by decide) (by decide)).mono fun r w' h => Hd.of h aw2 rfl (bel2 _ _ _)
theorem co_aw (W : World) : Calls Try.prog 14 #[.slice (some ⟨W.heap.size, 0, none⟩) 2 2, .slice (some ⟨W.heap.size + 1, 0, none⟩) 2 2] ((W.alloc (.cells #[.string ⟨#[97]⟩, .string ⟨#[99]⟩] 9)).alloc (.cells #[.string ⟨#[98]⟩, .string ⟨#[99]⟩] 9)) (Hd W ⟨#[99]⟩ 1) :=
  (common_any ⟨some ⟨W.heap.size, 0, none⟩, 2, [[97], [99]]⟩ ⟨some ⟨W.heap.size + 1, 0, none⟩, 2, [[98], [99]]⟩ 2 2 _ (two_ok1 W 97 99 _) (two_ok2 W 98 99 _) (by decide) (by decide)).mono fun r w' h => Hd.of h aw3 rfl (bel2 _ _ _)
theorem mi_aw (W : World) : Calls Try.prog 16 #[.slice (some ⟨W.heap.size, 0, none⟩) 2 2, .slice (some ⟨W.heap.size + 1, 0, none⟩) 2 2] ((W.alloc (.cells #[.string ⟨#[97]⟩, .string ⟨#[99]⟩] 9)).alloc (.cells #[.string ⟨#[98]⟩, .string ⟨#[99]⟩] 9)) (Hd W ⟨#[97]⟩ 1) :=
  (minus_any ⟨some ⟨W.heap.size, 0, none⟩, 2, [[97], [99]]⟩ ⟨some ⟨W.heap.size + 1, 0, none⟩, 2, [[98], [99]]⟩ 2 2 _ (two_ok1 W 97 99 _) (two_ok2 W 98 99 _) (by decide) (by decide)).mono fun r w' h => Hd.of h aw4 rfl (bel2 _ _ _)
theorem jo_aw (W : World) : Calls Try.prog 18 #[.agg #[.bool false, .slice (some ⟨W.heap.size, 0, none⟩) 2 2], .agg #[.bool false, .slice (some ⟨W.heap.size + 1, 0, none⟩) 2 2]] ((W.alloc (.cells #[.string ⟨#[97]⟩, .string ⟨#[98]⟩] 9)).alloc (.cells #[.string ⟨#[98]⟩, .string ⟨#[99]⟩] 9)) (Hs W ⟨#[98]⟩ 1) :=
  (join_any false false ⟨some ⟨W.heap.size, 0, none⟩, 2, [[97], [98]]⟩ ⟨some ⟨W.heap.size + 1, 0, none⟩, 2, [[98], [99]]⟩ 2 2 _ (two_ok1 W 97 98 _) (two_ok2 W 98 99 _) (by decide) (by decide)).mono fun r w' h => Hs.of h rfl aw5 rfl (bel2 _ _ _)
theorem jd_aw (W : World) : Calls Try.prog 18 #[.agg #[.bool true, .slice none 0 0], .agg #[.bool false, .slice (some ⟨W.heap.size, 0, none⟩) 1 1]] (W.alloc (.cells #[.string ⟨#[97]⟩] 9)) (Hs W ⟨#[97]⟩ 1) :=
  (join_any true false ⟨none, 0, []⟩ ⟨some ⟨W.heap.size, 0, none⟩, 1, [[97]]⟩ 0 1 _ ⟨Rd.nil _ _ _ _ _, rfl, Nat.le_refl _, Nat.zero_le _⟩ (lit_ok (Blk.new W _ _) rfl rfl (by decide)) (by decide) (by decide)).mono fun r w' h => Hs.of h rfl aw6 rfl (bel1 _ _)
theorem wi_aw (W : World) : Calls Try.prog 26 #[.slice (some ⟨W.heap.size, 0, none⟩) 2 2, .slice (some ⟨W.heap.size + 1, 0, none⟩) 2 2] ((W.alloc (.cells #[.string ⟨#[97]⟩, .string ⟨#[99]⟩] 9)).alloc (.cells #[.string ⟨#[97]⟩, .string ⟨#[98]⟩] 9)) fun r w' => r = .returned (.bool false) ∧ Below W.heap.size W w' :=
  (within_bool ⟨some ⟨W.heap.size, 0, none⟩, 2, [[97], [99]]⟩ ⟨some ⟨W.heap.size + 1, 0, none⟩, 2, [[97], [98]]⟩ 2 2 aw7 _ (two_ok1 W 97 99 _) (two_ok2 W 97 98 _) (by decide) (by decide)).mono fun r w' h => ⟨h.1, (bel2 _ _ _).trans (h.2.mono (bel2 _ _ _).size)⟩
set_option maxHeartbeats 6400000 in
theorem awake_yes (w : World) : Calls Try.prog 17 #[] w fun r w' => r = .returned (.bool true) ∧ Below w.heap.size w w' := by
  go_enter Try.func17, Try.ntmps17
  go_wp2_with fail
  refine (of_aw w).mono ?_
  rintro r w1 ⟨b1, o1, c1, rfl, h1, k1⟩
  have H1 := Lib.hid h1
  have K1 := Lib.hid k1
  clear h1 k1
  go_wp2_with fail
  refine (un_aw w1).mono ?_
  rintro r w2 ⟨b2, o2, c2, rfl, h2, k2⟩
  have H12 := Lib.hid (H1.out.next k2)
  have K2 := Lib.hid (K1.out.trans (k2.mono K1.out.size))
  clear h2 k2
  go_wp2_with fail
  refine (co_aw w2).mono ?_
  rintro r w3 ⟨b3, o3, c3, rfl, h3, k3⟩
  have H13 := Lib.hid (H12.out.next k3)
  have H33 := Lib.hid h3
  have K3 := Lib.hid (K2.out.trans (k3.mono K2.out.size))
  clear h3 k3
  go_wp2_with fail
  refine (mi_aw w3).mono ?_
  rintro r w4 ⟨b4, o4, c4, rfl, h4, k4⟩
  have H14 := Lib.hid (H13.out.next k4)
  have H34 := Lib.hid (H33.out.next k4)
  have H44 := Lib.hid h4
  have K4 := Lib.hid (K3.out.trans (k4.mono K3.out.size))
  clear h4 k4
  go_wp2_with fail
  refine (jo_aw w4).mono ?_
  rintro r w5 ⟨b5, o5, c5, rfl, h5, k5⟩
  obtain ⟨W6, hW6⟩ : ∃ W6, W6 = w5.alloc (.cells #[.bool false, .slice (some ⟨b5, o5, none⟩) 1 c5] 29) := ⟨_, rfl⟩
  have k6 : Below w5.heap.size w5 W6 := by rw [hW6]; exact bel1 _ _
  have hbx : Blk W6 w5.heap.size 29 #[.bool false, .slice (some ⟨b5, o5, none⟩) 1 c5] := by rw [hW6]; exact Blk.new _ _ _
  have H16 := Lib.hid ((H14.out.next k5).next k6)
  have H36 := Lib.hid ((H34.out.next k5).next k6)
  have H46 := Lib.hid ((H44.out.next k5).next k6)
  have H56 := Lib.hid (h5.next k6)
  have J06 := Lib.hid (show At W6 w5.heap.size 0 (.bool false) from ⟨hbx.lt, bx0 hbx⟩)
  have J16 := Lib.hid (show At W6 w5.heap.size 1 (.slice (some ⟨b5, o5, none⟩) 1 c5) from ⟨hbx.lt, bx1 hbx⟩)
  have k56 := k5.trans (k6.mono k5.size)
  have K6 := Lib.hid (K4.out.trans (k56.mono K4.out.size))
  have HW6 := Lib.hid hW6
  clear h5 k5 k6 k56 hbx hW6
  go_upto_region 6 with fail
  rw [← HW6.out]
  clear HW6
  go_wp2_with fail
  refine (jd_aw W6).mono ?_
  rintro r w7 ⟨b7, o7, c7, rfl, h7, k7⟩
  obtain ⟨W8, hW8⟩ : ∃ W8, W8 = w7.alloc (.cells #[.bool false, .slice (some ⟨b7, o7, none⟩) 1 c7] 29) := ⟨_, rfl⟩
  have k8 : Below w7.heap.size w7 W8 := by rw [hW8]; exact bel1 _ _
  have hbx : Blk W8 w7.heap.size 29 #[.bool false, .slice (some ⟨b7, o7, none⟩) 1 c7] := by rw [hW8]; exact Blk.new _ _ _
  have K78 := Lib.hid (K6.out.trans ((k7.trans (k8.mono k7.size)).mono K6.out.size))
  have l1 := ((H16.out.next k7).next k8).2
  have l3 := ((H36.out.next k7).next k8).2
  have l4 := ((H46.out.next k7).next k8).2
  have l5 := ((H56.out.next k7).next k8).2
  have l6 := ((J06.out.next k7).next k8).2
  have l7 := ((J16.out.next k7).next k8).2
  have l8 := bx0 hbx
  have l9 := bx1 hbx
  have HW8 := Lib.hid hW8
  clear h7 k7 k8 hbx hW8
  go_upto_region 7 with fail
  rw [← HW8.out]
  clear HW8
  go_wp2_with fail
  refine (wi_aw W8).mono ?_
  rintro r w9 ⟨rfl, k9⟩
  have K9 := Lib.hid (K78.out.trans (k9.mono K78.out.size))
  clear k9 l1 l3 l4 l5 l6 l7 l8 l9
  go_wp2
  go_ret
  exact ⟨rfl, K9.out⟩
end Go.Proofs.Ytfdgbegoaaihoaa
