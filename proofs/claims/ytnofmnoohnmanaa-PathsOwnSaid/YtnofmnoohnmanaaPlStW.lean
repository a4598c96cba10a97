/- PathsSteps: the walk. -/
import Derived.Test.YtnofmnoohnmanaaPlEnW
namespace Go.Proofs.Ytnofmnoohnmanaa
open Go.RowKit
set_option linter.unusedVariables false
set_option linter.unusedSimpArgs false

theorem with_one' (x : Pl) (s : ByteArray) (W : World) (hx : PlOk W W.heap.size x) (hl : x.path.length ≤ 1000) (hs : s.size ≤ maxLen) :
    Calls Try.prog 26 #[.agg #[.string x.name, .slice x.pa x.path.length x.pc], .slice (some ⟨W.heap.size, 0, none⟩) 1 1] (W.alloc (.cells #[.string s] 9)) (PlNew (W.alloc (.cells #[.string s] 9)) x.name (x.path ++ [s])) :=
  with_new x [s] _ 1 1 _ (hx.next ((Below.refl _ _).alloc (Nat.le_refl _) _)) (by omega) rfl (by omega) (rd_str1 W s) (by simpa using hs)
def St (w8 : World) (g2 g3 : Nat) (a b : Pl) (W : World) : Prop :=
  W.cell? ⟨g2, 0, none⟩ = some (.string a.name) ∧ W.cell? ⟨g2, 1, none⟩ = some (.slice a.pa a.path.length a.pc) ∧ W.cell? ⟨g3, 0, none⟩ = some (.string b.name) ∧ W.cell? ⟨g3, 1, none⟩ = some (.slice b.pa b.path.length b.pc) ∧ AwOld w8 W
theorem st_old {w8 W : World} {p1 p2 p3 p4 : Prop} (h : p1 ∧ p2 ∧ p3 ∧ p4 ∧ AwOld w8 W) : Below w8.heap.size w8 W := h.2.2.2.2
theorem St.step {w8 W W' : World} {g2 g3 : Nat} {a b : Pl} (hg : g2 < w8.heap.size ∧ g3 < w8.heap.size) (h : St w8 g2 g3 a b W) (hb : Below W.heap.size W W') : St w8 g2 g3 a b W' := by
  obtain ⟨h1, h2, h3, h4, h8⟩ := h
  obtain ⟨k1, k2⟩ := hg
  have hs := Below.size h8
  exact ⟨cell_of_below hb (by omega) h1, cell_of_below hb (by omega) h2, cell_of_below hb (by omega) h3, cell_of_below hb (by omega) h4, Below.trans h8 (hb.mono hs)⟩
set_option maxHeartbeats 12800000 in
set_option maxRecDepth 100000 in
theorem pathsSteps_walk (x0 : Pl) (A1 : Option Addr) (c1 : Nat) (S1 : List ByteArray) (a2 a3 : ByteArray) (w : World) (g0 : PlOk w w.heap.size x0) (rd1 : Rd w w.heap.size 1 strC A1 S1) (g1 : ∀ s ∈ S1, s.size ≤ maxLen) (hc1 : S1.length ≤ c1) (hm1 : c1 ≤ maxLen) (i2 : a2.size ≤ maxLen) (i3 : a3.size ≤ maxLen) :
    Calls Try.prog 6 #[.agg #[.string x0.name, .slice x0.pa x0.path.length x0.pc], .slice A1 S1.length c1, .string a2, .string a3] w fun r w' => r = .returned (.bool true) ∧ Below w.heap.size w w' := by
  obtain ⟨W0, hW0⟩ : ∃ W0, W0 = w.alloc (.cells #[.string x0.name, .slice x0.pa x0.path.length x0.pc] 24) := ⟨_, rfl⟩
  have hb0 : Below w.heap.size w W0 := by rw [hW0]; exact (Below.refl _ _).alloc (Nat.le_refl _) _
  have hk0 : Blk W0 w.heap.size 24 #[.string x0.name, .slice x0.pa x0.path.length x0.pc] := by rw [hW0]; exact Blk.new _ _ _
  obtain ⟨lb, hlb⟩ : ∃ b, longB x0 = b := ⟨_, rfl⟩
  have hx0 := g0.next hb0
  have HX0 := Lib.hid hx0
  have HL := Lib.hid (long_bool x0 hlb W0 hx0)
  have HK0 := Lib.hid hk0
  have KB := Lib.hid hb0
  have HW := Lib.hid hW0
  have c0a := bx0 hk0
  have c0b := bx1 hk0
  obtain ⟨ls, hls⟩ : ∃ n, S1.length = n := ⟨_, rfl⟩
  have HLS := Lib.hid hls
  have HRD := Lib.hid ((rd1.below hb0).more hb0.size)
  have HG1 := Lib.hid g1
  have HI2 := Lib.hid i2
  have HI3 := Lib.hid i3
  have hlm : ls ≤ 9223372036854775807 := by unfold maxLen at hm1; omega
  rw [hls]
  cases lb with
  | true =>
    clear g0 rd1 g1 hc1 hm1 i2 i3 hlb hb0 hk0 hx0 hls
    go_enter Try.func6, Try.ntmps6
    go_upto_region 1 with fail
    rw [← HW.out]
    clear hW0 HW
    go_wp2_with fail
    refine HL.out.mono ?_
    rintro r w1 ⟨rfl, h1⟩
    have K1 := Lib.hid (KB.out.trans (h1.mono KB.out.size))
    clear h1 c0a c0b
    go_wp2_with fail
    refine (awake_yes _).mono ?_
    rintro r w2 ⟨rfl, h2⟩
    have K2 := Lib.hid (K1.out.trans (h2.mono K1.out.size))
    clear h2
    go_wp2
    go_ret
    exact ⟨rfl, K2.out⟩
  | false =>
    have hl0 : x0.path.length ≤ 1000 := Nat.le_trans (longB_no hlb).1 (by omega)
    have HP0 := Lib.hid hl0
    by_cases h20 : 20 < ls
    · have d20 : (20 : Int) < (ls : Int) := by omega
      clear g0 rd1 g1 hc1 hm1 i2 i3 hlb hb0 hk0 hx0 hls hl0
      go_enter Try.func6, Try.ntmps6
      go_upto_region 1 with fail
      rw [← HW.out]
      clear hW0 HW
      go_wp2_with fail
      refine HL.out.mono ?_
      rintro r w1 ⟨rfl, h1⟩
      have K1 := Lib.hid (KB.out.trans (h1.mono KB.out.size))
      clear h1 c0a c0b
      go_wp2_with fail
      refine (awake_yes _).mono ?_
      rintro r w2 ⟨rfl, h2⟩
      have K2 := Lib.hid (K1.out.trans (h2.mono K1.out.size))
      clear h2
      go_wp2
      go_ret
      exact ⟨rfl, K2.out⟩
    · have d20 : ¬ (20 : Int) < (ls : Int) := by omega
      obtain ⟨es, hes⟩ : ∃ e, ((ls : Int) == 0) = e := ⟨_, rfl⟩
      have HES := Lib.hid (show decide (S1 = []) = es by
        rw [← hes, ← hls, Bool.eq_iff_iff, decide_eq_true_iff, beq_iff_eq, ← List.length_eq_zero_iff]; omega)
      obtain ⟨eo, heo⟩ : ∃ e, (a2.toList == a3.toList) = e := ⟨_, rfl⟩
      have HEO := Lib.hid (show decide (a2 = a3) = eo by
        rw [← heo, Bool.eq_iff_iff, decide_eq_true_iff, beq_iff_eq]
        exact ⟨fun h => by rw [h], str_eq_of⟩)
      have hee : (es != es) = false := by cases es <;> rfl
      clear g0 rd1 g1 hc1 hm1 i2 i3 hlb hb0 hk0 hx0 hls hl0
      go_enter Try.func6, Try.ntmps6
      go_upto_region 1 with fail
      rw [← HW.out]
      clear hW0 HW
      go_wp2_with fail
      refine HL.out.mono ?_
      rintro r w1 ⟨rfl, h1⟩
      clear c0a c0b
      have Kx0_1 := Lib.hid (Blk.below HK0.out h1 HK0.out.lt)
      have Xx0_1 := Lib.hid (HX0.out.next h1)
      have HR1 := Lib.hid ((HRD.out.below h1).more h1.size)
      have B1 := Lib.hid (KB.out.trans (h1.mono KB.out.size))
      clear h1
      have x0a := bx0 Kx0_1.out
      have x0b := bx1 Kx0_1.out
      go_wp2_with fail
      refine (with_new x0 S1 A1 ls c1 _ Xx0_1.out (Nat.le_trans HP0.out (by omega)) HLS.out (by omega) HR1.out HG1.out).mono ?_
      rintro r u2 ⟨q, rfl, hk, hok, _, h2⟩
      have KEYq := Lib.hid hk
      obtain ⟨V2, hV2⟩ : ∃ V, V = u2.alloc (.cells #[.string q.name, .slice q.pa q.path.length q.pc] 24) := ⟨_, rfl⟩
      have h3 : Below u2.heap.size u2 V2 := by rw [hV2]; exact (Below.refl _ _).alloc (Nat.le_refl _) _
      have h4 := h2.trans (h3.mono h2.size)
      have Kq_2 := Lib.hid (show Blk V2 u2.heap.size 24 #[.string q.name, .slice q.pa q.path.length q.pc] by rw [hV2]; exact Blk.new _ _ _)
      have Xq_2 := Lib.hid (hok.next h3)
      have HV2 := Lib.hid hV2
      have Kx0_2 := Lib.hid (Blk.below Kx0_1.out h4 Kx0_1.out.lt)
      have Xx0_2 := Lib.hid (Xx0_1.out.next h4)
      have HR2 := Lib.hid ((HR1.out.below h4).more h4.size)
      have B2 := Lib.hid (B1.out.trans (h4.mono B1.out.size))
      clear hk hok h2 h3 h4 hV2
      clear x0a x0b
      have x0a := bx0 Kx0_2.out
      have x0b := bx1 Kx0_2.out
      have qa := bx0 Kq_2.out
      have qb := bx1 Kq_2.out
      go_upto_region 4 with fail
      rw [← HV2.out]
      clear HV2
      go_wp2_with fail
      refine (with_one' x0 a2 _ Xx0_2.out HP0.out HI2.out).mono ?_
      rintro r u3 ⟨a, rfl, hk, hok, _, h2'⟩
      have h2 := (Below.trans ((Below.refl _ _).alloc (Nat.le_refl _) _) (h2'.mono (by simp)) : Below V2.heap.size V2 u3)
      clear h2'
      have KEYa := Lib.hid hk
      obtain ⟨V3, hV3⟩ : ∃ V, V = u3.alloc (.cells #[.string a.name, .slice a.pa a.path.length a.pc] 24) := ⟨_, rfl⟩
      have h3 : Below u3.heap.size u3 V3 := by rw [hV3]; exact (Below.refl _ _).alloc (Nat.le_refl _) _
      have h4 := h2.trans (h3.mono h2.size)
      have Ka_3 := Lib.hid (show Blk V3 u3.heap.size 24 #[.string a.name, .slice a.pa a.path.length a.pc] by rw [hV3]; exact Blk.new _ _ _)
      have Xa_3 := Lib.hid (hok.next h3)
      have HV3 := Lib.hid hV3
      have Kx0_3 := Lib.hid (Blk.below Kx0_2.out h4 Kx0_2.out.lt)
      have Xx0_3 := Lib.hid (Xx0_2.out.next h4)
      have Kq_3 := Lib.hid (Blk.below Kq_2.out h4 Kq_2.out.lt)
      have Xq_3 := Lib.hid (Xq_2.out.next h4)
      have HR3 := Lib.hid ((HR2.out.below h4).more h4.size)
      have B3 := Lib.hid (B2.out.trans (h4.mono B2.out.size))
      clear hk hok h2 h3 h4 hV3
      clear x0a x0b qa qb
      have x0a := bx0 Kx0_3.out
      have x0b := bx1 Kx0_3.out
      have qa := bx0 Kq_3.out
      have qb := bx1 Kq_3.out
      have aa := bx0 Ka_3.out
      have ab := bx1 Ka_3.out
      go_upto_region 5 with fail
      rw [← HV3.out]
      clear HV3
      go_wp2_with fail
      refine (with_one' x0 a3 _ Xx0_3.out HP0.out HI3.out).mono ?_
      rintro r u4 ⟨b, rfl, hk, hok, _, h2'⟩
      have h2 := (Below.trans ((Below.refl _ _).alloc (Nat.le_refl _) _) (h2'.mono (by simp)) : Below V3.heap.size V3 u4)
      clear h2'
      have KEYb := Lib.hid hk
      obtain ⟨V4, hV4⟩ : ∃ V, V = u4.alloc (.cells #[.string b.name, .slice b.pa b.path.length b.pc] 24) := ⟨_, rfl⟩
      have h3 : Below u4.heap.size u4 V4 := by rw [hV4]; exact (Below.refl _ _).alloc (Nat.le_refl _) _
      have h4 := h2.trans (h3.mono h2.size)
      have Kb_4 := Lib.hid (show Blk V4 u4.heap.size 24 #[.string b.name, .slice b.pa b.path.length b.pc] by rw [hV4]; exact Blk.new _ _ _)
      have Xb_4 := Lib.hid (hok.next h3)
      have HV4 := Lib.hid hV4
      have Kx0_4 := Lib.hid (Blk.below Kx0_3.out h4 Kx0_3.out.lt)
      have Xx0_4 := Lib.hid (Xx0_3.out.next h4)
      have Kq_4 := Lib.hid (Blk.below Kq_3.out h4 Kq_3.out.lt)
      have Xq_4 := Lib.hid (Xq_3.out.next h4)
      have Ka_4 := Lib.hid (Blk.below Ka_3.out h4 Ka_3.out.lt)
      have Xa_4 := Lib.hid (Xa_3.out.next h4)
      have HR4 := Lib.hid ((HR3.out.below h4).more h4.size)
      have B4 := Lib.hid (B3.out.trans (h4.mono B3.out.size))
      clear hk hok h2 h3 h4 hV4
      clear x0a x0b qa qb aa ab
      have x0a := bx0 Kx0_4.out
      have x0b := bx1 Kx0_4.out
      have qa := bx0 Kq_4.out
      have qb := bx1 Kq_4.out
      have aa := bx0 Ka_4.out
      have ab := bx1 Ka_4.out
      have ba := bx0 Kb_4.out
      have bb := bx1 Kb_4.out
      go_upto_region 6 with fail
      rw [← HV4.out]
      clear HV4
      have HQ := Lib.hid (show q.key = withK x0.key S1 from KEYq.out)
      have HA := Lib.hid (show a.key = withK x0.key [a2] from KEYa.out)
      have HBk := Lib.hid (show b.key = withK x0.key [a3] from KEYb.out)
      go_wp2_with fail
      refine (beg_bool x0 q (b := true) (by rw [HQ.out]; exact beg_with _ _) _ Xx0_4.out Xq_4.out).mono ?_
      rintro r V5 ⟨rfl, h4⟩
      have Kx0_5 := Lib.hid (Blk.below Kx0_4.out h4 Kx0_4.out.lt)
      have Xx0_5 := Lib.hid (Xx0_4.out.next h4)
      have Kq_5 := Lib.hid (Blk.below Kq_4.out h4 Kq_4.out.lt)
      have Xq_5 := Lib.hid (Xq_4.out.next h4)
      have Ka_5 := Lib.hid (Blk.below Ka_4.out h4 Ka_4.out.lt)
      have Xa_5 := Lib.hid (Xa_4.out.next h4)
      have Kb_5 := Lib.hid (Blk.below Kb_4.out h4 Kb_4.out.lt)
      have Xb_5 := Lib.hid (Xb_4.out.next h4)
      have HR5 := Lib.hid ((HR4.out.below h4).more h4.size)
      have B5 := Lib.hid (B4.out.trans (h4.mono B4.out.size))
      clear h4
      clear x0a x0b qa qb aa ab ba bb
      have x0a := bx0 Kx0_5.out
      have x0b := bx1 Kx0_5.out
      have qa := bx0 Kq_5.out
      have qb := bx1 Kq_5.out
      have aa := bx0 Ka_5.out
      have ab := bx1 Ka_5.out
      have ba := bx0 Kb_5.out
      have bb := bx1 Kb_5.out
      go_wp2_with fail
      refine (meets_bool x0 q (b := true) (by rw [HQ.out]; exact meet_with _ _) _ Xx0_5.out Xq_5.out).mono ?_
      rintro r V6 ⟨rfl, h4⟩
      have Kx0_6 := Lib.hid (Blk.below Kx0_5.out h4 Kx0_5.out.lt)
      have Xx0_6 := Lib.hid (Xx0_5.out.next h4)
      have Kq_6 := Lib.hid (Blk.below Kq_5.out h4 Kq_5.out.lt)
      have Xq_6 := Lib.hid (Xq_5.out.next h4)
      have Ka_6 := Lib.hid (Blk.below Ka_5.out h4 Ka_5.out.lt)
      have Xa_6 := Lib.hid (Xa_5.out.next h4)
      have Kb_6 := Lib.hid (Blk.below Kb_5.out h4 Kb_5.out.lt)
      have Xb_6 := Lib.hid (Xb_5.out.next h4)
      have HR6 := Lib.hid ((HR5.out.below h4).more h4.size)
      have B6 := Lib.hid (B5.out.trans (h4.mono B5.out.size))
      clear h4
      clear x0a x0b qa qb aa ab ba bb
      have x0a := bx0 Kx0_6.out
      have x0b := bx1 Kx0_6.out
      have qa := bx0 Kq_6.out
      have qb := bx1 Kq_6.out
      have aa := bx0 Ka_6.out
      have ab := bx1 Ka_6.out
      have ba := bx0 Kb_6.out
      have bb := bx1 Kb_6.out
      go_wp2_with fail
      refine (meets_bool q x0 (b := true) (by rw [HQ.out, meetB_comm]; exact meet_with _ _) _ Xq_6.out Xx0_6.out).mono ?_
      rintro r V7 ⟨rfl, h4⟩
      have Kx0_7 := Lib.hid (Blk.below Kx0_6.out h4 Kx0_6.out.lt)
      have Xx0_7 := Lib.hid (Xx0_6.out.next h4)
      have Kq_7 := Lib.hid (Blk.below Kq_6.out h4 Kq_6.out.lt)
      have Xq_7 := Lib.hid (Xq_6.out.next h4)
      have Ka_7 := Lib.hid (Blk.below Ka_6.out h4 Ka_6.out.lt)
      have Xa_7 := Lib.hid (Xa_6.out.next h4)
      have Kb_7 := Lib.hid (Blk.below Kb_6.out h4 Kb_6.out.lt)
      have Xb_7 := Lib.hid (Xb_6.out.next h4)
      have HR7 := Lib.hid ((HR6.out.below h4).more h4.size)
      have B7 := Lib.hid (B6.out.trans (h4.mono B6.out.size))
      clear h4
      clear x0a x0b qa qb aa ab ba bb
      have x0a := bx0 Kx0_7.out
      have x0b := bx1 Kx0_7.out
      have qa := bx0 Kq_7.out
      have qb := bx1 Kq_7.out
      have aa := bx0 Ka_7.out
      have ab := bx1 Ka_7.out
      have ba := bx0 Kb_7.out
      have bb := bx1 Kb_7.out
      go_wp2_with fail
      refine (beg_bool q x0 (b := es) (by rw [HQ.out, with_beg]; exact HES.out) _ Xq_7.out Xx0_7.out).mono ?_
      rintro r V8 ⟨rfl, h4⟩
      have Kx0_8 := Lib.hid (Blk.below Kx0_7.out h4 Kx0_7.out.lt)
      have Xx0_8 := Lib.hid (Xx0_7.out.next h4)
      have Kq_8 := Lib.hid (Blk.below Kq_7.out h4 Kq_7.out.lt)
      have Xq_8 := Lib.hid (Xq_7.out.next h4)
      have Ka_8 := Lib.hid (Blk.below Ka_7.out h4 Ka_7.out.lt)
      have Xa_8 := Lib.hid (Xa_7.out.next h4)
      have Kb_8 := Lib.hid (Blk.below Kb_7.out h4 Kb_7.out.lt)
      have Xb_8 := Lib.hid (Xb_7.out.next h4)
      have HR8 := Lib.hid ((HR7.out.below h4).more h4.size)
      have B8 := Lib.hid (B7.out.trans (h4.mono B7.out.size))
      clear h4
      clear x0a x0b qa qb aa ab ba bb
      have x0a := bx0 Kx0_8.out
      have x0b := bx1 Kx0_8.out
      have qa := bx0 Kq_8.out
      have qb := bx1 Kq_8.out
      have aa := bx0 Ka_8.out
      have ab := bx1 Ka_8.out
      have ba := bx0 Kb_8.out
      have bb := bx1 Kb_8.out
      go_wp2_with fail
      refine (same_bool x0 q (b := es) (by rw [HQ.out, same_with]; exact HES.out) _ Xx0_8.out Xq_8.out).mono ?_
      rintro r V9 ⟨rfl, h4⟩
      have Kx0_9 := Lib.hid (Blk.below Kx0_8.out h4 Kx0_8.out.lt)
      have Xx0_9 := Lib.hid (Xx0_8.out.next h4)
      have Kq_9 := Lib.hid (Blk.below Kq_8.out h4 Kq_8.out.lt)
      have Xq_9 := Lib.hid (Xq_8.out.next h4)
      have Ka_9 := Lib.hid (Blk.below Ka_8.out h4 Ka_8.out.lt)
      have Xa_9 := Lib.hid (Xa_8.out.next h4)
      have Kb_9 := Lib.hid (Blk.below Kb_8.out h4 Kb_8.out.lt)
      have Xb_9 := Lib.hid (Xb_8.out.next h4)
      have HR9 := Lib.hid ((HR8.out.below h4).more h4.size)
      have B9 := Lib.hid (B8.out.trans (h4.mono B8.out.size))
      clear h4
      clear x0a x0b qa qb aa ab ba bb
      have x0a := bx0 Kx0_9.out
      have x0b := bx1 Kx0_9.out
      have qa := bx0 Kq_9.out
      have qb := bx1 Kq_9.out
      have aa := bx0 Ka_9.out
      have ab := bx1 Ka_9.out
      have ba := bx0 Kb_9.out
      have bb := bx1 Kb_9.out
      clear x0a x0b qa qb
      go_upto_region 8 with fail
      have HG := Lib.hid (show u3.heap.size < V9.heap.size ∧ u4.heap.size < V9.heap.size from ⟨Ka_9.out.lt, Kb_9.out.lt⟩)
      have hS0 : St V9 u3.heap.size u4.heap.size a b V9.drew := ⟨aa, ab, ba, bb, (Below.refl _ _).drew⟩
      unfold St at hS0
      have HAB := Lib.hid (show meetB a.key b.key = eo by rw [HA.out, HBk.out, meet_two]; exact HEO.out)
      have HAC := Lib.hid (show ∀ y : Pl, y.key = (a.name, a.path ++ S1) → meetB y.key b.key = eo from fun y hy => by
        have e : y.key = withK a.key S1 := hy
        rw [e, HA.out, HBk.out, meet_steps]; exact HEO.out)
      have hla : a.path.length ≤ 1000000 := by
        have h1 := congrArg (fun k : PKey => k.2.length) KEYa.out
        have h2 := HP0.out
        simp [Pl.key] at h1
        omega
      have hs6 : ls ≤ 1000000 := by omega
      have HXA := Lib.hid Xa_9.out
      have HXB := Lib.hid Xb_9.out
      clear aa ab ba bb
      cases eo
      all_goals
        go_region_held3 (fun W => W.cell? ⟨u3.heap.size, 0, none⟩ = some (.string a.name) ∧ W.cell? ⟨u3.heap.size, 1, none⟩ = some (.slice a.pa a.path.length a.pc) ∧ W.cell? ⟨u4.heap.size, 0, none⟩ = some (.string b.name) ∧ W.cell? ⟨u4.heap.size, 1, none⟩ = some (.slice b.pa b.path.length b.pc) ∧ AwOld V9 W) (first | assumption)
          (first
            | (go_at_call 16; (with_reducible refine (meets_bool a b HAB.out _ ?_ ?_).mono ?_); (first | exact HXA.out.next (st_old hSn) | exact HXA.out.next (st_old hS0)); (first | exact HXB.out.next (st_old hSn) | exact HXB.out.next (st_old hS0)); rintro r wn ⟨rfl, hbn⟩; (first | (have hSn := St.step HG.out hSn hbn; unfold St at hSn) | (have hSn := St.step HG.out hS0 hbn; unfold St at hSn)))
            | (go_at_call 26; (with_reducible refine (with_new a S1 A1 ls c1 _ ?_ hla HLS.out hs6 ?_ HG1.out).mono ?_); (first | exact HXA.out.next (st_old hSn)); (first | exact (HR9.out.below (st_old hSn)).more (st_old hSn).size); rintro r wn ⟨y, rfl, hyk, hyok, _, hbn⟩; (first | (have hSn := St.step HG.out hSn hbn; unfold St at hSn) | (have hSn := St.step HG.out hS0 hbn; unfold St at hSn)))
            | (go_at_call 16; (with_reducible refine (meets_bool y b (HAC.out y hyk) _ hyok ?_).mono ?_); (first | exact HXB.out.next (st_old hSn)); rintro r wn ⟨rfl, hbn⟩; (first | (have hSn := St.step HG.out hSn hbn; unfold St at hSn) | (have hSn := St.step HG.out hS0 hbn; unfold St at hSn)))
            | (go_at_call 18; (with_reducible refine (awake_yes _).mono ?_); rintro r wn ⟨rfl, hbn⟩; (first | (have hSn := St.step HG.out hSn hbn; unfold St at hSn) | (have hSn := St.step HG.out hS0 hbn; unfold St at hSn))))
        have BF := Lib.hid (B9.out.trans ((st_old hSn).mono B9.out.size))
        clear hSn hS0
        go_wp2
        go_ret
        exact ⟨rfl, BF.out⟩
end Go.Proofs.Ytnofmnoohnmanaa

