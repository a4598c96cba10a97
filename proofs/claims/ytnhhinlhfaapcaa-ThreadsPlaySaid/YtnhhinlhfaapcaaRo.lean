/- Threads: the document's Open. -/
import Derived.Test.YtnhhinlhfaapcaaRp
namespace Go.Proofs.Ytnhhinlhfaapcaa
open Go.RowKit
set_option linter.unusedVariables false
set_option linter.unusedSimpArgs false

def rOpnR (R : RTab) (i : Nat) : RTab := rset (rset R i { R.th i with opened := (R.th i).opened + 1 }) i { R.th i with opened := (R.th i).opened + 1, opn := (R.th i).opn ++ [(R.th i).opened + 1] }
def rOpn (R : RTab) (n : Int) : RTab := if (rat R n).ended then R else rOpnR R n.toNat
def updO (O : Nat → Value) (i : Nat) (v : Value) : Nat → Value := fun k => if k = i then v else O k
theorem own_e1 (U : World) (b : Nat) (hb : b ≤ U.heap.size) : (U.alloc (.cells #[] 3)).ownsRow b 3 1 (.slice (some ⟨U.heap.size, 0, none⟩) 0 0) 0 [] := by
  have h := World.ownsRow_lit (base := b) (e := 3) (size := 1) U #[] 0 hb (by unfold maxLen; omega) rfl
  exact h
theorem own_e3 (U : World) (b : Nat) (hb : b ≤ U.heap.size) (o : Obj) : ((U.alloc o).alloc (.cells #[] 3)).ownsRow b 3 1 (.slice (some ⟨U.heap.size + 1, 0, none⟩) 0 0) 0 [] := by
  have h := own_e1 (U.alloc o) b (by simp; omega)
  rw [World.size_alloc] at h
  exact h
theorem hq_b {w1 w2 : World} {op : Value} (hg : ((w1.drew.alloc (.cells #[] 3)).alloc (.cells #[op] 3)).grownBy w2 (Value.slice (some ⟨w1.heap.size, 0, none⟩) 0 0).ownBlock) : ∀ j u, [op][j]? = some u → w2.cell? ((⟨w1.heap.size + 1, 0, none⟩ : Addr).add j) = some u := by
  intro j u hu
  have h := Blk.new (w1.drew.alloc (.cells #[] 3)) 3 #[op]
  rw [World.size_alloc] at h
  have h2 := Blk.grown h hg (by simp [Value.ownBlock])
  rw [Addr.add_lit, Nat.zero_add]
  have h3 := h2.cell j
  rw [show w1.drew.heap.size = w1.heap.size from rfl] at h3
  rw [h3, ← Array.getElem?_toList]
  exact hu
theorem hq_c {w1 w2 : World} {op : Value} (hg : ((w1.drew.alloc (.cells #[op] 3)).alloc (.cells #[] 3)).grownBy w2 (Value.slice (some ⟨w1.heap.size + 1, 0, none⟩) 0 0).ownBlock) : ∀ j u, [op][j]? = some u → w2.cell? ((⟨w1.heap.size, 0, none⟩ : Addr).add j) = some u := by
  intro j u hu
  have h := (Blk.new w1.drew 3 #[op]).alloc (.cells #[] 3)
  have h2 := Blk.grown h hg (by simp [Value.ownBlock])
  rw [Addr.add_lit, Nat.zero_add]
  have h3 := h2.cell j
  rw [show w1.drew.heap.size = w1.heap.size from rfl] at h3
  rw [h3, ← Array.getElem?_toList]
  exact hu
theorem opn_store {W w' : World} {B g gl cl i m : Nat} {O : Nat → Value} {R : RTab} {nv : Value} {ys : List Nat} (hx : RTabX W B g (.slice (some ⟨gl, 0, none⟩) R.n cl) O R) (hi : i < R.n) (hm : m = W.heap.size) (hb : Below m W w') (hown : w'.ownsRow m 3 1 nv ys.length (ys.map natV)) :
    RLeft W B g O R (rset R i { R.th i with opn := ys }) (w'.setCell ⟨gl, i * 6 + 5, none⟩ nv) ∧ w'.cell? ⟨gl, i * 6 + 5, none⟩ = some (O i) ∧ w'.frozen? ⟨gl, i * 6 + 5, none⟩ = false := by
  subst hm
  have hBw : B ≤ W.heap.size := Nat.le_trans hx.hB (Nat.le_of_lt hx.blk.lt)
  have hx' := hx.below hb
  have hst := hx'.store (R' := rset R i { R.th i with opn := ys }) (O' := updO O i nv) (j := 5) (u := nv) hi (by omega) rfl (fun k hk => by
    rw [rset_at]
    unfold updO
    split
    · rename_i e; subst e; rfl
    · rfl) (fun k hk => by
    rw [rset_at]
    unfold updO
    split
    · exact own_base hown hBw
    · exact hx'.oi k hk)
  refine ⟨⟨_, ⟨_, hst⟩, (hb.mono hBw).setCell (p := ⟨gl, i * 6 + 5, none⟩) (hx.ol.lt gl rfl).1 nv, (KeepR.below hb).trans (KeepR.set_ hx'.tl (.inl rfl)), fun q hq => ?_⟩, (hx'.cells hi).2.2.2.2.2, hx'.ol.frozenAt _⟩
  obtain ⟨k, hk, e⟩ := hq
  unfold updO at e
  split at e
  · exact .inr (hown.lt q e).1
  · exact .inl ⟨k, hk, e⟩
theorem RLeft.trans_ {w w1 w2 : World} {B g : Nat} {O : Nat → Value} {R R1 R2 : RTab} (h0 : Below B w w1) (hk : KeepR w w1) (hn : R1.n = R.n) (hs : w.heap.size ≤ w1.heap.size) (h : RLeft w1 B g O R1 R2 w2) : RLeft w B g O R R2 w2 := by
  obtain ⟨O', a, b, c, d⟩ := h
  refine ⟨O', a, h0.trans b, hk.trans c, fun q hq => ?_⟩
  rcases d q hq with ⟨i, hi, e⟩ | h
  · exact .inl ⟨i, by omega, e⟩
  · exact .inr (by omega)
set_option maxRecDepth 100000 in
set_option maxHeartbeats 12000000 in
theorem r_open (g B : Nat) (O : Nat → Value) (R : RTab) (n : Int) (w : World) (h : RTabO w B g O R) (hop : ∀ i, i < R.n → (R.th i).opn.length ≤ 1000 ∧ (R.th i).opened ≤ 1000) :
    Calls Try.prog 24 #[.pointer (some ⟨g, 0, none⟩), .int .i64 n] w fun r w' => r = .returned (.int .i64 (if (rat R n).ended then 2 else 0)) ∧ RLeft w B g O R (rOpn R n) w' := by
  have HR := Lib.hid (r_runs g B O R n w h)
  cases he : (rat R n).ended
  rotate_left
  · have HL := Lib.hid (show RLeft w B g O R (rOpn R n) w by unfold rOpn; rw [he]; exact RLeft.same h (Below.refl _ _))
    rw [he] at HR
    clear h he hop
    go_enter Try.func24, Try.ntmps24
    go_wp2_with fail
    refine HR.out.mono ?_
    rintro r w1 ⟨rfl, rfl⟩
    go_wp2
    go_ret
    exact ⟨rfl, HL.out⟩
  · rw [he] at HR
    obtain ⟨i, rfl, hi, _⟩ := r_no he
    have HT := Lib.hid (show rOpn R i = rOpnR R i by unfold rOpn; rw [he]; rfl)
    rw [HT.out]
    obtain ⟨hop1, hop2⟩ := hop i hi
    obtain ⟨i0, hi0, hz0, hz1, hz2⟩ := info_parts info3
    have hBw := h.hBw
    obtain ⟨v, hx⟩ := h
    obtain ⟨gl, cl, rfl⟩ := hx.l
    have c0 := hx.box
    obtain ⟨_, _, _, _, d4, d5⟩ := hx.cells hi
    obtain ⟨A, c, e5⟩ := hx.oform hi
    have fz := hx.ol.frozenAt
    have f4 := fz (i * 6 + 4)
    have hiI : (i : Int) < (R.n : Int) := by omega
    have hii0 : (0 : Int) ≤ (i : Int) := by omega
    obtain ⟨op, hopv⟩ : ∃ x, (R.th i).opened = x := ⟨_, rfl⟩
    have hx1 := hx.stay (x := { R.th i with opened := (R.th i).opened + 1 }) (j := 4) (u := .int .i64 ((op : Int) + 1)) hi (by omega) rfl (by rw [← hopv]; rfl)
    rw [hopv] at d4 hop2
    obtain ⟨w1, hw1⟩ : ∃ w1, w1 = w.setCell ⟨gl, i * 6 + 4, none⟩ (.int .i64 ((op : Int) + 1)) := ⟨_, rfl⟩
    rw [← hw1] at hx1
    obtain ⟨R1, hR1⟩ : ∃ R1, R1 = rset R i { R.th i with opened := (R.th i).opened + 1 } := ⟨_, rfl⟩
    have hn1 : R1.n = R.n := by rw [hR1]; rfl
    have hth : R1.th i = { R.th i with opened := op + 1 } := by rw [hR1, rset_at, if_pos rfl, hopv]
    have hx1 : RTabX w1 B g (.slice (some ⟨gl, 0, none⟩) R1.n cl) O R1 := by rw [hn1, hR1]; exact hx1
    have hgl := (hx.ol.lt gl rfl).1
    have HB1 := Lib.hid (show Below B w w1 by rw [hw1]; exact (Below.refl B w).setCell (p := ⟨gl, i * 6 + 4, none⟩) hgl _)
    have HK1 := Lib.hid (show KeepR w w1 by rw [hw1]; exact KeepR.set_ hx.tl (.inl rfl))
    have HX1 := Lib.hid hx1
    have hi1 : i < R1.n := by rw [hn1]; exact hi
    have HI1 := Lib.hid hi1
    have c0b := hx1.box
    obtain ⟨_, _, _, _, q4, q5⟩ := hx1.cells hi1
    rw [hth] at q4
    replace q4 : w1.cell? ⟨gl, i * 6 + 4, none⟩ = some (.int .i64 ((op : Int) + 1)) := q4
    obtain ⟨ys, hys⟩ : ∃ ys, (R.th i).opn = ys := ⟨_, rfl⟩
    obtain ⟨ln, hln⟩ : ∃ x, ys.length = x := ⟨_, rfl⟩
    have ho1 := hx1.oi i hi1
    rw [hth] at ho1
    replace ho1 : w1.ownsRow B 3 1 (O i) (R.th i).opn.length ((R.th i).opn.map natV) := ho1
    have HEO := Lib.hid (show O i = .slice A ln c by rw [e5, hys, hln])
    rw [e5, hys, hln] at ho1
    rw [e5, hys, hln] at q5
    rw [e5, hys, hln] at d5
    rw [hys, hln] at hop1
    rw [hn1] at c0b
    have HSRC := Lib.hid (show ∀ W, Below w1.heap.size w1 W → ((ln = 0 ∧ A = none ∧ c = 0) ∨ ∃ ad, A = some ad ∧ ∀ j u, (ys.map natV)[j]? = some u → W.cell? (ad.add j) = some u) from fun W hb => by
      have ho := own_below ho1 hb
      rcases ho.2 with ⟨h1, h2⟩ | ⟨gm, cap, cur, h1, h3⟩
      · rw [Value.slice.injEq] at h1
        exact .inl ⟨h2, h1.1, h1.2.2⟩
      · have h1' := h1
        rw [Value.slice.injEq] at h1'
        obtain ⟨rfl, _, rfl⟩ := h1'
        refine .inr ⟨_, rfl, fun j u hu => ?_⟩
        have hj : j < ln := by
          have := (List.getElem?_eq_some_iff.1 hu).1
          rw [List.length_map, hln] at this
          exact this
        rw [Addr.add_lit, Nat.zero_add, ho.cellAt j (by omega)]
        exact hu)
    have HFIN := Lib.hid (fun w' nv (hb : Below w1.heap.size w1 w') (hown : w'.ownsRow w1.heap.size 3 1 nv (ys ++ [op + 1]).length ((ys ++ [op + 1]).map natV)) => opn_store HX1.out HI1.out rfl hb hown)
    have HRF := Lib.hid (show rOpnR R i = rset R1 i { R1.th i with opn := ys ++ [op + 1] } by
      unfold rOpnR
      rw [hR1, hys, hopv]
      congr 1
      rw [rset_at, if_pos rfl])
    have HN1 := Lib.hid hn1
    have HSZ := Lib.hid (show w.heap.size ≤ w1.heap.size from HB1.out.size)
    have HW1 := Lib.hid hw1
    have hopI : (op : Int) ≤ 1000 := by omega
    have HLN := Lib.hid hln
    clear hx hx1 hi1 hR1 hth hgl ho1 hys hln he hop hop2 hopv fz hw1 hn1 e5
    go_enter Try.func24, Try.ntmps24
    go_wp2_with fail
    refine HR.out.mono ?_
    rintro r wz ⟨rfl, rfl⟩
    go_upto_region 4 with fail
    rw [← HW1.out]
    have HS := Lib.hid (show ∀ W, Below w1.heap.size w1 W → (W.cell? ⟨g, 0, none⟩ = some (.slice (some ⟨gl, 0, none⟩) R.n cl) ∧ W.cell? ⟨gl, i * 6 + 5, none⟩ = some (.slice A ln c) ∧ W.cell? ⟨gl, i * 6 + 4, none⟩ = some (.int .i64 ((op : Int) + 1)) ∧ Below w1.heap.size w1 W) from fun W hb => ⟨(hb.cell (p := ⟨g, 0, none⟩) HX1.out.blk.lt).trans c0b, (hb.cell (p := ⟨gl, i * 6 + 5, none⟩) HX1.out.tl.lt).trans q5, (hb.cell (p := ⟨gl, i * 6 + 4, none⟩) HX1.out.tl.lt).trans q4, hb⟩)
    have HBA := Lib.hid (fun o => show Below w1.heap.size w1 (w1.drew.alloc o) from (Below.refl _ w1).drew.alloc (Nat.le_refl _) o)
    have HBAA := Lib.hid (fun o o' => show Below w1.heap.size w1 ((w1.drew.alloc o).alloc o') from ((Below.refl _ w1).drew.alloc (Nat.le_refl _) o).alloc (by simp) o')
    have HONE := Lib.hid (show ∀ u ∈ ys.map natV, u.oneCell' = true by
      intro u hu
      obtain ⟨x, _, rfl⟩ := List.mem_map.1 hu
      rfl)
    have HOI := Lib.hid (show O i = .slice A ln c from HEO.out)
    have hS0 := HS.out w1.drew (Below.refl _ w1).drew
    clear c0 c0b d4 d5 q4 q5 f4
    refine wp_region_pre (fun W => W.cell? ⟨g, 0, none⟩ = some (.slice (some ⟨gl, 0, none⟩) R.n cl) ∧ W.cell? ⟨gl, i * 6 + 5, none⟩ = some (.slice A ln c) ∧ W.cell? ⟨gl, i * 6 + 4, none⟩ = some (.int .i64 ((op : Int) + 1)) ∧ Below w1.heap.size w1 W) 27 27 (by kernel_rfl) (by kernel_rfl) ?_
    refine wpPre_take (i := 0) (v := .pointer (some ⟨g, 0, none⟩)) (by simp only [List.getElem?_toArray, List.getElem?_cons_succ, List.getElem?_cons_zero]; rfl) (by kernel_rfl) (by kernel_rfl) (by kernel_rfl) (by kernel_rfl) (by exact fun _ _ _ h => h) hS0 (by rfl) (fun W hS => ?_) ?_
    · obtain ⟨s1, s2, s3, s4⟩ := hS
      go_simp
    try go_frame
    refine wpPre_take (i := 1) (v := .pointer (some ⟨g, 0, none⟩)) (by simp only [List.getElem?_toArray, List.getElem?_cons_succ, List.getElem?_cons_zero]; rfl) (by kernel_rfl) (by kernel_rfl) (by kernel_rfl) (by kernel_rfl) (by exact fun _ _ _ h => h) hS0 (by rfl) (fun W hS => ?_) ?_
    · obtain ⟨s1, s2, s3, s4⟩ := hS
      go_simp
    try go_frame
    refine wpPre_take (i := 2) (v := .pointer (some ⟨g, 0, none⟩)) (by simp only [List.getElem?_toArray, List.getElem?_cons_succ, List.getElem?_cons_zero]; rfl) (by kernel_rfl) (by kernel_rfl) (by kernel_rfl) (by kernel_rfl) (by exact fun _ _ _ h => h) hS0 (by rfl) (fun W hS => ?_) ?_
    · obtain ⟨s1, s2, s3, s4⟩ := hS
      go_simp
    try go_frame
    refine wpPre_take (i := 3) (v := .slice (some ⟨gl, 0, none⟩) R.n cl) (by simp only [List.getElem?_toArray, List.getElem?_cons_succ, List.getElem?_cons_zero]; rfl) (by kernel_rfl) (by kernel_rfl) (by kernel_rfl) (by kernel_rfl) (by exact fun _ _ _ h => h) hS0 (by rfl) (fun W hS => ?_) ?_
    · obtain ⟨s1, s2, s3, s4⟩ := hS
      go_simp
    try go_frame
    refine wpPre_take (i := 4) (v := .int .i64 i) (by simp only [List.getElem?_toArray, List.getElem?_cons_succ, List.getElem?_cons_zero]; rfl) (by kernel_rfl) (by kernel_rfl) (by kernel_rfl) (by kernel_rfl) (by exact fun _ _ _ h => h) hS0 (by rfl) (fun W hS => ?_) ?_
    · obtain ⟨s1, s2, s3, s4⟩ := hS
      go_simp
    try go_frame
    refine wpPre_take (i := 6) (v := .pointer (some ⟨g, 0, none⟩)) (by simp only [List.getElem?_toArray, List.getElem?_cons_succ, List.getElem?_cons_zero]; rfl) (by kernel_rfl) (by kernel_rfl) (by kernel_rfl) (by kernel_rfl) (by exact fun _ _ _ h => h) hS0 (by rfl) (fun W hS => ?_) ?_
    · obtain ⟨s1, s2, s3, s4⟩ := hS
      go_simp
    try go_frame
    refine wpPre_take (i := 7) (v := .pointer (some ⟨g, 0, none⟩)) (by simp only [List.getElem?_toArray, List.getElem?_cons_succ, List.getElem?_cons_zero]; rfl) (by kernel_rfl) (by kernel_rfl) (by kernel_rfl) (by kernel_rfl) (by exact fun _ _ _ h => h) hS0 (by rfl) (fun W hS => ?_) ?_
    · obtain ⟨s1, s2, s3, s4⟩ := hS
      go_simp
    try go_frame
    refine wpPre_take (i := 8) (v := .pointer (some ⟨g, 0, none⟩)) (by simp only [List.getElem?_toArray, List.getElem?_cons_succ, List.getElem?_cons_zero]; rfl) (by kernel_rfl) (by kernel_rfl) (by kernel_rfl) (by kernel_rfl) (by exact fun _ _ _ h => h) hS0 (by rfl) (fun W hS => ?_) ?_
    · obtain ⟨s1, s2, s3, s4⟩ := hS
      go_simp
    try go_frame
    refine wpPre_take (i := 9) (v := .slice (some ⟨gl, 0, none⟩) R.n cl) (by simp only [List.getElem?_toArray, List.getElem?_cons_succ, List.getElem?_cons_zero]; rfl) (by kernel_rfl) (by kernel_rfl) (by kernel_rfl) (by kernel_rfl) (by exact fun _ _ _ h => h) hS0 (by rfl) (fun W hS => ?_) ?_
    · obtain ⟨s1, s2, s3, s4⟩ := hS
      go_simp
    try go_frame
    refine wpPre_take (i := 10) (v := .int .i64 i) (by simp only [List.getElem?_toArray, List.getElem?_cons_succ, List.getElem?_cons_zero]; rfl) (by kernel_rfl) (by kernel_rfl) (by kernel_rfl) (by kernel_rfl) (by exact fun _ _ _ h => h) hS0 (by rfl) (fun W hS => ?_) ?_
    · obtain ⟨s1, s2, s3, s4⟩ := hS
      go_simp
    try go_frame
    refine wpPre_take (i := 11) (v := .pointer (some ⟨gl, i * 6, none⟩)) (by simp only [List.getElem?_toArray, List.getElem?_cons_succ, List.getElem?_cons_zero]; rfl) (by kernel_rfl) (by kernel_rfl) (by kernel_rfl) (by kernel_rfl) (by exact fun _ _ _ h => h) hS0 (by rfl) (fun W hS => ?_) ?_
    · obtain ⟨s1, s2, s3, s4⟩ := hS
      go_simp
    try go_frame
    refine wpPre_take (i := 12) (v := .pointer (some ⟨gl, i * 6 + 5, none⟩)) (by simp only [List.getElem?_toArray, List.getElem?_cons_succ, List.getElem?_cons_zero]; rfl) (by kernel_rfl) (by kernel_rfl) (by kernel_rfl) (by kernel_rfl) (by exact fun _ _ _ h => h) hS0 (by rfl) (fun W hS => ?_) ?_
    · obtain ⟨s1, s2, s3, s4⟩ := hS
      go_simp
    try go_frame
    refine wpPre_take (i := 13) (v := .slice A ln c) (by simp only [List.getElem?_toArray, List.getElem?_cons_succ, List.getElem?_cons_zero]; rfl) (by kernel_rfl) (by kernel_rfl) (by kernel_rfl) (by kernel_rfl) (by exact fun _ _ _ h => h) hS0 (by rfl) (fun W hS => ?_) ?_
    · obtain ⟨s1, s2, s3, s4⟩ := hS
      go_simp
    try go_frame
    refine wpPre_take (i := 15) (v := .pointer (some ⟨g, 0, none⟩)) (by simp only [List.getElem?_toArray, List.getElem?_cons_succ, List.getElem?_cons_zero]; rfl) (by kernel_rfl) (by kernel_rfl) (by kernel_rfl) (by kernel_rfl) (by exact fun _ _ _ h => h) hS0 (by rfl) (fun W hS => ?_) ?_
    · obtain ⟨s1, s2, s3, s4⟩ := hS
      go_simp
    try go_frame
    refine wpPre_take (i := 16) (v := .pointer (some ⟨g, 0, none⟩)) (by simp only [List.getElem?_toArray, List.getElem?_cons_succ, List.getElem?_cons_zero]; rfl) (by kernel_rfl) (by kernel_rfl) (by kernel_rfl) (by kernel_rfl) (by exact fun _ _ _ h => h) hS0 (by rfl) (fun W hS => ?_) ?_
    · obtain ⟨s1, s2, s3, s4⟩ := hS
      go_simp
    try go_frame
    refine wpPre_take (i := 17) (v := .pointer (some ⟨g, 0, none⟩)) (by simp only [List.getElem?_toArray, List.getElem?_cons_succ, List.getElem?_cons_zero]; rfl) (by kernel_rfl) (by kernel_rfl) (by kernel_rfl) (by kernel_rfl) (by exact fun _ _ _ h => h) hS0 (by rfl) (fun W hS => ?_) ?_
    · obtain ⟨s1, s2, s3, s4⟩ := hS
      go_simp
    try go_frame
    refine wpPre_take (i := 18) (v := .slice (some ⟨gl, 0, none⟩) R.n cl) (by simp only [List.getElem?_toArray, List.getElem?_cons_succ, List.getElem?_cons_zero]; rfl) (by kernel_rfl) (by kernel_rfl) (by kernel_rfl) (by kernel_rfl) (by exact fun _ _ _ h => h) hS0 (by rfl) (fun W hS => ?_) ?_
    · obtain ⟨s1, s2, s3, s4⟩ := hS
      go_simp
    try go_frame
    refine wpPre_take (i := 19) (v := .int .i64 i) (by simp only [List.getElem?_toArray, List.getElem?_cons_succ, List.getElem?_cons_zero]; rfl) (by kernel_rfl) (by kernel_rfl) (by kernel_rfl) (by kernel_rfl) (by exact fun _ _ _ h => h) hS0 (by rfl) (fun W hS => ?_) ?_
    · obtain ⟨s1, s2, s3, s4⟩ := hS
      go_simp
    try go_frame
    refine wpPre_take (i := 20) (v := .pointer (some ⟨gl, i * 6, none⟩)) (by simp only [List.getElem?_toArray, List.getElem?_cons_succ, List.getElem?_cons_zero]; rfl) (by kernel_rfl) (by kernel_rfl) (by kernel_rfl) (by kernel_rfl) (by exact fun _ _ _ h => h) hS0 (by rfl) (fun W hS => ?_) ?_
    · obtain ⟨s1, s2, s3, s4⟩ := hS
      go_simp
    try go_frame
    refine wpPre_take (i := 21) (v := .pointer (some ⟨gl, i * 6 + 4, none⟩)) (by simp only [List.getElem?_toArray, List.getElem?_cons_succ, List.getElem?_cons_zero]; rfl) (by kernel_rfl) (by kernel_rfl) (by kernel_rfl) (by kernel_rfl) (by exact fun _ _ _ h => h) hS0 (by rfl) (fun W hS => ?_) ?_
    · obtain ⟨s1, s2, s3, s4⟩ := hS
      go_simp
    try go_frame
    refine wpPre_take (i := 22) (v := .int .i64 ((op : Int) + 1)) (by simp only [List.getElem?_toArray, List.getElem?_cons_succ, List.getElem?_cons_zero]; rfl) (by kernel_rfl) (by kernel_rfl) (by kernel_rfl) (by kernel_rfl) (by exact fun _ _ _ h => h) hS0 (by rfl) (fun W hS => ?_) ?_
    · obtain ⟨s1, s2, s3, s4⟩ := hS
      go_simp
    try go_frame
    refine wpPre_two (i := 5) (j := 23) (by kernel_rfl) ?_ ?_
    · refine wpPre_op (by simp only [List.getElem?_toArray, List.getElem?_cons_succ, List.getElem?_cons_zero]; rfl) (fun K hK => ?_) (by rfl)
      go_simp
      refine hK _ _ (HS.out _ (HBA.out _)) ?_
      clear hK K
      try go_frame
      refine wpPre_two (i := 14) (j := 23) (by kernel_rfl) ?_ ?_
      · refine wpPre_op (by simp only [List.getElem?_toArray, List.getElem?_cons_succ, List.getElem?_cons_zero]; rfl) (fun K hK => ?_) (by rfl)
        refine step_app (by rfl) (.tmp 25) (.tmp 33) 29 (by rfl) w1.heap.size 3 i0 (.int .i64 0) 1 8 Try.underlying29 hi0 hz0 hz1 hz2 rfl (by decide) (.slice (some ⟨w1.heap.size, 0, none⟩) 0 0) 0 [] (by simp [Act.eval, Act.put]) (own_e1 w1.drew _ (Nat.le_refl _)) A ln c (ys.map natV) (by simp [Act.eval, Act.put]) (by simp [HLN.out]) (HSRC.out _ (HBA.out _)) HONE.out (by unfold maxLen; omega) (by omega) (by first | (simp; done) | (simp; omega)) ?_
        intro v1 w2 hown1 hg1
        rw [Nat.zero_add, List.nil_append] at hown1
        have hbn := Below.grown (HBA.out _) hg1 (by first | (simp; done) | (simp; omega)) (fun k e => by simp [Value.ownBlock] at e; omega)
        skip
        obtain ⟨A1, c1, rfl⟩ := own_slice hown1
        refine hK _ _ (HS.out _ hbn) ?_
        clear hK K
        try go_frame
        have hS1 := HS.out _ hbn
        refine wpPre_one (i := 23) (by kernel_rfl) ?_
        refine wpPre_op (by simp only [List.getElem?_toArray, List.getElem?_cons_succ, List.getElem?_cons_zero]; rfl) (fun K hK => ?_) (by rfl)
        go_simp
        refine hK _ _ (HS.out _ (hbn.alloc hbn.size _)) ?_
        clear hK K
        try go_frame
        refine wpPre_one (i := 24) (by kernel_rfl) ?_
        refine wpPre_op (by simp only [List.getElem?_toArray, List.getElem?_cons_succ, List.getElem?_cons_zero]; rfl) (fun K hK => ?_) (by rfl)
        refine step_app (by rfl) (.tmp 34) (.tmp 43) 29 (by rfl) w1.heap.size 3 i0 (.int .i64 0) 1 8 Try.underlying29 hi0 hz0 hz1 hz2 rfl (by decide) (.slice A1 ln c1) ln (ys.map natV) (by simp [Act.eval, Act.put]) (hown1.alloc _) (some ⟨w2.heap.size, 0, none⟩) 1 1 [.int .i64 ((op : Int) + 1)] (by simp [Act.eval, Act.put]) rfl (.inr ⟨_, rfl, cell_one_new _ _ _⟩) (by intro u hu; simp at hu; subst hu; rfl) (by unfold maxLen; omega) (by omega) (by first | exact hbn.size | exact Nat.le_trans hbn.size (by simp)) ?_
        intro v3 w3 hown3 hg3
        have hbn3 := Below.grown (hbn.alloc hbn.size (.cells #[.int .i64 ((op : Int) + 1)] 3)) hg3 (by first | exact hbn.size | exact Nat.le_trans hbn.size (by simp)) (fun k e => (hown1.lt k e).1)
        obtain ⟨hLF, c5, f5⟩ := HFIN.out w3 v3 hbn3 (by simpa [HLN.out, natV] using hown3)
        rw [HOI.out] at c5
        obtain ⟨A3, c3, rfl⟩ := own_slice hown3
        refine hK _ _ (HS.out _ hbn3) ?_
        clear hK K
        try go_frame
        have hS3 := HS.out _ hbn3
        refine wpPre_one (i := 25) (by kernel_rfl) ?_
        refine wpPre_op (by simp only [List.getElem?_toArray, List.getElem?_cons_succ, List.getElem?_cons_zero]; rfl) (fun K hK => ?_) (by rfl)
        go_simp
        refine hK _ _ hS3 ?_
        clear hK K
        try go_frame
        refine wpPre_one (i := 26) (by kernel_rfl) ?_
        refine wpPre_op (by simp only [List.getElem?_toArray, List.getElem?_cons_succ, List.getElem?_cons_zero]; rfl) (fun K hK => ?_) (by rfl)
        go_simp
        refine hK _ _ hS3 ?_
        clear hK K
        try go_frame
        refine wpPre_end (by kernel_rfl) (by kernel_rfl) (by simp only [List.getElem?_toArray, List.getElem?_cons_succ, List.getElem?_cons_zero]; rfl) (by rfl) ?_
        have HLF := Lib.hid (RLeft.trans_ HB1.out HK1.out HN1.out HSZ.out hLF)
        clear hLF hown3 hg3 hown1 hg1 hS3 hS1 hS0 hbn hbn3
        go_simp
        go_wp2
        go_ret
        exact ⟨rfl, by rw [HRF.out]; exact HLF.out⟩
      · refine wpPre_op (by simp only [List.getElem?_toArray, List.getElem?_cons_succ, List.getElem?_cons_zero]; rfl) (fun K hK => ?_) (by rfl)
        go_simp
        refine hK _ _ (HS.out _ (HBAA.out _ _)) ?_
        clear hK K
        try go_frame
        refine wpPre_one (i := 14) (by kernel_rfl) ?_
        refine wpPre_op (by simp only [List.getElem?_toArray, List.getElem?_cons_succ, List.getElem?_cons_zero]; rfl) (fun K hK => ?_) (by rfl)
        refine step_app (by rfl) (.tmp 25) (.tmp 33) 29 (by rfl) w1.heap.size 3 i0 (.int .i64 0) 1 8 Try.underlying29 hi0 hz0 hz1 hz2 rfl (by decide) (.slice (some ⟨w1.heap.size, 0, none⟩) 0 0) 0 [] (by simp [Act.eval, Act.put]) ((own_e1 w1.drew _ (Nat.le_refl _)).alloc (.cells #[.int .i64 ((op : Int) + 1)] 3)) A ln c (ys.map natV) (by simp [Act.eval, Act.put]) (by simp [HLN.out]) (HSRC.out _ (HBAA.out _ _)) HONE.out (by unfold maxLen; omega) (by omega) (by first | (simp; done) | (simp; omega)) ?_
        intro v1 w2 hown1 hg1
        rw [Nat.zero_add, List.nil_append] at hown1
        have hbn := Below.grown (HBAA.out _ _) hg1 (by first | (simp; done) | (simp; omega)) (fun k e => by simp [Value.ownBlock] at e; omega)
        have hq : ∀ j u, [Value.int .i64 ((op : Int) + 1)][j]? = some u → w2.cell? ((⟨w1.heap.size + 1, 0, none⟩ : Addr).add j) = some u := hq_b hg1
        obtain ⟨A1, c1, rfl⟩ := own_slice hown1
        refine hK _ _ (HS.out _ hbn) ?_
        clear hK K
        try go_frame
        have hS1 := HS.out _ hbn
        refine wpPre_one (i := 24) (by kernel_rfl) ?_
        refine wpPre_op (by simp only [List.getElem?_toArray, List.getElem?_cons_succ, List.getElem?_cons_zero]; rfl) (fun K hK => ?_) (by rfl)
        refine step_app (by rfl) (.tmp 34) (.tmp 43) 29 (by rfl) w1.heap.size 3 i0 (.int .i64 0) 1 8 Try.underlying29 hi0 hz0 hz1 hz2 rfl (by decide) (.slice A1 ln c1) ln (ys.map natV) (by simp [Act.eval, Act.put]) hown1 (some ⟨w1.heap.size + 1, 0, none⟩) 1 1 [.int .i64 ((op : Int) + 1)] (by simp [Act.eval, Act.put]) rfl (.inr ⟨_, rfl, hq⟩) (by intro u hu; simp at hu; subst hu; rfl) (by unfold maxLen; omega) (by omega) (by first | exact hbn.size | exact Nat.le_trans hbn.size (by simp)) ?_
        intro v3 w3 hown3 hg3
        have hbn3 := Below.grown hbn hg3 (by first | exact hbn.size | exact Nat.le_trans hbn.size (by simp)) (fun k e => (hown1.lt k e).1)
        obtain ⟨hLF, c5, f5⟩ := HFIN.out w3 v3 hbn3 (by simpa [HLN.out, natV] using hown3)
        rw [HOI.out] at c5
        obtain ⟨A3, c3, rfl⟩ := own_slice hown3
        refine hK _ _ (HS.out _ hbn3) ?_
        clear hK K
        try go_frame
        have hS3 := HS.out _ hbn3
        refine wpPre_one (i := 25) (by kernel_rfl) ?_
        refine wpPre_op (by simp only [List.getElem?_toArray, List.getElem?_cons_succ, List.getElem?_cons_zero]; rfl) (fun K hK => ?_) (by rfl)
        go_simp
        refine hK _ _ hS3 ?_
        clear hK K
        try go_frame
        refine wpPre_one (i := 26) (by kernel_rfl) ?_
        refine wpPre_op (by simp only [List.getElem?_toArray, List.getElem?_cons_succ, List.getElem?_cons_zero]; rfl) (fun K hK => ?_) (by rfl)
        go_simp
        refine hK _ _ hS3 ?_
        clear hK K
        try go_frame
        refine wpPre_end (by kernel_rfl) (by kernel_rfl) (by simp only [List.getElem?_toArray, List.getElem?_cons_succ, List.getElem?_cons_zero]; rfl) (by rfl) ?_
        have HLF := Lib.hid (RLeft.trans_ HB1.out HK1.out HN1.out HSZ.out hLF)
        clear hLF hown3 hg3 hown1 hg1 hS3 hS1 hS0 hbn hbn3
        go_simp
        go_wp2
        go_ret
        exact ⟨rfl, by rw [HRF.out]; exact HLF.out⟩
    · refine wpPre_op (by simp only [List.getElem?_toArray, List.getElem?_cons_succ, List.getElem?_cons_zero]; rfl) (fun K hK => ?_) (by rfl)
      go_simp
      refine hK _ _ (HS.out _ (HBA.out _)) ?_
      clear hK K
      try go_frame
      refine wpPre_one (i := 5) (by kernel_rfl) ?_
      refine wpPre_op (by simp only [List.getElem?_toArray, List.getElem?_cons_succ, List.getElem?_cons_zero]; rfl) (fun K hK => ?_) (by rfl)
      go_simp
      refine hK _ _ (HS.out _ (HBAA.out _ _)) ?_
      clear hK K
      try go_frame
      refine wpPre_one (i := 14) (by kernel_rfl) ?_
      refine wpPre_op (by simp only [List.getElem?_toArray, List.getElem?_cons_succ, List.getElem?_cons_zero]; rfl) (fun K hK => ?_) (by rfl)
      refine step_app (by rfl) (.tmp 25) (.tmp 33) 29 (by rfl) w1.heap.size 3 i0 (.int .i64 0) 1 8 Try.underlying29 hi0 hz0 hz1 hz2 rfl (by decide) (.slice (some ⟨w1.heap.size + 1, 0, none⟩) 0 0) 0 [] (by simp [Act.eval, Act.put]) (own_e3 w1.drew _ (Nat.le_refl _) (.cells #[.int .i64 ((op : Int) + 1)] 3)) A ln c (ys.map natV) (by simp [Act.eval, Act.put]) (by simp [HLN.out]) (HSRC.out _ (HBAA.out _ _)) HONE.out (by unfold maxLen; omega) (by omega) (by first | (simp; done) | (simp; omega)) ?_
      intro v1 w2 hown1 hg1
      rw [Nat.zero_add, List.nil_append] at hown1
      have hbn := Below.grown (HBAA.out _ _) hg1 (by first | (simp; done) | (simp; omega)) (fun k e => by simp [Value.ownBlock] at e; omega)
      have hq : ∀ j u, [Value.int .i64 ((op : Int) + 1)][j]? = some u → w2.cell? ((⟨w1.heap.size, 0, none⟩ : Addr).add j) = some u := hq_c hg1
      obtain ⟨A1, c1, rfl⟩ := own_slice hown1
      refine hK _ _ (HS.out _ hbn) ?_
      clear hK K
      try go_frame
      have hS1 := HS.out _ hbn
      refine wpPre_one (i := 24) (by kernel_rfl) ?_
      refine wpPre_op (by simp only [List.getElem?_toArray, List.getElem?_cons_succ, List.getElem?_cons_zero]; rfl) (fun K hK => ?_) (by rfl)
      refine step_app (by rfl) (.tmp 34) (.tmp 43) 29 (by rfl) w1.heap.size 3 i0 (.int .i64 0) 1 8 Try.underlying29 hi0 hz0 hz1 hz2 rfl (by decide) (.slice A1 ln c1) ln (ys.map natV) (by simp [Act.eval, Act.put]) hown1 (some ⟨w1.heap.size, 0, none⟩) 1 1 [.int .i64 ((op : Int) + 1)] (by simp [Act.eval, Act.put]) rfl (.inr ⟨_, rfl, hq⟩) (by intro u hu; simp at hu; subst hu; rfl) (by unfold maxLen; omega) (by omega) (by first | exact hbn.size | exact Nat.le_trans hbn.size (by simp)) ?_
      intro v3 w3 hown3 hg3
      have hbn3 := Below.grown hbn hg3 (by first | exact hbn.size | exact Nat.le_trans hbn.size (by simp)) (fun k e => (hown1.lt k e).1)
      obtain ⟨hLF, c5, f5⟩ := HFIN.out w3 v3 hbn3 (by simpa [HLN.out, natV] using hown3)
      rw [HOI.out] at c5
      obtain ⟨A3, c3, rfl⟩ := own_slice hown3
      refine hK _ _ (HS.out _ hbn3) ?_
      clear hK K
      try go_frame
      have hS3 := HS.out _ hbn3
      refine wpPre_one (i := 25) (by kernel_rfl) ?_
      refine wpPre_op (by simp only [List.getElem?_toArray, List.getElem?_cons_succ, List.getElem?_cons_zero]; rfl) (fun K hK => ?_) (by rfl)
      go_simp
      refine hK _ _ hS3 ?_
      clear hK K
      try go_frame
      refine wpPre_one (i := 26) (by kernel_rfl) ?_
      refine wpPre_op (by simp only [List.getElem?_toArray, List.getElem?_cons_succ, List.getElem?_cons_zero]; rfl) (fun K hK => ?_) (by rfl)
      go_simp
      refine hK _ _ hS3 ?_
      clear hK K
      try go_frame
      refine wpPre_end (by kernel_rfl) (by kernel_rfl) (by simp only [List.getElem?_toArray, List.getElem?_cons_succ, List.getElem?_cons_zero]; rfl) (by rfl) ?_
      have HLF := Lib.hid (RLeft.trans_ HB1.out HK1.out HN1.out HSZ.out hLF)
      clear hLF hown3 hg3 hown1 hg1 hS3 hS1 hS0 hbn hbn3
      go_simp
      go_wp2
      go_ret
      exact ⟨rfl, by rw [HRF.out]; exact HLF.out⟩
end Go.Proofs.Ytnhhinlhfaapcaa
