/- Threads: the document's Spawn, New. -/
import Derived.Test.YtnhhinlhfaapcaaSm
namespace Go.Proofs.Ytnhhinlhfaapcaa
open Go.RowKit
set_option linter.unusedVariables false
set_option linter.unusedSimpArgs false

theorem info67 : (Try.prog.info? 67).map (fun i => (i.zero, i.size, i.bytes)) = some (some (.agg #[.int .i64 0, .int .i64 0, .bool false, .bool false, .int .i64 0, .slice none 0 0]), 6, 56) := by kernel_rfl
def one6 (x : Nat × Nat) : List Value := [.int .i64 x.1, .int .i64 x.2, .bool false, .bool false, .int .i64 0, .slice none 0 0]
theorem one6_len (x : Nat × Nat) : (one6 x).length = 6 := rfl
theorem one6_one (x : Nat × Nat) : ∀ u ∈ one6 x, u.oneCell' = true := by
  intro u hu
  unfold one6 at hu
  rcases List.mem_cons.1 hu with rfl | hu
  · rfl
  rcases List.mem_cons.1 hu with rfl | hu
  · rfl
  rcases List.mem_cons.1 hu with rfl | hu
  · rfl
  rcases List.mem_cons.1 hu with rfl | hu
  · rfl
  rcases List.mem_cons.1 hu with rfl | hu
  · rfl
  rcases List.mem_cons.1 hu with rfl | hu
  · rfl
  cases hu
theorem run_append_kept {P : Program} (w : World) (base : Nat) (t ty e : TypeId) (i : TypeInfo) (z : Value) (size bytes : Nat) (ht : P.underlying t = some (.slice e)) (hi : P.info? e = some i) (hz : i.zero = some z)
    (hsize : i.size = size) (hby : i.bytes = bytes) (hzs : z.cells.size = size) (hsz : 0 < size)
    (v : Value) (n : Nat) (xs : List Value) (hown : w.ownsRow base e size v n xs)
    (a : Addr) (m c : Nat) (news : List Value) (hl : news.length = m * size) (hnews : ∀ j u, news[j]? = some u → w.cell? (a.add j) = some u) (h1 : ∀ u ∈ news, u.oneCell' = true)
    (h63 : n + m ≤ maxLen) (hbytes : (n + m) * bytes ≤ 140737488355328) (hbase : base ≤ w.heap.size) :
    ∃ v' w', (Builtin.append_ #[t, t] ty #[v, .slice (some a) m c]).run P w = .ok v' w' ∧ w'.ownsRow base e size v' (n + m) (xs ++ news) ∧ w.grownBy w' v.ownBlock ∧
      ∀ b, v.ownBlock = some b → ∀ j u, xs[j]? = some u → w'.cell? ⟨b, j, none⟩ = some u := by
  obtain ⟨v', w', hr, ho, hg, _, hat⟩ := run_append_own_at (P := P) w base t ty e i z size bytes ht hi hz hsize hby hzs hsz v n xs hown a m c news hl hnews h1 h63 hbytes hbase
  refine ⟨v', w', hr, ho, hg, fun b hb j u hu => ?_⟩
  have hown0 := hown
  rcases hown.2 with ⟨rfl, rfl⟩ | ⟨g, cap, cur, rfl, hbg, hgg, hnc, hcm, hcs, htake⟩
  · cases hb
  · simp [Value.ownBlock] at hb
    subst hb
    have holds : ∀ j u, xs[j]? = some u → w.cell? ((⟨g, 0, none⟩ : Addr).add j) = some u := hown0.cells (g := g) rfl
    by_cases hroom : n + m ≤ cap
    · have hsz' : i.size = size := hsize
      have hfit : n * i.size + news.length ≤ cur.size := by rw [hl, hsz', hcs, ← Nat.add_mul]; exact Nat.mul_le_mul_right _ hroom
      have hr2 := run_append_room (P := P) w t ty e i ht hi g n cap cur hgg a m c news (by rw [hsz']; exact hl) hnews h1 hroom hfit
      rw [hr2] at hr
      injection hr with e1 e2
      subst e1
      have hj : j < xs.length := (List.getElem?_eq_some_iff.1 hu).1
      rw [ho.cellAt j (by rw [← ho.1, List.length_append]; omega), List.getElem?_append_left hj]
      exact hu
    · obtain ⟨v2, w2, hr2, _, hg2⟩ := run_append_arg_grows (P := P) (w := w) t ty e i z size bytes ht hi hz hsize hby hzs hsz ⟨g, 0, none⟩ n cap xs hown0.1 holds a m c news hl hnews (by omega) h63 hbytes
      rw [hr2] at hr
      injection hr with e1 e2
      subst e2
      have h := holds j u hu
      rw [Addr.add_lit, Nat.zero_add] at h
      exact (World.cell?_of_block (hg2.block g (Array.getElem?_eq_some_iff.1 hgg).1 (by simp))).trans h
theorem step_kept {P : Program} {ops : Array Oper} {o : Oper} {a : Act} {w : World} {K : Act → World → Prop} {Q : Exit → Act → World → Prop} {E : Prop}
    (hg : o.guard = none) (s x : Operand) (t : TypeId) (hop : o.op = Op.call { callee := Callee.builtin Builtin.append, args := #[s, x], argTypes := #[t, t] })
    (base : Nat) (e : TypeId) (i : TypeInfo) (z : Value) (size bytes : Nat) (h1 : P.underlying t = some (.slice e)) (h2 : P.info? e = some i) (h3 : i.zero = some z) (h4 : i.size = size) (h5 : i.bytes = bytes) (h6 : z.cells.size = size) (h7 : 0 < size)
    (v : Value) (n : Nat) (xs : List Value) (hs : a.eval s = v) (hown : w.ownsRow base e size v n xs)
    (ad : Addr) (m c : Nat) (news : List Value) (hx : a.eval x = .slice (some ad) m c) (hn : news.length = m * size) (hc : ∀ j u, news[j]? = some u → w.cell? (ad.add j) = some u) (h1c : ∀ u ∈ news, u.oneCell' = true)
    (b1 : n + m ≤ maxLen) (b2 : (n + m) * bytes ≤ 140737488355328) (hbase : base ≤ w.heap.size)
    (hK : ∀ v' w', w'.ownsRow base e size v' (n + m) (xs ++ news) → w.grownBy w' v.ownBlock → (∀ b, v.ownBlock = some b → ∀ j u, xs[j]? = some u → w'.cell? ⟨b, j, none⟩ = some u) → K (a.put o.dst v') w') :
    if Region.wanted o (yielded ops a.tmps) = true then Oper.wp P o a w K Q else E := by
  have hw : Region.wanted o (yielded ops a.tmps) = true := by simp [Region.wanted, hg]
  rw [if_pos hw]
  obtain ⟨v', w', hrun, r1, r2, r3⟩ := run_append_kept (P := P) w base t o.type e i z size bytes h1 h2 h3 h4 h5 h6 h7 v n xs hown ad m c news hn hc h1c b1 b2 hbase
  unfold Oper.wp
  simp [execOp, hop, resolve, invoke, builtin, hs, hx, hrun, Result.andThen]
  exact hK v' w' r1 r2 r3
theorem cells6_new (W : World) (i la : Nat) : ∀ j u, (one6 (i, la))[j]? = some u → (W.alloc (.cells #[.int .i64 i, .int .i64 la, .bool false, .bool false, .int .i64 0, .slice none 0 0] 67)).cell? ((⟨W.heap.size, 0, none⟩ : Addr).add j) = some u := by
  intro j u hu
  rw [Addr.add_lit, Nat.zero_add, (Blk.new W 67 _).cell, ← Array.getElem?_toList]
  exact hu
theorem RTabX.growcell {W W' : World} {B g : Nat} {v : Value} {O : Nat → Value} {R : RTab} (h : RTabX W B g v O R) (hg : W.grownBy W' v.ownBlock) : Blk W' g 70 #[v] :=
  Blk.step h.blk hg (fun e => h.blk.ty.ne (own_ty h.ol e) (by decide) rfl)
theorem RTabX.grown {W W' : World} {B g i la : Nat} {v v' : Value} {O : Nat → Value} {R : RTab} (h : RTabX W B g v O R) (hg : W.grownBy W' v.ownBlock) (hown : W'.ownsRow B 67 6 v' (R.n + 1) (ch (fun k => rthC (R.th k) (O k)) R.n ++ one6 (i, la))) (hla : rlast R i = la) :
    RTabX (W'.setCell ⟨g, 0, none⟩ v') B g v' (updO O R.n (.slice none 0 0)) (rSpnT R i) := by
  subst hla
  have tl : ∀ {q}, v.ownBlock = some q → Ty W q 67 := fun hq => own_ty h.ol hq
  have blk' := h.growcell hg
  have hbk := blk'.set_ 0 v'
  have g2 := gset W' g 0 v'
  have tb := blk'.ty
  have hth : ∀ k, k < R.n → (rSpnT R i).th k = R.th k := fun k hk => if_neg (by omega)
  have hOk : ∀ k, k < R.n → updO O R.n (.slice none 0 0) k = O k := fun k hk => if_neg (by omega)
  have hO0 : updO O R.n (.slice none 0 0) R.n = .slice none 0 0 := if_pos rfl
  have hn0 : (rSpnT R i).th R.n = ⟨i, rlast R i, false, false, 0, []⟩ := if_pos rfl
  refine ⟨h.hB, Nat.succ_pos _, hbk, ?_, fun k hk => ?_⟩
  · have h1 := own_far hown g2 (fun q hq => (own_ty hown hq).ne tb (by decide))
    show (W'.setCell ⟨g, 0, none⟩ v').ownsRow B 67 6 v' (R.n + 1) (ch _ (R.n + 1))
    rw [ch_succ, ch_congr (g := fun k => rthC (R.th k) (O k)) (fun k hk => by rw [hth k hk, hOk k hk])]
    have e : rthC ((rSpnT R i).th R.n) (updO O R.n (.slice none 0 0) R.n) = one6 (i, rlast R i) := by rw [hO0, hn0]; rfl
    rw [e]
    exact h1
  · have hk' : k < R.n + 1 := hk
    rcases (by omega : k < R.n ∨ k = R.n) with hk | rfl
    · rw [hth k hk, hOk k hk]
      have h1 := own_step (h.oi k hk) hg (fun q hq e => (own_ty (h.oi k hk) hq).ne (tl e) (by decide) rfl)
      exact own_far h1 g2 (fun q hq => (own_ty h1 hq).ne tb (by decide))
    · rw [hO0, hn0]
      exact World.ownsRow_nil _ _ _ _
theorem rspn_left {w w4 : World} {B g gl cl i la ln go c : Nat} {O : Nat → Value} {R : RTab} {v' : Value} {o : Obj} (hx : RTabX w B g (.slice (some ⟨gl, 0, none⟩) R.n cl) O R) (hla : rlast R i = la) (hi : i < R.n) (hO : O i = .slice (some ⟨go, 0, none⟩) (R.th i).opn.length c) (hd : (R.th i).opn.length = ln + 1) (hlast : (R.th i).opn[ln]? = some (rlast R i))
    (hg : (w.drew.alloc o).grownBy w4 (Value.slice (some ⟨gl, 0, none⟩) R.n cl).ownBlock) (hown : w4.ownsRow B 67 6 v' (R.n + 1) (ch (fun k => rthC (R.th k) (O k)) R.n ++ one6 (i, la)))
    (hkp : ∀ b, (Value.slice (some ⟨gl, 0, none⟩) R.n cl).ownBlock = some b → ∀ j u, (ch (fun k => rthC (R.th k) (O k)) R.n)[j]? = some u → w4.cell? ⟨b, j, none⟩ = some u) :
    RLeft w B g O R (rSpnT R i) (w4.setCell ⟨g, 0, none⟩ v') ∧ (w4.setCell ⟨g, 0, none⟩ v').cell? ⟨g, 0, none⟩ = some v' ∧ w4.cell? ⟨g, 0, none⟩ = some (.slice (some ⟨gl, 0, none⟩) R.n cl) ∧ w4.frozen? ⟨g, 0, none⟩ = false ∧ g < w4.heap.size ∧
    (w4.cell? ⟨g, 0, none⟩ = some (.slice (some ⟨gl, 0, none⟩) R.n cl) ∧ w4.cell? ⟨gl, i * 6 + 5, none⟩ = some (.slice (some ⟨go, 0, none⟩) (ln + 1) c) ∧ w4.cell? ⟨go, ln, none⟩ = some (.int .i64 la)) := by
  have hb : Below w.heap.size w (w.drew.alloc o) := (Below.refl _ w).drew.alloc (Nat.le_refl _) o
  have hx1 := hx.below hb
  have hfin := hx1.grown hg hown hla
  have hbk := hx1.growcell hg
  have hBw : B ≤ w.heap.size := Nat.le_trans hx.hB (Nat.le_of_lt hx.blk.lt)
  have htl : Ty (w.drew.alloc o) gl 67 := own_ty hx1.ol rfl
  refine ⟨⟨_, ⟨_, hfin⟩, ((hb.mono hBw).grown hg (by simp; exact Nat.le_succ_of_le hBw) (fun q hq => (hx1.ol.lt q hq).1)).setCell (p := ⟨g, 0, none⟩) hx.hB v', ?_, fun q hq => ?_⟩, hfin.box, hbk.cell 0, hbk.frozen 0, hbk.lt, hbk.cell 0, ?_, ?_⟩
  · exact ((KeepR.below hb).trans (KeepR.grown hg htl (.inl rfl))).trans (KeepR.set_ hbk.ty (.inr rfl))
  · obtain ⟨k, hk, e⟩ := hq
    have hk' : k < R.n + 1 := hk
    unfold updO at e
    split at e
    · cases e
    · exact .inl ⟨k, by omega, e⟩
  · refine hkp gl rfl _ _ ?_
    rw [ch6_at (f := fun k => rthC (R.th k) (O k)) (fun k => rfl) hi (by omega : 5 < 6)]
    show some (O i) = _
    rw [hO, hd]
  · have ho := hx1.oi i hi
    rw [hO] at ho
    have h1 := own_step ho hg (fun q hq e => (own_ty ho hq).ne (own_ty hx1.ol e) (by decide) rfl)
    rw [h1.cellAt ln (by rw [hd]; omega), List.getElem?_map, hlast, hla]
    rfl
set_option maxRecDepth 100000 in
set_option maxHeartbeats 6400000 in
theorem r_spawn (g B : Nat) (O : Nat → Value) (R : RTab) (n : Int) (w : World) (h : RTabO w B g O R) (hN : R.n ≤ 1000) (hop : ∀ i, i < R.n → (R.th i).opn.length ≤ 1000) :
    Calls Try.prog 25 #[.pointer (some ⟨g, 0, none⟩), .int .i64 n] w fun r w' => r = .returned (.tuple #[.int .i64 (rSpnN R n), .int .i64 (rSpnE R n)]) ∧ RLeft w B g O R (rSpn R n) w' := by
  have HR := Lib.hid (r_runs g B O R n w h)
  have HD := Lib.hid (r_depth g B O R n w h)
  have HBAD := Lib.hid (show rSpnBad R n = true → rSpnN R n = 0 ∧ rSpnE R n = 2 ∧ RLeft w B g O R (rSpn R n) w from fun hb => ⟨by unfold rSpnN; rw [hb]; rfl, by unfold rSpnE; rw [hb]; rfl, by unfold rSpn; rw [hb]; exact RLeft.same h (Below.refl _ _)⟩)
  cases he : (rat R n).ended
  rotate_left
  · obtain ⟨e1, e2, hl⟩ := HBAD.out (by unfold rSpnBad; rw [he]; rfl)
    have HL := Lib.hid hl
    rw [he] at HR
    rw [e1, e2]
    clear h he hop hl e1 e2
    go_enter Try.func25, Try.ntmps25
    go_wp2_with fail
    refine HR.out.mono ?_
    rintro r w1 ⟨rfl, rfl⟩
    go_wp2
    go_ret2
    exact ⟨rfl, HL.out⟩
  rw [he] at HR
  obtain ⟨i, rfl, hi, hxx⟩ := r_no he
  clear hxx
  obtain ⟨d, hd⟩ : ∃ d, (rat R i).opn.length = d := ⟨_, rfl⟩
  rw [hd] at HD
  by_cases hz : d = 0
  · subst hz
    obtain ⟨e1, e2, hl⟩ := HBAD.out (by unfold rSpnBad; rw [he, hd]; rfl)
    have HL := Lib.hid hl
    rw [e1, e2]
    clear h he hop hl e1 e2 hd
    go_enter Try.func25, Try.ntmps25
    go_wp2_with fail
    refine HR.out.mono ?_
    rintro r w1 ⟨rfl, rfl⟩
    go_wp2_with fail
    refine HD.out.mono ?_
    rintro r w1 ⟨rfl, rfl⟩
    go_wp2
    go_ret2
    exact ⟨rfl, HL.out⟩
  obtain ⟨ln, rfl⟩ : ∃ ln, d = ln + 1 := ⟨d - 1, by omega⟩
  have HNB := Lib.hid (show rSpnBad R i = false by unfold rSpnBad; rw [he, hd]; rfl)
  obtain ⟨v, hx⟩ := h
  obtain ⟨gl, cl, rfl⟩ := hx.l
  have c0 := hx.box
  have hiI : (i : Int) < (R.n : Int) := by omega
  have hii0 : (0 : Int) ≤ (i : Int) := by omega
  by_cases h16 : 16 ≤ R.n
  · have h16I : (16 : Int) ≤ (R.n : Int) := by omega
    have HL := Lib.hid (show RLeft w B g O R (rSpn R i) w by unfold rSpn; rw [HNB.out, if_neg (by simp), if_pos h16]; exact RLeft.same ⟨_, hx⟩ (Below.refl _ _))
    rw [show rSpnN R i = 0 by unfold rSpnN; rw [HNB.out, if_neg (by simp), if_pos h16], show rSpnE R i = 4 by unfold rSpnE; rw [HNB.out, if_neg (by simp), if_pos h16]]
    clear he hop hd hx
    go_enter Try.func25, Try.ntmps25
    go_wp2_with fail
    refine HR.out.mono ?_
    rintro r w1 ⟨rfl, rfl⟩
    go_wp2_with fail
    refine HD.out.mono ?_
    rintro r w1 ⟨rfl, rfl⟩
    go_wp2
    go_ret2
    exact ⟨rfl, HL.out⟩
  have h16I : ¬ (16 : Int) ≤ (R.n : Int) := by omega
  rw [show rSpnN R i = R.n by unfold rSpnN; rw [HNB.out, if_neg (by simp), if_neg h16], show rSpnE R i = 0 by unfold rSpnE; rw [HNB.out, if_neg (by simp), if_neg h16], show rSpn R i = rSpnT R i by unfold rSpn; rw [HNB.out, if_neg (by simp), if_neg h16]; rfl]
  rw [rat_in hi] at hd
  have hopi := hop i hi
  have hla : (R.th i).opn[ln]? = some (rlast R i) := by
    rw [rlast_in hi, hd, Nat.add_sub_cancel, List.getD_eq_getElem?_getD, List.getElem?_eq_getElem (by omega)]
    rfl
  obtain ⟨A, c, e5⟩ := hx.oform hi
  have q5 := (hx.cells hi).2.2.2.2.2
  have ho1 := hx.oi i hi
  rw [e5, hd] at ho1 q5
  rw [hd] at hopi
  obtain ⟨go, rfl⟩ : ∃ go, A = some ⟨go, 0, none⟩ := by
    rcases ho1.2 with ⟨h1, h2⟩ | ⟨gm, cap, cur, h1, _⟩
    · omega
    · rw [Value.slice.injEq] at h1; exact ⟨gm, h1.1⟩
  have q6 := ho1.cellAt ln (by omega)
  rw [List.getElem?_map, hla] at q6
  replace q6 : w.cell? ⟨go, ln, none⟩ = some (.int .i64 (rlast R i)) := q6
  obtain ⟨la, hlav⟩ : ∃ x, rlast R i = x := ⟨_, rfl⟩
  rw [hlav] at q6
  have hlw : IntKind.i64.wrap (ln : Int) = (ln : Int) := IntWalk.i64_in _ (by omega)
  have hl0 : (0 : Int) ≤ (ln : Int) := by omega
  have hl1 : (ln : Int) < (ln : Int) + 1 := by omega
  have hl2 : (ln : Int) < ((ln + 1 : Nat) : Int) := by omega
  have hl3 : ln < ln + 1 := by omega
  obtain ⟨j0, hj0, hy0, hy1, hy2⟩ := info_parts info67
  have HX := Lib.hid hx
  have HLV := Lib.hid hlav
  obtain ⟨nr, hnr⟩ : ∃ m, R.n = m := ⟨_, rfl⟩
  have HNR := Lib.hid hnr
  have HOL := Lib.hid (fun o => (hx.below ((Below.refl _ w).drew.alloc (Nat.le_refl _) o)).ol)
  have HFIN := Lib.hid (fun w4 v' (hg : (w.drew.alloc (.cells #[.int .i64 i, .int .i64 la, .bool false, .bool false, .int .i64 0, .slice none 0 0] 67)).grownBy w4 (Value.slice (some ⟨gl, 0, none⟩) R.n cl).ownBlock) (hown : w4.ownsRow B 67 6 v' (R.n + 1) (ch (fun k => rthC (R.th k) (O k)) R.n ++ one6 (i, la))) (hkp : ∀ b, (Value.slice (some ⟨gl, 0, none⟩) R.n cl).ownBlock = some b → ∀ j u, (ch (fun k => rthC (R.th k) (O k)) R.n)[j]? = some u → w4.cell? ⟨b, j, none⟩ = some u) => rspn_left hx hlav hi e5 hd hla hg hown hkp)
  have HC6 := Lib.hid (cells6_new w.drew i la)
  have HS := Lib.hid (show ∀ W, Below w.heap.size w W → (W.cell? ⟨g, 0, none⟩ = some (.slice (some ⟨gl, 0, none⟩) R.n cl) ∧ W.cell? ⟨gl, i * 6 + 5, none⟩ = some (.slice (some ⟨go, 0, none⟩) (ln + 1) c) ∧ W.cell? ⟨go, ln, none⟩ = some (.int .i64 la)) from fun W hb => ⟨(hb.cell (p := ⟨g, 0, none⟩) hx.blk.lt).trans c0, (hb.cell (p := ⟨gl, i * 6 + 5, none⟩) hx.tl.lt).trans q5, (hb.cell (p := ⟨go, ln, none⟩) (ho1.lt go rfl).2).trans q6⟩)
  have HBA := Lib.hid (fun o => show Below w.heap.size w (w.drew.alloc o) from (Below.refl _ w).drew.alloc (Nat.le_refl _) o)
  have hS0 := HS.out w.drew (Below.refl _ w).drew
  have hBw : B ≤ w.heap.size := Nat.le_trans hx.hB (Nat.le_of_lt hx.blk.lt)
  have hnw : IntKind.i64.wrap (nr : Int) = (nr : Int) := IntWalk.i64_in _ (by omega)
  rw [hnr] at hN h16I c0 hiI HOL HFIN HS hS0 ⊢
  clear hx he hop hd ho1 e5 hla hlav hnr h16
  go_enter Try.func25, Try.ntmps25
  go_wp2_with fail
  refine HR.out.mono ?_
  rintro r w1 ⟨rfl, rfl⟩
  go_wp2_with fail
  refine HD.out.mono ?_
  rintro r w1 ⟨rfl, rfl⟩
  go_upto_region 5 with fail
  clear c0 q5 q6
  refine wp_region_pre (fun W => W.cell? ⟨g, 0, none⟩ = some (.slice (some ⟨gl, 0, none⟩) nr cl) ∧ W.cell? ⟨gl, i * 6 + 5, none⟩ = some (.slice (some ⟨go, 0, none⟩) (ln + 1) c) ∧ W.cell? ⟨go, ln, none⟩ = some (.int .i64 la)) 31 31 (by kernel_rfl) (by kernel_rfl) ?_
  refine wpPre_take (i := 0) (v := .pointer (some ⟨g, 0, none⟩)) (by simp only [List.getElem?_toArray, List.getElem?_cons_succ, List.getElem?_cons_zero]; rfl) (by kernel_rfl) (by kernel_rfl) (by kernel_rfl) (by kernel_rfl) (by exact fun _ _ _ h => h) hS0 (by rfl) (fun W hS => ?_) ?_
  · obtain ⟨s1, s2, s3⟩ := hS
    go_simp
  try go_frame
  refine wpPre_take (i := 1) (v := .pointer (some ⟨g, 0, none⟩)) (by simp only [List.getElem?_toArray, List.getElem?_cons_succ, List.getElem?_cons_zero]; rfl) (by kernel_rfl) (by kernel_rfl) (by kernel_rfl) (by kernel_rfl) (by exact fun _ _ _ h => h) hS0 (by rfl) (fun W hS => ?_) ?_
  · obtain ⟨s1, s2, s3⟩ := hS
    go_simp
  try go_frame
  refine wpPre_take (i := 2) (v := .pointer (some ⟨g, 0, none⟩)) (by simp only [List.getElem?_toArray, List.getElem?_cons_succ, List.getElem?_cons_zero]; rfl) (by kernel_rfl) (by kernel_rfl) (by kernel_rfl) (by kernel_rfl) (by exact fun _ _ _ h => h) hS0 (by rfl) (fun W hS => ?_) ?_
  · obtain ⟨s1, s2, s3⟩ := hS
    go_simp
  try go_frame
  refine wpPre_take (i := 3) (v := .pointer (some ⟨g, 0, none⟩)) (by simp only [List.getElem?_toArray, List.getElem?_cons_succ, List.getElem?_cons_zero]; rfl) (by kernel_rfl) (by kernel_rfl) (by kernel_rfl) (by kernel_rfl) (by exact fun _ _ _ h => h) hS0 (by rfl) (fun W hS => ?_) ?_
  · obtain ⟨s1, s2, s3⟩ := hS
    go_simp
  try go_frame
  refine wpPre_take (i := 4) (v := .slice (some ⟨gl, 0, none⟩) nr cl) (by simp only [List.getElem?_toArray, List.getElem?_cons_succ, List.getElem?_cons_zero]; rfl) (by kernel_rfl) (by kernel_rfl) (by kernel_rfl) (by kernel_rfl) (by exact fun _ _ _ h => h) hS0 (by rfl) (fun W hS => ?_) ?_
  · obtain ⟨s1, s2, s3⟩ := hS
    go_simp
  try go_frame
  refine wpPre_take (i := 5) (v := .int .i64 i) (by simp only [List.getElem?_toArray, List.getElem?_cons_succ, List.getElem?_cons_zero]; rfl) (by kernel_rfl) (by kernel_rfl) (by kernel_rfl) (by kernel_rfl) (by exact fun _ _ _ h => h) hS0 (by rfl) (fun W hS => ?_) ?_
  · obtain ⟨s1, s2, s3⟩ := hS
    go_simp
  try go_frame
  refine wpPre_take (i := 6) (v := .pointer (some ⟨g, 0, none⟩)) (by simp only [List.getElem?_toArray, List.getElem?_cons_succ, List.getElem?_cons_zero]; rfl) (by kernel_rfl) (by kernel_rfl) (by kernel_rfl) (by kernel_rfl) (by exact fun _ _ _ h => h) hS0 (by rfl) (fun W hS => ?_) ?_
  · obtain ⟨s1, s2, s3⟩ := hS
    go_simp
  try go_frame
  refine wpPre_take (i := 7) (v := .pointer (some ⟨g, 0, none⟩)) (by simp only [List.getElem?_toArray, List.getElem?_cons_succ, List.getElem?_cons_zero]; rfl) (by kernel_rfl) (by kernel_rfl) (by kernel_rfl) (by kernel_rfl) (by exact fun _ _ _ h => h) hS0 (by rfl) (fun W hS => ?_) ?_
  · obtain ⟨s1, s2, s3⟩ := hS
    go_simp
  try go_frame
  refine wpPre_take (i := 8) (v := .pointer (some ⟨g, 0, none⟩)) (by simp only [List.getElem?_toArray, List.getElem?_cons_succ, List.getElem?_cons_zero]; rfl) (by kernel_rfl) (by kernel_rfl) (by kernel_rfl) (by kernel_rfl) (by exact fun _ _ _ h => h) hS0 (by rfl) (fun W hS => ?_) ?_
  · obtain ⟨s1, s2, s3⟩ := hS
    go_simp
  try go_frame
  refine wpPre_take (i := 9) (v := .slice (some ⟨gl, 0, none⟩) nr cl) (by simp only [List.getElem?_toArray, List.getElem?_cons_succ, List.getElem?_cons_zero]; rfl) (by kernel_rfl) (by kernel_rfl) (by kernel_rfl) (by kernel_rfl) (by exact fun _ _ _ h => h) hS0 (by rfl) (fun W hS => ?_) ?_
  · obtain ⟨s1, s2, s3⟩ := hS
    go_simp
  try go_frame
  refine wpPre_take (i := 10) (v := .int .i64 i) (by simp only [List.getElem?_toArray, List.getElem?_cons_succ, List.getElem?_cons_zero]; rfl) (by kernel_rfl) (by kernel_rfl) (by kernel_rfl) (by kernel_rfl) (by exact fun _ _ _ h => h) hS0 (by rfl) (fun W hS => ?_) ?_
  · obtain ⟨s1, s2, s3⟩ := hS
    go_simp
  try go_frame
  refine wpPre_take (i := 11) (v := .pointer (some ⟨gl, i * 6, none⟩)) (by simp only [List.getElem?_toArray, List.getElem?_cons_succ, List.getElem?_cons_zero]; rfl) (by kernel_rfl) (by kernel_rfl) (by kernel_rfl) (by kernel_rfl) (by exact fun _ _ _ h => h) hS0 (by rfl) (fun W hS => ?_) ?_
  · obtain ⟨s1, s2, s3⟩ := hS
    go_simp
  try go_frame
  refine wpPre_take (i := 12) (v := .pointer (some ⟨gl, i * 6 + 5, none⟩)) (by simp only [List.getElem?_toArray, List.getElem?_cons_succ, List.getElem?_cons_zero]; rfl) (by kernel_rfl) (by kernel_rfl) (by kernel_rfl) (by kernel_rfl) (by exact fun _ _ _ h => h) hS0 (by rfl) (fun W hS => ?_) ?_
  · obtain ⟨s1, s2, s3⟩ := hS
    go_simp
  try go_frame
  refine wpPre_take (i := 13) (v := .slice (some ⟨go, 0, none⟩) (ln + 1) c) (by simp only [List.getElem?_toArray, List.getElem?_cons_succ, List.getElem?_cons_zero]; rfl) (by kernel_rfl) (by kernel_rfl) (by kernel_rfl) (by kernel_rfl) (by exact fun _ _ _ h => h) hS0 (by rfl) (fun W hS => ?_) ?_
  · obtain ⟨s1, s2, s3⟩ := hS
    go_simp
  try go_frame
  refine wpPre_take (i := 14) (v := .pointer (some ⟨g, 0, none⟩)) (by simp only [List.getElem?_toArray, List.getElem?_cons_succ, List.getElem?_cons_zero]; rfl) (by kernel_rfl) (by kernel_rfl) (by kernel_rfl) (by kernel_rfl) (by exact fun _ _ _ h => h) hS0 (by rfl) (fun W hS => ?_) ?_
  · obtain ⟨s1, s2, s3⟩ := hS
    go_simp
  try go_frame
  refine wpPre_take (i := 15) (v := .pointer (some ⟨g, 0, none⟩)) (by simp only [List.getElem?_toArray, List.getElem?_cons_succ, List.getElem?_cons_zero]; rfl) (by kernel_rfl) (by kernel_rfl) (by kernel_rfl) (by kernel_rfl) (by exact fun _ _ _ h => h) hS0 (by rfl) (fun W hS => ?_) ?_
  · obtain ⟨s1, s2, s3⟩ := hS
    go_simp
  try go_frame
  refine wpPre_take (i := 16) (v := .pointer (some ⟨g, 0, none⟩)) (by simp only [List.getElem?_toArray, List.getElem?_cons_succ, List.getElem?_cons_zero]; rfl) (by kernel_rfl) (by kernel_rfl) (by kernel_rfl) (by kernel_rfl) (by exact fun _ _ _ h => h) hS0 (by rfl) (fun W hS => ?_) ?_
  · obtain ⟨s1, s2, s3⟩ := hS
    go_simp
  try go_frame
  refine wpPre_take (i := 17) (v := .slice (some ⟨gl, 0, none⟩) nr cl) (by simp only [List.getElem?_toArray, List.getElem?_cons_succ, List.getElem?_cons_zero]; rfl) (by kernel_rfl) (by kernel_rfl) (by kernel_rfl) (by kernel_rfl) (by exact fun _ _ _ h => h) hS0 (by rfl) (fun W hS => ?_) ?_
  · obtain ⟨s1, s2, s3⟩ := hS
    go_simp
  try go_frame
  refine wpPre_take (i := 18) (v := .int .i64 i) (by simp only [List.getElem?_toArray, List.getElem?_cons_succ, List.getElem?_cons_zero]; rfl) (by kernel_rfl) (by kernel_rfl) (by kernel_rfl) (by kernel_rfl) (by exact fun _ _ _ h => h) hS0 (by rfl) (fun W hS => ?_) ?_
  · obtain ⟨s1, s2, s3⟩ := hS
    go_simp
  try go_frame
  refine wpPre_take (i := 19) (v := .pointer (some ⟨gl, i * 6, none⟩)) (by simp only [List.getElem?_toArray, List.getElem?_cons_succ, List.getElem?_cons_zero]; rfl) (by kernel_rfl) (by kernel_rfl) (by kernel_rfl) (by kernel_rfl) (by exact fun _ _ _ h => h) hS0 (by rfl) (fun W hS => ?_) ?_
  · obtain ⟨s1, s2, s3⟩ := hS
    go_simp
  try go_frame
  refine wpPre_take (i := 20) (v := .pointer (some ⟨gl, i * 6 + 5, none⟩)) (by simp only [List.getElem?_toArray, List.getElem?_cons_succ, List.getElem?_cons_zero]; rfl) (by kernel_rfl) (by kernel_rfl) (by kernel_rfl) (by kernel_rfl) (by exact fun _ _ _ h => h) hS0 (by rfl) (fun W hS => ?_) ?_
  · obtain ⟨s1, s2, s3⟩ := hS
    go_simp
  try go_frame
  refine wpPre_take (i := 21) (v := .slice (some ⟨go, 0, none⟩) (ln + 1) c) (by simp only [List.getElem?_toArray, List.getElem?_cons_succ, List.getElem?_cons_zero]; rfl) (by kernel_rfl) (by kernel_rfl) (by kernel_rfl) (by kernel_rfl) (by exact fun _ _ _ h => h) hS0 (by rfl) (fun W hS => ?_) ?_
  · obtain ⟨s1, s2, s3⟩ := hS
    go_simp
  try go_frame
  refine wpPre_take (i := 22) (v := .int .i64 ((ln : Int) + 1)) (by simp only [List.getElem?_toArray, List.getElem?_cons_succ, List.getElem?_cons_zero]; rfl) (by kernel_rfl) (by kernel_rfl) (by kernel_rfl) (by kernel_rfl) (by exact fun _ _ _ h => h) hS0 (by rfl) (fun W hS => ?_) ?_
  · obtain ⟨s1, s2, s3⟩ := hS
    go_simp
  try go_frame
  refine wpPre_take (i := 23) (v := .int .i64 ln) (by simp only [List.getElem?_toArray, List.getElem?_cons_succ, List.getElem?_cons_zero]; rfl) (by kernel_rfl) (by kernel_rfl) (by kernel_rfl) (by kernel_rfl) (by exact fun _ _ _ h => h) hS0 (by rfl) (fun W hS => ?_) ?_
  · obtain ⟨s1, s2, s3⟩ := hS
    go_simp
  try go_frame
  refine wpPre_take (i := 24) (v := .pointer (some ⟨go, ln, none⟩)) (by simp only [List.getElem?_toArray, List.getElem?_cons_succ, List.getElem?_cons_zero]; rfl) (by kernel_rfl) (by kernel_rfl) (by kernel_rfl) (by kernel_rfl) (by exact fun _ _ _ h => h) hS0 (by rfl) (fun W hS => ?_) ?_
  · obtain ⟨s1, s2, s3⟩ := hS
    go_simp
  try go_frame
  refine wpPre_take (i := 25) (v := .int .i64 la) (by simp only [List.getElem?_toArray, List.getElem?_cons_succ, List.getElem?_cons_zero]; rfl) (by kernel_rfl) (by kernel_rfl) (by kernel_rfl) (by kernel_rfl) (by exact fun _ _ _ h => h) hS0 (by rfl) (fun W hS => ?_) ?_
  · obtain ⟨s1, s2, s3⟩ := hS
    go_simp
  try go_frame
  refine wpPre_take (i := 26) (v := .agg #[.int .i64 i, .int .i64 la, .bool false, .bool false, .int .i64 0, .slice none 0 0]) (by simp only [List.getElem?_toArray, List.getElem?_cons_succ, List.getElem?_cons_zero]; rfl) (by kernel_rfl) (by kernel_rfl) (by kernel_rfl) (by kernel_rfl) (by exact fun _ _ _ h => h) hS0 (by rfl) (fun W hS => ?_) ?_
  · obtain ⟨s1, s2, s3⟩ := hS
    go_simp
  try go_frame
  refine wpPre_one (i := 27) (by kernel_rfl) ?_
  refine wpPre_op (by simp only [List.getElem?_toArray, List.getElem?_cons_succ, List.getElem?_cons_zero]; rfl) (fun K hK => ?_) (by rfl)
  go_simp
  refine hK _ _ (HS.out _ (HBA.out _)) ?_
  clear hK K
  try go_frame
  refine wpPre_one (i := 28) (by kernel_rfl) ?_
  refine wpPre_op (by simp only [List.getElem?_toArray, List.getElem?_cons_succ, List.getElem?_cons_zero]; rfl) (fun K hK => ?_) (by rfl)
  refine step_kept (by rfl) (.tmp 26) (.tmp 49) 68 (by rfl) B 67 j0 (.agg #[.int .i64 0, .int .i64 0, .bool false, .bool false, .int .i64 0, .slice none 0 0]) 6 56 Try.underlying68 hj0 hy0 hy1 hy2 rfl (by decide) (.slice (some ⟨gl, 0, none⟩) nr cl) nr _ (by simp [Act.eval, Act.put]) (HOL.out _) ⟨w.heap.size, 0, none⟩ 1 1 (one6 (i, la)) (by simp [Act.eval, Act.put]) rfl (HC6.out) (one6_one _) (by unfold maxLen; omega) (by omega) (by first | (simp; done) | (simp; omega)) ?_
  intro v3 w4 hown4 hg4 hkp4
  obtain ⟨hL, c8, c9, f9, hW9, hS4⟩ := HFIN.out _ _ hg4 hown4 hkp4
  obtain ⟨A3, c3, rfl⟩ := own_slice hown4
  have HL := Lib.hid hL
  refine hK _ _ hS4 ?_
  clear hK K hL hown4 hg4 hkp4
  try go_frame
  refine wpPre_one (i := 29) (by kernel_rfl) ?_
  refine wpPre_op (by simp only [List.getElem?_toArray, List.getElem?_cons_succ, List.getElem?_cons_zero]; rfl) (fun K hK => ?_) (by rfl)
  go_simp
  refine hK _ _ hS4 ?_
  clear hK K
  try go_frame
  refine wpPre_one (i := 30) (by kernel_rfl) ?_
  refine wpPre_op (by simp only [List.getElem?_toArray, List.getElem?_cons_succ, List.getElem?_cons_zero]; rfl) (fun K hK => ?_) (by rfl)
  go_simp
  refine hK _ _ hS4 ?_
  clear hK K
  try go_frame
  refine wpPre_end (by kernel_rfl) (by kernel_rfl) (by simp only [List.getElem?_toArray, List.getElem?_cons_succ, List.getElem?_cons_zero]; rfl) (by rfl) ?_
  clear hS4 hS0
  go_simp
  go_wp2
  go_ret2
  exact ⟨rfl, HL.out⟩
/-! ### New -/
theorem rnew_tab (w : World) : RTabX ((w.alloc (.cells #[.int .i64 (-1), .int .i64 0, .bool false, .bool false, .int .i64 0, .slice none 0 0] 67)).alloc (.cells #[.slice (some ⟨w.heap.size, 0, none⟩) 1 1] 70)) w.heap.size (w.heap.size + 1) (.slice (some ⟨w.heap.size, 0, none⟩) 1 1) (fun _ => .slice none 0 0) rNewT := by
  have h := World.ownsRow_lit (base := w.heap.size) (e := 67) (size := 6) w #[.int .i64 (-1), .int .i64 0, .bool false, .bool false, .int .i64 0, .slice none 0 0] 1 (Nat.le_refl _) (by unfold maxLen; omega) rfl
  refine ⟨by omega, Nat.zero_lt_one, ?_, h.alloc _, fun i hi => ?_⟩
  · have hb := Blk.new (w.alloc (.cells #[.int .i64 (-1), .int .i64 0, .bool false, .bool false, .int .i64 0, .slice none 0 0] 67)) 70 #[.slice (some ⟨w.heap.size, 0, none⟩) 1 1]
    rw [World.size_alloc] at hb
    exact hb
  · exact World.ownsRow_nil _ _ _ _
theorem r_new (w : World) : Calls Try.prog 23 #[] w fun r w' => r = .returned (.pointer (some ⟨w.heap.size + 1, 0, none⟩)) ∧ RTabO w' w.heap.size (w.heap.size + 1) (fun _ => .slice none 0 0) rNewT ∧ Below w.heap.size w w' := by
  have HN := Lib.hid (rnew_tab w)
  have HB := Lib.hid (((Below.refl w.heap.size w).alloc (Nat.le_refl _) (.cells #[.int .i64 (-1), .int .i64 0, .bool false, .bool false, .int .i64 0, .slice none 0 0] 67)).alloc (by simp) (.cells #[.slice (some ⟨w.heap.size, 0, none⟩) 1 1] 70))
  go_enter Try.func23, Try.ntmps23
  go_wp2
  go_ret
  exact ⟨rfl, ⟨_, HN.out⟩, HB.out⟩
end Go.Proofs.Ytnhhinlhfaapcaa
