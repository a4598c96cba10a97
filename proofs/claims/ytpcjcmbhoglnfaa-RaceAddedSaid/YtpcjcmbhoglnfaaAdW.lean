/- RaceAdded: the walk (region 3 still open). -/
import Derived.Test.YtpcjcmbhoglnfaaSa
import Derived.Deep.RegionHeld3
import Derived.Deep.DeepCutAuto
namespace Go.Proofs.Ytpcjcmbhoglnfaa
open Go.RowKit
set_option linter.unusedVariables false
set_option linter.unusedSimpArgs false

theorem step_append_rd {α : Type} {P : Program} {w : World} {ops : Array Oper} {o : Oper} {a : Act} {K : Act → World → Prop} {Q : Exit → Act → World → Prop} {E : Prop} (hgd : o.guard = none) (s x : Operand) (t : TypeId)
    (ho : o.op = .call { callee := .builtin .append, args := #[s, x], argTypes := #[t, t] })
    (base : Nat) (e : TypeId) (i : TypeInfo) (z : Value) (size bytes : Nat) (ht : P.underlying t = some (.slice e)) (hi : P.info? e = some i) (hz : i.zero = some z)
    (hsize : i.size = size) (hby : i.bytes = bytes) (hzs : z.cells.size = size) (hsz : 0 < size)
    (v : Value) (n : Nat) (xs : List Value) (hs : a.eval s = v) (hown : w.ownsRow base e size v n xs)
    (B : Nat) (A : Option Addr) (m c : Nat) (cells : α → List Value) (hlen : ∀ x, (cells x).length = size) (h1 : ∀ x, ∀ u ∈ cells x, u.oneCell' = true) (M : List α) (hM : M.length = m) (hx : a.eval x = .slice A m c) (hr : Rd w B size cells A M)
    (h63 : n + m ≤ maxLen) (hbytes : (n + m) * bytes ≤ 140737488355328) (hbase : base ≤ w.heap.size)
    (h : ∀ v' w', w'.ownsRow base e size v' (n + m) (xs ++ M.flatMap cells) → w.grownBy w' v.ownBlock → (v'.ownBlock = v.ownBlock ∨ v'.ownBlock = some w.heap.size) → K (a.put o.dst v') w') :
    if Region.wanted o (yielded ops a.tmps) = true then Oper.wp P o a w K Q else E := by
  have hw : Region.wanted o (yielded ops a.tmps) = true := by simp [Region.wanted, hgd]
  rw [if_pos hw]
  exact wp_append_rd w s x t ho base e i z size bytes ht hi hz hsize hby hzs hsz v n xs hs hown B A m c cells hlen h1 M hM hx hr h63 hbytes hbase h

def Old8 (w0 W : World) : Prop := Below w0.heap.size w0 W
/-- the box's cells, and what lay before -/
def Ad8 (w0 : World) (g : Nat) (x : Ev) (lx : Nat) (W : World) : Prop :=
  W.cell? ⟨g, 0, none⟩ = some (.int .u8 x.kind) ∧ W.cell? ⟨g, 1, none⟩ = some (.int .i64 x.thread) ∧ W.cell? ⟨g, 2, none⟩ = some (.int .i64 x.id) ∧ W.cell? ⟨g, 3, none⟩ = some (.slice x.pa lx x.pc) ∧ Old8 w0 W
theorem Ad8.step {w0 W W' : World} {g lx : Nat} {x : Ev} (h : Ad8 w0 g x lx W) (hg : g < w0.heap.size) (hb : Below W.heap.size W W') : Ad8 w0 g x lx W' := by
  obtain ⟨h0, h1, h2, h3, h4⟩ := h
  have hs := Below.size h4
  have hc : ∀ o, W'.cell? ⟨g, o, none⟩ = W.cell? ⟨g, o, none⟩ := fun o => hb.cell (p := ⟨g, o, none⟩) (show g < W.heap.size by omega)
  exact ⟨(hc _).trans h0, (hc _).trans h1, (hc _).trans h2, (hc _).trans h3, Below.trans h4 (hb.mono hs)⟩
theorem Ad8.alloc {w0 W : World} {g lx : Nat} {x : Ev} (h : Ad8 w0 g x lx W) (hg : g < w0.heap.size) (o : Obj) : Ad8 w0 g x lx (W.alloc o) := h.step hg ((Below.refl _ W).alloc (Nat.le_refl _) o)
theorem Ad8.drew {w0 W : World} {g lx : Nat} {x : Ev} (h : Ad8 w0 g x lx W) (hg : g < w0.heap.size) : Ad8 w0 g x lx W.drew := h.step hg (Below.refl _ W).drew

theorem Ad8.grown {w0 W W' : World} {g lx : Nat} {x : Ev} {row : Option Nat} (h : Ad8 w0 g x lx W) (hg : g < w0.heap.size) (hgr : W.grownBy W' row) (hr : ∀ q, row = some q → w0.heap.size ≤ q) : Ad8 w0 g x lx W' := by
  obtain ⟨h0, h1, h2, h3, h4⟩ := h
  have hs := Below.size h4
  have hb : Below w0.heap.size w0 W' := Below.grown h4 hgr hs hr
  have hb2 : Below w0.heap.size W W' := (Below.refl _ W).grown hgr hs hr
  have hc : ∀ o, W'.cell? ⟨g, o, none⟩ = W.cell? ⟨g, o, none⟩ := fun o => hb2.cell (p := ⟨g, o, none⟩) hg
  exact ⟨(hc _).trans h0, (hc _).trans h1, (hc _).trans h2, (hc _).trans h3, hb⟩
theorem old_of {w0 W : World} {a b c d : Prop} (h : a ∧ b ∧ c ∧ d ∧ Old8 w0 W) : Below w0.heap.size w0 W := h.2.2.2.2
theorem find_added {L : List Ev} {x : Ev} (h : mayB L = true) (h2 : mayB (L ++ [x]) = true) (hx : accB x.kind = false) : findL (L ++ [x]) false = findL L false := by
  rw [findL_ok h, findL_ok h2, List.length_append, List.length_singleton, allUp_succ, allUp_preL _ (Nat.le_refl _), rUp_noacc, List.append_nil]
  rw [evAt_of (x := x) (by simp)]
  exact hx
theorem rd_blk {W : World} {g lx : Nat} {x : Ev} (hlx : x.path.length = lx) (h : Blk W g 26 #[.int .u8 x.kind, .int .i64 x.thread, .int .i64 x.id, .slice x.pa lx x.pc]) : Rd W W.heap.size 4 evC (some ⟨g, 0, none⟩) [x] := by
  subst hlx
  refine .inr ⟨g, 0, rfl, h.lt, fun i y hy j u hu => ?_⟩
  rw [h.cell, Nat.zero_add, ← Array.getElem?_toList]
  exact flat_at9 evC_len (L := [x]) hy hu

set_option maxRecDepth 100000 in
set_option maxHeartbeats 12800000 in
theorem raceAdded_walk (A : Option Addr) (c : Nat) (L : List Ev) (x : Ev) (w : World) (rd : Rd w w.heap.size 4 evC A L) (g : ∀ x ∈ L, EvOk w w.heap.size x) (hc : L.length ≤ c) (hm : c ≤ maxLen) (gx : EvOk w w.heap.size x) :
    Calls Try.prog 8 #[.slice A L.length c, .agg #[.int .u8 x.kind, .int .i64 x.thread, .int .i64 x.id, .slice x.pa x.path.length x.pc]] w fun r w' => r = .returned (.bool true) ∧ Below w.heap.size w w' := by
  obtain ⟨len, hlen⟩ : ∃ n, L.length = n := ⟨_, rfl⟩
  obtain ⟨lx, hlx⟩ : ∃ n, x.path.length = n := ⟨_, rfl⟩
  obtain ⟨sb, hsb⟩ : ∃ b, shortB L = b := ⟨_, rfl⟩
  have hb0 : Below w.heap.size w (w.alloc (.cells #[.int .u8 x.kind, .int .i64 x.thread, .int .i64 x.id, .slice x.pa lx x.pc] 26)) := (Below.refl _ w).alloc (Nat.le_refl _) _
  have hx0 := Blk.new w 26 #[.int .u8 x.kind, .int .i64 x.thread, .int .i64 x.id, .slice x.pa lx x.pc]
  obtain ⟨w0, hw0⟩ : ∃ w0, w0 = w.alloc (.cells #[.int .u8 x.kind, .int .i64 x.thread, .int .i64 x.id, .slice x.pa lx x.pc] 26) := ⟨_, rfl⟩
  rw [← hw0] at hb0 hx0
  have HB0 := Lib.hid hb0
  have HX0 := Lib.hid hx0
  have hrd0 := (rd.below hb0).more hb0.size
  have hg0 : ∀ x ∈ L, EvOk w0 w0.heap.size x := fun y hy => ((g y hy).below hb0).more hb0.size
  have HLG := Lib.hid (long_any A len c L w0 hlen hrd0 sb hsb)
  rw [hlen] at hc ⊢
  rw [hlx]
  cases sb with
  | false =>
    clear rd g hlen hsb hx0 hb0 hrd0 hg0 gx hlx
    go_enter Try.func8, Try.ntmps8
    go_wp2_with fail
    rw [← hw0]
    clear hw0
    refine HLG.out.mono ?_
    rintro r w1 ⟨rfl, rfl⟩
    go_wp2_with fail
    refine (awake_any _).mono ?_
    rintro r w8 ⟨rfl, hb8⟩
    have HB8 := Lib.hid (HB0.out.trans (hb8.mono HB0.out.size))
    clear hb8
    go_wp2
    go_ret
    exact ⟨rfl, HB8.out⟩
  | true =>
    have HR := Lib.hid (shortB_row hlen hrd0 hg0 hc hsb)
    obtain ⟨mb, hmb⟩ : ∃ b, mayB L = b := ⟨_, rfl⟩
    have hn120 : len ≤ 120 := by
      unfold shortB at hsb
      rw [Bool.and_eq_true] at hsb
      have := of_decide_eq_true hsb.1
      omega
    have HM := Lib.hid hmb
    have HL := Lib.hid hlen
    have HLX := Lib.hid hlx
    have HGX := Lib.hid gx
    have HMAY := Lib.hid (may_any (c := c) mb hlen (by omega) hrd0 hg0 hmb)
    have HW0 := Lib.hid hw0
    clear rd g hlen hsb hmb hx0 hb0 hrd0 hg0 gx hlx
    go_enter Try.func8, Try.ntmps8
    go_wp2_with fail
    rw [← hw0]
    clear hw0
    refine HLG.out.mono ?_
    rintro r w1 ⟨rfl, rfl⟩
    clear HLG
    cases mb with
    | false =>
      simp only [Bool.false_eq_true, if_false] at HMAY
      go_wp2_with fail
      refine HMAY.out.mono ?_
      rintro r w1 ⟨rfl, hb1⟩
      have HB1 := Lib.hid (HB0.out.trans (hb1.mono HB0.out.size))
      clear hb1
      go_wp2_with fail
      refine (awake_any _).mono ?_
      rintro r w8 ⟨rfl, hb8⟩
      have HB8 := Lib.hid (HB1.out.trans (hb8.mono HB1.out.size))
      clear hb8
      go_wp2
      go_ret
      exact ⟨rfl, HB8.out⟩
    | true =>
      simp only [if_true] at HMAY
      go_wp2_with fail
      refine HMAY.out.mono ?_
      rintro r w1 ⟨rfl, hb1⟩
      have HB1 := Lib.hid hb1
      have hx1 := HX0.out.below hb1 (by have := HB0.out.size; rw [HW0.out]; simp)
      have HX1 := Lib.hid hx1
      have x0 := hx1.cell 0
      have x1 := hx1.cell 1
      have x2 := hx1.cell 2
      have x3 := hx1.cell 3
      obtain ⟨ac, hac⟩ : ∃ b, accB x.kind = b := ⟨_, rfl⟩
      have HAC := Lib.hid (access_any (t := x.thread) (i := x.id) (pa := x.pa) (pl := lx) (pc := x.pc) (w := w1) ac hac)
      have HA := Lib.hid hac
      clear hb1 hx1 hac HMAY
      go_wp2_with fail
      refine HAC.out.mono ?_
      rintro r w2 ⟨rfl, hb2⟩
      have HB2 := Lib.hid (HB1.out.trans (hb2.mono HB1.out.size))
      have hx2 := HX1.out.below hb2 (by have := HB0.out.size; have := HB1.out.size; rw [HW0.out] at this; simp at this; omega)
      have HX2 := Lib.hid hx2
      clear x0 x1 x2 x3 HAC HX1 HX0
      have x0 := hx2.cell 0
      have x1 := hx2.cell 1
      have x2 := hx2.cell 2
      have x3 := hx2.cell 3
      clear hb2 hx2
      cases ac with
      | true =>
        go_wp2_with fail
        refine (awake_any _).mono ?_
        rintro r w8 ⟨rfl, hb8⟩
        have HB8 := Lib.hid (HB0.out.trans ((HB2.out.trans (hb8.mono HB2.out.size)).mono HB0.out.size))
        clear hb8
        go_wp2
        go_ret
        exact ⟨rfl, HB8.out⟩
      | false =>
        by_cases h100 : 100 < lx
        · have d100 : (100 : Int) < (lx : Int) := by omega
          go_wp2_with fail
          refine (awake_any _).mono ?_
          rintro r w8 ⟨rfl, hb8⟩
          have HB8 := Lib.hid (HB0.out.trans ((HB2.out.trans (hb8.mono HB2.out.size)).mono HB0.out.size))
          clear hb8
          go_wp2
          go_ret
          exact ⟨rfl, HB8.out⟩
        have d100 : ¬ (100 : Int) < (lx : Int) := by omega
        have hrow2 := HR.out.below HB2.out
        have HRW := Lib.hid hrow2.rd
        have HS := Lib.hid HB2.out.size
        obtain ⟨i0, hi0, hz0, hz1, hz2⟩ := info_parts info26
        clear hrow2
        go_upto_region 3 with fail
        go_cut [5] (fun v wx => ∃ B, w0.heap.size ≤ B ∧ wx.ownsRow B 26 4 v (len + 1) ((L ++ [x]).flatMap evC) ∧ Below w0.heap.size w0 wx)
        case first =>
          have hgl : w.heap.size < w0.heap.size := by rw [HW0.out]; simp
          have hS0 : Ad8 w0 w.heap.size x lx w2.drew := Ad8.drew ⟨x0, x1, x2, x3, HB2.out⟩ hgl
          unfold Ad8 at hS0
          have hs := HS.out
          have hOa : World.ownsRow (w2.drew.alloc (.cells #[] 26)) w0.heap.size 26 4 (.slice (some ⟨w2.heap.size, 0, none⟩) 0 0) 0 [] := World.ownsRow_lit (base := w0.heap.size) (e := 26) (size := 4) w2.drew #[] 0 hs (by unfold maxLen; omega) rfl
          have hOc : World.ownsRow ((w2.drew.alloc (.cells #[.int .u8 x.kind, .int .i64 x.thread, .int .i64 x.id, .slice x.pa lx x.pc] 26)).alloc (.cells #[] 26)) w0.heap.size 26 4 (.slice (some ⟨w2.heap.size + 1, 0, none⟩) 0 0) 0 [] := by
            have h := World.ownsRow_lit (base := w0.heap.size) (e := 26) (size := 4) (w2.drew.alloc (.cells #[.int .u8 x.kind, .int .i64 x.thread, .int .i64 x.id, .slice x.pa lx x.pc] 26)) #[] 0 (by rw [World.size_alloc]; exact Nat.le_succ_of_le hs) (by unfold maxLen; omega) rfl
            simp only [World.size_alloc] at h
            exact h
          have HOa := Lib.hid hOa
          have HOb := Lib.hid (hOa.alloc (.cells #[.int .u8 x.kind, .int .i64 x.thread, .int .i64 x.id, .slice x.pa lx x.pc] 26))
          have HOc := Lib.hid hOc
          have hbd : Below w2.heap.size w2 w2.drew := (Below.refl _ w2).drew
          have HRa := Lib.hid (HRW.out.below (hbd.alloc (Nat.le_refl _) (.cells #[] 26)))
          have HRb := Lib.hid (HRW.out.below ((hbd.alloc (Nat.le_refl _) (.cells #[] 26)).alloc (by rw [World.size_alloc]; exact Nat.le_succ _) (.cells #[.int .u8 x.kind, .int .i64 x.thread, .int .i64 x.id, .slice x.pa lx x.pc] 26)))
          have HRc := Lib.hid (HRW.out.below ((hbd.alloc (Nat.le_refl _) (.cells #[.int .u8 x.kind, .int .i64 x.thread, .int .i64 x.id, .slice x.pa lx x.pc] 26)).alloc (by rw [World.size_alloc]; exact Nat.le_succ _) (.cells #[] 26)))
          have HSa := Lib.hid (Ad8.alloc hS0 hgl (.cells #[] 26))
          have HSb := Lib.hid (Ad8.alloc (Ad8.alloc hS0 hgl (.cells #[] 26)) hgl (.cells #[.int .u8 x.kind, .int .i64 x.thread, .int .i64 x.id, .slice x.pa lx x.pc] 26))
          have HSc := Lib.hid (Ad8.alloc (Ad8.alloc hS0 hgl (.cells #[.int .u8 x.kind, .int .i64 x.thread, .int .i64 x.id, .slice x.pa lx x.pc] 26)) hgl (.cells #[] 26))
          have HBa := Lib.hid (Below.size (old_of HSa.out))
          have HBb := Lib.hid (Below.size (old_of HSb.out))
          have HBc := Lib.hid (Below.size (old_of HSc.out))
          have hXb : Blk ((w2.drew.alloc (.cells #[] 26)).alloc (.cells #[.int .u8 x.kind, .int .i64 x.thread, .int .i64 x.id, .slice x.pa lx x.pc] 26)) (w2.heap.size + 1) 26 #[.int .u8 x.kind, .int .i64 x.thread, .int .i64 x.id, .slice x.pa lx x.pc] := Blk.at_ (by rw [World.size_alloc]; rfl)
          have hXc : Blk ((w2.drew.alloc (.cells #[.int .u8 x.kind, .int .i64 x.thread, .int .i64 x.id, .slice x.pa lx x.pc] 26)).alloc (.cells #[] 26)) w2.heap.size 26 #[.int .u8 x.kind, .int .i64 x.thread, .int .i64 x.id, .slice x.pa lx x.pc] := (Blk.at_ rfl).alloc _
          have HXb := Lib.hid hXb
          have HXc := Lib.hid hXc
          have h63 : 0 + len ≤ maxLen := by unfold maxLen; omega
          have hby : (0 + len) * 48 ≤ 140737488355328 := by omega
          have h63' : 0 + len + 1 ≤ maxLen := by unfold maxLen; omega
          have hby' : (0 + len + 1) * 48 ≤ 140737488355328 := by omega
          clear hOa hOc hbd hXb hXc hs
          go_region_held3 (fun w' => w'.cell? ⟨w.heap.size, 0, none⟩ = some (.int .u8 x.kind) ∧ w'.cell? ⟨w.heap.size, 1, none⟩ = some (.int .i64 x.thread) ∧ w'.cell? ⟨w.heap.size, 2, none⟩ = some (.int .i64 x.id) ∧ w'.cell? ⟨w.heap.size, 3, none⟩ = some (.slice x.pa lx x.pc) ∧ Old8 w0 w') (first | exact hS0 | exact hS6 | exact hS5 | assumption | exact Ad8.alloc (by assumption) hgl _ | exact Ad8.alloc hS5 hgl _)
            (first
              | (refine step_append_rd (by rfl) _ _ _ (by rfl) w0.heap.size 26 i0 (.agg #[.int .u8 0, .int .i64 0, .int .i64 0, .slice none 0 0]) 4 48 Try.underlying22 hi0 hz0 hz1 hz2 (by rfl) (by decide) _ 0 [] (by rfl) HOa.out _ A len c evC evC_len evC_one L HL.out (by rfl) HRa.out h63 hby HBa.out ?_; intro v5 w5 hown5 hg5 hx5; have hS5 := Ad8.grown HSa.out hgl hg5 (fun q e => (HOa.out.lt q e).1); unfold Ad8 at hS5; have hsz5 := Below.size (old_of hS5))
              | (refine step_append_rd (by rfl) _ _ _ (by rfl) w0.heap.size 26 i0 (.agg #[.int .u8 0, .int .i64 0, .int .i64 0, .slice none 0 0]) 4 48 Try.underlying22 hi0 hz0 hz1 hz2 (by rfl) (by decide) _ 0 [] (by rfl) HOb.out _ A len c evC evC_len evC_one L HL.out (by rfl) HRb.out h63 hby HBb.out ?_; intro v5 w5 hown5 hg5 hx5; have hS5 := Ad8.grown HSb.out hgl hg5 (fun q e => (HOb.out.lt q e).1); unfold Ad8 at hS5; have hsz5 := Below.size (old_of hS5); have hRx := rd_blk HLX.out (HXb.out.grown hg5 (by simp [Value.ownBlock])))
              | (refine step_append_rd (by rfl) _ _ _ (by rfl) w0.heap.size 26 i0 (.agg #[.int .u8 0, .int .i64 0, .int .i64 0, .slice none 0 0]) 4 48 Try.underlying22 hi0 hz0 hz1 hz2 (by rfl) (by decide) _ 0 [] (by rfl) HOc.out _ A len c evC evC_len evC_one L HL.out (by rfl) HRc.out h63 hby HBc.out ?_; intro v5 w5 hown5 hg5 hx5; have hS5 := Ad8.grown HSc.out hgl hg5 (fun q e => (HOc.out.lt q e).1); unfold Ad8 at hS5; have hsz5 := Below.size (old_of hS5); have hRx := rd_blk HLX.out (HXc.out.grown hg5 (by simp [Value.ownBlock])))
              | (refine step_append_rd (by rfl) _ _ _ (by rfl) w0.heap.size 26 i0 (.agg #[.int .u8 0, .int .i64 0, .int .i64 0, .slice none 0 0]) 4 48 Try.underlying22 hi0 hz0 hz1 hz2 (by rfl) (by decide) _ (0 + len) _ (by rfl) hown5 _ _ 1 1 evC evC_len evC_one [x] rfl (by rfl) hRx h63' hby' hsz5 ?_; intro v6 w6 hown6 hg6 hx6; have hS6 := Ad8.grown hS5 hgl hg6 (fun q e => (hown5.lt q e).1); unfold Ad8 at hS6)
              | (refine step_append_rd (by rfl) _ _ _ (by rfl) w0.heap.size 26 i0 (.agg #[.int .u8 0, .int .i64 0, .int .i64 0, .slice none 0 0]) 4 48 Try.underlying22 hi0 hz0 hz1 hz2 (by rfl) (by decide) _ (0 + len) _ (by rfl) (hown5.alloc _) _ _ 1 1 evC evC_len evC_one [x] rfl (by rfl) (rd_blk HLX.out (Blk.new w5 26 _)) h63' hby' (by rw [World.size_alloc]; omega) ?_; intro v6 w6 hown6 hg6 hx6; have hS6 := Ad8.grown (Ad8.alloc hS5 hgl _) hgl hg6 (fun q e => (hown5.lt q e).1); unfold Ad8 at hS6))
          all_goals
            have HO6 := Lib.hid hown6
            have HS6 := Lib.hid (old_of hS6)
            clear hown6 hS6 hS0 x0 x1 x2 x3
            go_wp2
            go_meet
            case rel => exact ⟨w0.heap.size, Nat.le_refl _, by (have h := HO6.out; rw [List.flatMap_append]; simpa using h), HS6.out⟩
        case rest =>
        obtain ⟨B, hB, hown, hbl⟩ := hcut
        have hml : (L ++ [x]).length = len + 1 := by rw [List.length_append, HL.out]; rfl
        have hmp : ∀ y ∈ L ++ [x], y.path.length ≤ 1000000 := by
          intro y hy
          rcases List.mem_append.1 hy with hy | hy
          · exact HR.out.hp y hy
          · rw [List.mem_singleton.1 hy, HLX.out]; omega
        have hmo : ∀ W, Below w0.heap.size w0 W → ∀ y ∈ L ++ [x], EvOk W W.heap.size y := by
          intro W hW y hy
          rcases List.mem_append.1 hy with hy | hy
          · exact ((HR.out.ok y hy).below hW).more hW.size
          · rw [List.mem_singleton.1 hy]
            exact ((HGX.out.below HB0.out).more HB0.out.size).below hW |>.more hW.size
        obtain ⟨A5, c5, rfl, hrow⟩ := EvRow.own hown hml (by omega) (hmo _ hbl) hmp
        have HBL := Lib.hid hbl
        have HRM := Lib.hid hrow
        obtain ⟨mb, hmb⟩ : ∃ b, mayB (L ++ [x]) = b := ⟨_, rfl⟩
        have HMAY := Lib.hid (may_any (c := c5) mb hml (by omega) hrow.rd hrow.ok hmb)
        have HM2 := Lib.hid hmb
        clear hown hbl hrow hmb hml hmp hmo hB HB2 HRW HS HX2 x0 x1 x2 x3 hi0 hz0 hz1 hz2
        cases mb with
        | false =>
          simp only [Bool.false_eq_true, if_false] at HMAY
          go_wp2_with fail
          refine HMAY.out.mono ?_
          rintro r w4 ⟨rfl, hb4⟩
          have HB4 := Lib.hid (HBL.out.trans (hb4.mono HBL.out.size))
          clear hb4
          go_wp2_with fail
          refine (awake_any _).mono ?_
          rintro r w8 ⟨rfl, hb8⟩
          have HB8 := Lib.hid (HB0.out.trans ((HB4.out.trans (hb8.mono HB4.out.size)).mono HB0.out.size))
          clear hb8
          go_wp2
          go_ret
          exact ⟨rfl, HB8.out⟩
        | true =>
          simp only [if_true] at HMAY
          have hfa := find_added HM.out HM2.out HA.out
          have he1 : errL L = 0 := by unfold errL; rw [HM.out]; rfl
          have he2 : errL (L ++ [x]) = 0 := by unfold errL; rw [HM2.out]; rfl
          have HFA := Lib.hid hfa
          have HE1 := Lib.hid he1
          have HE2 := Lib.hid he2
          have hrl : (findL L false).length ≤ 14400 := by
            rw [findL_ok HM.out, HL.out]
            exact Nat.le_trans (allUp_len L len) (Nat.le_trans (Nat.mul_le_mul hn120 hn120) (by omega))
          obtain ⟨rl, hrl0⟩ : ∃ q, (findL L false).length = q := ⟨_, rfl⟩
          have HRL := Lib.hid hrl0
          rw [hrl0] at hrl
          clear hfa he1 he2 hrl0
          go_wp2_with fail
          refine HMAY.out.mono ?_
          rintro r w4 ⟨rfl, hb4⟩
          have HB4 := Lib.hid (HBL.out.trans (hb4.mono HBL.out.size))
          have HRM4 := Lib.hid (HRM.out.below hb4)
          clear hb4 HMAY
          have HG := Lib.hid (all_any A len c L (HR.out.below HB4.out))
          go_wp2_with fail
          refine HG.out.mono ?_
          rintro r w5 ⟨v1, rfl, hown1, hb5⟩
          have HB5 := Lib.hid (HB4.out.trans (hb5.mono HB4.out.size))
          obtain ⟨A1, c1, rfl, hr1, _, _⟩ := own_rd pairC_len hown1
          have HR1 := Lib.hid hr1
          have HRM5 := Lib.hid (HRM4.out.below hb5)
          rw [HE1.out, HRL.out]
          clear hown1 hr1 hb5 HG
          have HG := Lib.hid (all_any A5 (len + 1) c5 (L ++ [x]) HRM5.out)
          go_wp2_with fail
          refine HG.out.mono ?_
          rintro r w6 ⟨v2, rfl, hown2, hb6⟩
          have HB6 := Lib.hid (HB5.out.trans (hb6.mono HB5.out.size))
          rw [HFA.out] at hown2
          obtain ⟨A2, c2, rfl, hr2, _, _⟩ := own_rd pairC_len hown2
          have HSM := Lib.hid (same_yes A1 A2 rl c1 c2 (findL L false) w6 HRL.out (by omega) ((HR1.out.below hb6).more hb6.size) hr2)
          rw [HE2.out, HRL.out]
          clear hown2 hr2 hb6 HG
          go_wp2_with fail
          refine HSM.out.mono ?_
          rintro r w7 ⟨rfl, nd, rfl⟩
          have HB7 := Lib.hid (below_drewN HB6.out nd)
          clear HSM
          go_wp2_with fail
          refine (awake_any _).mono ?_
          rintro r w8 ⟨rfl, hb8⟩
          have HB8 := Lib.hid (HB0.out.trans ((HB7.out.trans (hb8.mono HB7.out.size)).mono HB0.out.size))
          clear hb8
          go_wp2
          go_ret
          exact ⟨rfl, HB8.out⟩
theorem open26 {H : Type} {enc : TypeId × Value → H} {w : World} {base : Nat} {spare : Nat → Bool} {held : Bool} {r : Reach} {b0 : Nat} {v : Value} {d : DataW H} {p : List MemPlace} (hok : Value.okWide Try.prog w r b0 26 v) (h : DataW.Trod enc Try.prog w base spare held 26 v d p) :
    ∃ x : Ev, v = .agg #[.int .u8 x.kind, .int .i64 x.thread, .int .i64 x.id, .slice x.pa x.path.length x.pc] ∧ EvOk w w.heap.size x := by
  obtain ⟨cs, rfl, _⟩ := WideShapes.okWide_struct Try.underlying26 hok
  obtain ⟨n, hn⟩ := h
  obtain ⟨x, hx, hg⟩ := read26 n _ _ hn
  exact ⟨x, by congr 1; apply Array.ext'; simpa [Value.cells, evC] using hx, hg⟩
end Go.Proofs.Ytpcjcmbhoglnfaa
