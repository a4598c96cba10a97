/- RaceTurns: the walk. -/
import Derived.Test.YtpcjcmbhoglnfaaTuL
import Derived.Test.YtpcjcmbhoglnfaaBa
import Derived.Test.YtpcjcmbhoglnfaaTwoW
import Derived.Deep.DeepCutAuto
namespace Go.Proofs.Ytpcjcmbhoglnfaa
open Go.RowKit
set_option linter.unusedVariables false
set_option linter.unusedSimpArgs false

theorem rd_evb {W : World} {g lx : Nat} {x : Ev} (hlx : x.path.length = lx) (h : Blk W g 26 #[.int .u8 x.kind, .int .i64 x.thread, .int .i64 x.id, .slice x.pa lx x.pc]) : Rd W W.heap.size 4 evC (some ⟨g, 0, none⟩) [x] := by
  subst hlx
  refine .inr ⟨g, 0, rfl, h.lt, fun i y hy j u hu => ?_⟩
  rw [h.cell, Nat.zero_add, ← Array.getElem?_toList]
  exact flat_at9 evC_len (L := [x]) hy hu
theorem Rd.tn {w : World} {B : Nat} {A : Option Addr} {L : List Tn} (h : Rd w B 2 tnC A L) {k : Nat} {x : Tn} (hk : L[k]? = some x) :
    ∃ b off, A = some ⟨b, off, none⟩ ∧ b < B ∧ w.cell? ⟨b, off + k * 2, none⟩ = some (.int .i64 x.thread) ∧ w.cell? ⟨b, off + k * 2 + 1, none⟩ = some (.slice x.la x.evs.length x.lc) := by
  obtain ⟨hl, e⟩ := List.getElem?_eq_some_iff.1 hk
  obtain ⟨b, off, hA, hb, hc⟩ := h.at_ hl
  rw [e] at hc
  exact ⟨b, off, hA, hb, by simpa using hc 0 _ rfl, hc 1 _ rfl⟩
/-- the row of events under way -/
structure TuW (w wr : World) (v : Value) (L : List Ev) : Prop where
  own : wr.ownsRow w.heap.size 26 4 v L.length (L.flatMap evC)
  ok : ∀ x ∈ L, EvOk w w.heap.size x
  bel : Below w.heap.size w wr
theorem TuW.nil (w : World) : TuW w w (.slice none 0 0) [] := ⟨World.ownsRow_nil _ _ _ _, by simp, Below.refl _ _⟩
theorem TuW.below {w wr W : World} {v : Value} {L : List Ev} (h : TuW w wr v L) (hb : Below wr.heap.size wr W) : TuW w W v L := ⟨own_below h.own hb, h.ok, h.bel.trans (hb.mono h.bel.size)⟩
theorem TuW.set {w wr : World} {v : Value} {L : List Ev} {g o : Nat} (h : TuW w wr v L) (hg : w.heap.size ≤ g) (hv : ∀ q, v.ownBlock = some q → q < g) (u : Value) : TuW w (wr.setCell ⟨g, o, none⟩ u) v L := by
  refine ⟨h.own.kept (row := some g) ⟨rfl, rfl, rfl, by simp [World.setCell], fun k _ hk => Below.heap_setCell _ _ _ k (fun e => hk (by rw [e]))⟩ ?_, h.ok, h.bel.setCell (p := ⟨g, o, none⟩) hg u⟩
  cases e : v.ownBlock with
  | none => exact .inl rfl
  | some q => exact .inr (fun e2 => by have := hv q e; injection e2 with e2; omega)
theorem TuW.push {w W w3 : World} {v v3 : Value} {L : List Ev} {x : Ev} (h : TuW w W v L) (hx : EvOk w w.heap.size x) (hown3 : w3.ownsRow w.heap.size 26 4 v3 (L.length + 1) (L.flatMap evC ++ [x].flatMap evC)) (hg3 : W.grownBy w3 v.ownBlock) : TuW w w3 v3 (L ++ [x]) := by
  refine ⟨by rw [List.length_append, List.flatMap_append]; exact hown3, fun y hy => ?_, h.bel.grown hg3 h.bel.size (fun q hq => (h.own.lt q hq).1)⟩
  rcases List.mem_append.1 hy with hy | hy
  · exact h.ok y hy
  · rw [List.mem_singleton.1 hy]; exact hx
def eS (i : Int) : Ev := ⟨7, 0, i, none, 0, []⟩
def eA (t : Int) : Ev := ⟨5, t, 77, none, 0, []⟩
def eR (t : Int) : Ev := ⟨6, t, 77, none, 0, []⟩
theorem ev_none_ok (w : World) (k t i : Int) (hk : (Lit.int .u8 k).wf = true) (ht : (Lit.int .i64 t).wf = true) (hi : (Lit.int .i64 i).wf = true) : EvOk w w.heap.size ⟨k, t, i, none, 0, []⟩ := ⟨hk, ht, hi, .inl rfl, by simp, Nat.le_refl _, (by decide : (0 : Nat) ≤ maxLen)⟩
theorem nat_wf {n : Nat} (h : n ≤ 1000) : (Lit.int .i64 (n : Int)).wf = true := by
  unfold Lit.wf
  rw [Bool.and_eq_true, decide_eq_true_iff, decide_eq_true_iff]
  exact ⟨show (-9223372036854775808 : Int) ≤ (n : Int) by omega, show (n : Int) ≤ (9223372036854775807 : Int) by omega⟩
theorem ev_with {w : World} {x : Ev} {t : Int} (h : EvOk w w.heap.size x) (ht : (Lit.int .i64 t).wf = true) : EvOk w w.heap.size { x with thread := t } := ⟨h.wk, ht, h.wi, h.rd, h.wp, h.cap, h.big⟩
theorem find_bad {w : World} (A : Option Addr) (len c : Nat) (L : List Ev) (hlen : L.length = len) (hN : len ≤ 300) (rd : Rd w w.heap.size 4 evC A L) (ok : ∀ x ∈ L, EvOk w w.heap.size x) (hm : mayB L = false) :
    Calls Try.prog 25 #[.slice A len c, .bool true] w (FindP w [] 250) := by
  have HMAY := Lib.hid (may_any (c := c) false hlen (by omega) rd ok hm)
  simp only [Bool.false_eq_true, if_false] at HMAY
  go_enter Try.func25, Try.ntmps25
  go_wp2_with fail
  refine HMAY.out.mono ?_
  rintro r w1 ⟨rfl, hb1⟩
  go_wp2
  go_ret2
  exact ⟨.slice none 0 0, rfl, World.ownsRow_nil _ _ _ _, hb1⟩
set_option maxRecDepth 100000 in
set_option maxHeartbeats 3200000 in
theorem first_bad {w : World} (A : Option Addr) (len c : Nat) (L : List Ev) (hlen : L.length = len) (hN : len ≤ 300) (rd : Rd w w.heap.size 4 evC A L) (ok : ∀ x ∈ L, EvOk w w.heap.size x) (hm : mayB L = false) :
    Calls Try.prog 12 #[.slice A len c] w fun r w' => r = .returned (.tuple #[.int .i64 0, .int .i64 0, .bool false, .int .i64 250]) ∧ Below w.heap.size w w' := by
  have HF := Lib.hid (find_bad (c := c) A len L hlen hN rd ok hm)
  go_enter Try.func12, Try.ntmps12
  go_wp2_with fail
  refine HF.out.mono ?_
  rintro r w1 ⟨v, rfl, hown, hb1⟩
  obtain ⟨Av, cv, rfl⟩ := own_slice hown
  clear hown
  go_wp2
  exact bodyPost_ret (v := .tuple #[.int .i64 0, .int .i64 0, .bool false, .int .i64 250]) (by simp [results, Try.f12, go_sem]) rfl ⟨rfl, hb1⟩
/-- what First tells of turns -/
theorem turns_first {w : World} (A : Option Addr) (len c : Nat) (L : List Ev) (hlen : L.length = len) (hN : len ≤ 300) (hc : len ≤ c) (rd : Rd w w.heap.size 4 evC A L) (ok : ∀ x ∈ L, EvOk w w.heap.size x) (hg : TuGood L) (mb : Bool) (hm : mayB L = mb) :
    Calls Try.prog 12 #[.slice A len c] w fun r w' => r = .returned (.tuple #[.int .i64 0, .int .i64 0, .bool false, .int .i64 (if mb then 0 else 250)]) ∧ Below w.heap.size w w' := by
  cases mb with
  | false => exact first_bad A len c L hlen hN rd ok hm
  | true =>
    have hf := turns_none hm (by omega) hg
    have h := first_any A len c L ⟨hlen, hN, rd, ok, fun x hx => Nat.le_trans (may_path hm x hx) (by omega), hc⟩
    rw [show firstAt L = 0 by unfold firstAt; rw [hf]; rfl, show firstWith L = 0 by unfold firstWith; rw [hf]; rfl, show firstIs L = false by unfold firstIs; rw [hf]; rfl, show errL L = 0 by unfold errL; rw [hm]; rfl] at h
    exact h

set_option maxHeartbeats 25600000 in
set_option maxRecDepth 100000 in
theorem raceTurns_walk (a0 : Int) (A : Option Addr) (c : Nat) (Ts : List Tn) (w : World) (i0w : (Lit.int .i64 a0).wf = true) (rd : Rd w w.heap.size 2 tnC A Ts) (g : ∀ x ∈ Ts, TnOk w x) (hc : Ts.length ≤ c) (hm : c ≤ maxLen) :
    Calls Try.prog 5 #[.int .i64 a0, .slice A Ts.length c] w fun r w' => r = .returned (.bool true) ∧ Below w.heap.size w w' := by
  obtain ⟨i0, hi0, hz0, hz1, hz2⟩ := info_parts info26
  obtain ⟨nt, hnt⟩ : ∃ n, Ts.length = n := ⟨_, rfl⟩
  have HNT := Lib.hid hnt
  rw [hnt] at hc ⊢
  have HRT := Lib.hid rd
  have HG := Lib.hid g
  clear rd g hc hm i0w hnt
  by_cases h30 : 30 < nt
  · have h30i : (30 : Int) < (nt : Int) := by omega
    go_enter Try.func5, Try.ntmps5
    go_wp2_with fail
    refine (awake_any _).mono ?_
    rintro r w8 ⟨rfl, hb8⟩
    have HB8 := Lib.hid hb8
    clear hb8
    go_wp2
    go_ret
    exact ⟨rfl, HB8.out⟩
  have h30i : ¬ (30 : Int) < (nt : Int) := by omega
  obtain ⟨p0, hp0, ep0⟩ := u64_rem a0 5 (by omega)
  replace ep0 : (IntKind.u64.wrap a0).tmod 5 = (p0 : Int) := ep0
  obtain ⟨T, hT⟩ : ∃ T : Nat, T = p0 + 1 := ⟨_, rfl⟩
  have hT5 : T ≤ 5 := by omega
  have hT1 : 0 < T := by omega
  have HT := Lib.hid (show (1 : Int) + (p0 : Int) = (T : Int) by omega)
  clear hT
  go_enter Try.func5, Try.ntmps5
  go_upto_region 4 with fail
  rw [HT.out]
  clear ep0
  go_wp2
  go_loopw [5, 6] (fun v i wr => ∃ (n : Nat) (L : List Ev), 1 ≤ n ∧ n ≤ T ∧ i = .int .i64 n ∧ L.length + 1 = n ∧ TuW w wr v L ∧ TuShut L ∧ TuGood L) (fun _ i _ => T - (intOf i).toNat)
  case atStart => exact ⟨1, [], Nat.le_refl _, hT1, rfl, rfl, TuW.nil w, TuShut.nil, TuGood.nil⟩
  case round =>
    obtain ⟨n, L, hn1, hnT, rfl, hLn, htu, hsh, hgd⟩ := hrel
    obtain ⟨Av, cv, rfl⟩ := own_slice htu.own
    have HTU := Lib.hid htu
    have HSH := Lib.hid hsh
    have HGD := Lib.hid hgd
    clear htu hsh hgd
    by_cases hlt : n < T
    · have hni : (n : Int) < (T : Int) := by omega
      have HX := Lib.hid (ev_none_ok w 7 0 n (by decide) (by decide) (nat_wf (by omega)))
      have HB := Lib.hid (HTU.out.below ((Below.refl _ _).alloc (Nat.le_refl _) (.cells #[.int .u8 7, .int .i64 0, .int .i64 n, .slice none 0 0] 26)))
      have HO := Lib.hid HB.out.own
      have HS := Lib.hid HB.out.bel.size
      have HR := Lib.hid (rd_evb (x := eS n) (lx := 0) rfl (Blk.new wr 26 #[.int .u8 7, .int .i64 0, .int .i64 n, .slice none 0 0]))
      go_wp2_with (at_builtin; go_loud (refine wpList_append_rd _ rfl _ _ 22 rfl w.heap.size 26 i0 (.agg #[.int .u8 0, .int .i64 0, .int .i64 0, .slice none 0 0]) 4 48 Try.underlying22 hi0 hz0 hz1 hz2 rfl (by decide) _ L.length _ rfl HO.out _ _ 1 1 evC evC_len evC_one [eS n] rfl rfl HR.out (by unfold maxLen; omega) (by omega) HS.out ?_); intro v3 w3 hown3 hg3 _)
      have HP := Lib.hid (HB.out.push (x := eS n) HX.out hown3 hg3)
      clear hown3 hg3
      go_wp2
      go_roundw
      case rel => exact ⟨n + 1, L ++ [eS n], by omega, by omega, by go_num, by rw [List.length_append]; simp; omega, HP.out, HSH.out.quiet rfl, HGD.out.quiet rfl⟩
      case measure => simp [intOf] <;> omega
    · obtain rfl : T = n := by omega
      go_wp2
      go_loopw [5, 7] (fun v i wr => ∃ (q : Nat) (M : List Ev), q ≤ nt ∧ i = .int .i64 q ∧ M.length ≤ 4 + 8 * q ∧ TuW w wr v M ∧ TuShut M ∧ TuGood M) (fun _ i _ => nt - (intOf i).toNat)
      case atStart => exact ⟨0, L, by omega, rfl, by omega, HTU.out, HSH.out, HGD.out⟩
      case round =>
        obtain ⟨q, M, hq, rfl, hMl, htu, hsh, hgd⟩ := hrel
        have HTM := Lib.hid htu
        have HSM := Lib.hid hsh
        have HGM := Lib.hid hgd
        clear htu hsh hgd
        by_cases hlt : q < nt
        · obtain ⟨Aw, cw, rfl⟩ := own_slice HTM.out.own
          obtain ⟨x, hx⟩ : ∃ x, Ts[q]? = some x := ⟨_, List.getElem?_eq_getElem (by rw [HNT.out]; exact hlt)⟩
          have HXO := Lib.hid (HG.out x (List.mem_of_getElem? hx))
          have HX := Lib.hid hx
          obtain ⟨b, off, rfl, hb, c0, c1⟩ := (HRT.out.below HTM.out.bel).tn hx
          have hqI : (q : Int) < (nt : Int) := by omega
          obtain ⟨le, hle⟩ : ∃ m, x.evs.length = m := ⟨_, rfl⟩
          obtain ⟨la, hla⟩ : ∃ m, x.la = m := ⟨_, rfl⟩
          obtain ⟨lc, hlc⟩ : ∃ m, x.lc = m := ⟨_, rfl⟩
          obtain ⟨th, hth⟩ : ∃ m, x.thread = m := ⟨_, rfl⟩
          have HC := Lib.hid (fun W (hW : Below w.heap.size w W) => ((HRT.out.below hW).tn hx))
          rw [hle, hla, hlc] at c1
          rw [hth] at c0
          simp only [hle, hla, hlc, hth] at HC
          have HLE := Lib.hid hle
          have HRE := Lib.hid (show Rd w w.heap.size 4 evC la x.evs by rw [← hla]; exact HXO.out.rd)
          clear hx hle hla hlc hth
          by_cases h6 : 6 < le
          · have h6i : (6 : Int) < (le : Int) := by omega
            go_wp2_with fail
            refine (awake_any _).mono ?_
            rintro r w8 ⟨rfl, hb8⟩
            have HB8 := Lib.hid (HTM.out.bel.trans (hb8.mono HTM.out.bel.size))
            clear hb8
            go_wp2
            go_ret
            exact ⟨rfl, HB8.out⟩
          · have h6i : ¬ (6 : Int) < (le : Int) := by omega
            obtain ⟨t, ht, et⟩ := u64_rem th T (by omega)
            have hTz : ¬ (T : Int) = 0 := by omega
            have hTd : decide ((T : Int) = 0) = false := decide_eq_false hTz
            have hTe : ((T : Int) == 0) = false := beq_eq_false_iff_ne.2 hTz
            have htwf := nat_wf (n := t) (by omega)
            have HTW := Lib.hid htwf
            have HXA := Lib.hid (ev_none_ok w 5 t 77 (by decide) htwf (by decide))
            have HXR := Lib.hid (ev_none_ok w 6 t 77 (by decide) htwf (by decide))
            have HB := Lib.hid (HTM.out.below ((Below.refl _ _).alloc (Nat.le_refl _) (.cells #[.int .u8 5, .int .i64 t, .int .i64 77, .slice none 0 0] 26)))
            have HO := Lib.hid HB.out.own
            have HS := Lib.hid HB.out.bel.size
            have HR := Lib.hid (rd_evb (x := eA t) (lx := 0) rfl (Blk.new wr 26 #[.int .u8 5, .int .i64 t, .int .i64 77, .slice none 0 0]))
            clear htwf
            go_upto_region 15 with fail
            go_wp2_with (at_builtin; go_loud (refine wpList_append_rd _ rfl _ _ 22 rfl w.heap.size 26 i0 (.agg #[.int .u8 0, .int .i64 0, .int .i64 0, .slice none 0 0]) 4 48 Try.underlying22 hi0 hz0 hz1 hz2 rfl (by decide) _ M.length _ rfl HO.out _ _ 1 1 evC evC_len evC_one [eA t] rfl rfl HR.out (by unfold maxLen; omega) (by omega) HS.out ?_); intro v3 w3 hown3 hg3 _)
            have HP := Lib.hid (HB.out.push (x := eA t) HXA.out hown3 hg3)
            have HOP := Lib.hid (tu_acq (x := eA t) HSM.out rfl rfl)
            have HGP := Lib.hid (HGM.out.quiet (x := eA t) rfl)
            clear hown3 hg3 c0 c1
            go_wp2
            go_loopw [5, 9] (fun v j wr => ∃ (j' : Nat) (N : List Ev), j' ≤ le ∧ j = .int .i64 j' ∧ N.length ≤ 4 + 8 * q + 1 + j' ∧ TuW w wr v N ∧ TuOpen N t ∧ TuGood N) (fun _ j _ => le - (intOf j).toNat)
            case atStart => exact ⟨0, M ++ [eA t], by omega, rfl, by rw [List.length_append]; simp; omega, HP.out, HOP.out, HGP.out⟩
            case round =>
              obtain ⟨j, N, hj, rfl, hNl, htu, hop, hgd⟩ := hrel
              have HTN := Lib.hid htu
              have HON := Lib.hid hop
              have HGN := Lib.hid hgd
              obtain ⟨Ay, cy, rfl⟩ := own_slice HTN.out.own
              obtain ⟨b', off', eA', _, d0, d1⟩ := HC.out _ HTN.out.bel
              cases eA'
              clear htu hop hgd d0
              by_cases hjl : j < le
              · have hjI : (j : Int) < (le : Int) := by omega
                obtain ⟨y, hy⟩ : ∃ y, x.evs[j]? = some y := ⟨_, List.getElem?_eq_getElem (by rw [HLE.out]; exact hjl)⟩
                have HYO := Lib.hid (HXO.out.ok y (List.mem_of_getElem? hy))
                obtain ⟨b2, off2, rfl, hb2, y0, y1, y2, y3⟩ := (HRE.out.below HTN.out.bel).ev hy
                obtain ⟨ly, hly⟩ : ∃ m, y.path.length = m := ⟨_, rfl⟩
                rw [hly] at y3
                have HLY := Lib.hid hly
                obtain ⟨ab, hab⟩ : ∃ a, accB y.kind = a := ⟨_, rfl⟩
                obtain ⟨W1, hW1⟩ : ∃ W1, W1 = wr.alloc (.cells #[.int .u8 y.kind, .int .i64 y.thread, .int .i64 y.id, .slice y.pa ly y.pc] 26) := ⟨_, rfl⟩
                have hbW : Below wr.heap.size wr W1 := by rw [hW1]; exact (Below.refl _ _).alloc (Nat.le_refl _) _
                have hbk : Blk W1 wr.heap.size 26 #[.int .u8 y.kind, .int .i64 y.thread, .int .i64 y.id, .slice y.pa ly y.pc] := by rw [hW1]; exact Blk.new _ _ _
                have HBK := Lib.hid hbk
                have HT1 := Lib.hid (HTN.out.below hbW)
                have q0 : W1.cell? ⟨wr.heap.size, 0, none⟩ = some (.int .u8 y.kind) := hbk.cell 0
                have q1 : W1.cell? ⟨wr.heap.size, 1, none⟩ = some (.int .i64 y.thread) := hbk.cell 1
                have q2 : W1.cell? ⟨wr.heap.size, 2, none⟩ = some (.int .i64 y.id) := hbk.cell 2
                have q3 : W1.cell? ⟨wr.heap.size, 3, none⟩ = some (.slice y.pa ly y.pc) := hbk.cell 3
                have q4 := hbk.lt
                have HW1 := Lib.hid hW1
                have HAC := Lib.hid (fun W => access_any (k := y.kind) (t := y.thread) (i := y.id) (pa := y.pa) (pl := ly) (pc := y.pc) (w := W) ab hab)
                have HAB := Lib.hid hab
                clear hy hly hab hW1 hbW hbk
                go_upto_region 20 with fail
                rw [← HW1.out]
                clear y0 y1 y2 y3 d1 HW1
                go_wp2_with fail
                refine (HAC.out _).mono ?_
                rintro r w2 ⟨rfl, h2⟩
                have hbk := HBK.out.below h2 HBK.out.lt
                have HT2 := Lib.hid (HT1.out.below h2)
                have HBK2 := Lib.hid hbk
                clear q0 q1 q2 q3 q4 h2 HAC
                cases ab
                · clear hbk
                  go_wp2
                  go_roundw
                  case rel => exact ⟨j + 1, N, by omega, by go_num, by omega, HT2.out, HON.out, HGN.out⟩
                  case measure => simp [intOf] <;> omega
                · have q4 := hbk.lt
                  have q5 := hbk.frozen 1
                  have q1 : w2.cell? ⟨wr.heap.size, 1, none⟩ = some (.int .i64 y.thread) := hbk.cell 1
                  have hbs : Blk (w2.setCell ⟨wr.heap.size, 1, none⟩ (.int .i64 t)) wr.heap.size 26 #[.int .u8 y.kind, .int .i64 t, .int .i64 y.id, .slice y.pa ly y.pc] := hbk.set_ 1 (.int .i64 t)
                  have HT3 := Lib.hid (HT2.out.set (g := wr.heap.size) (o := 1) HTN.out.bel.size (fun q e => (HTN.out.own.lt q e).2) (.int .i64 t))
                  obtain ⟨W3, hW3⟩ : ∃ W3, W3 = w2.setCell ⟨wr.heap.size, 1, none⟩ (.int .i64 t) := ⟨_, rfl⟩
                  have HW3 := Lib.hid hW3
                  rw [← hW3] at hbs HT3
                  have p0 : W3.cell? ⟨wr.heap.size, 0, none⟩ = some (.int .u8 y.kind) := hbs.cell 0
                  have p1 : W3.cell? ⟨wr.heap.size, 1, none⟩ = some (.int .i64 t) := hbs.cell 1
                  have p2 : W3.cell? ⟨wr.heap.size, 2, none⟩ = some (.int .i64 y.id) := hbs.cell 2
                  have p3 : W3.cell? ⟨wr.heap.size, 3, none⟩ = some (.slice y.pa ly y.pc) := hbs.cell 3
                  have p4 := hbs.lt
                  clear hW3 hbs hbk
                  go_upto_region 22 with fail
                  rw [← HW3.out]
                  clear q1 q4 q5 HW3
                  have HB4 := Lib.hid (HT3.out.below ((Below.refl _ _).alloc (Nat.le_refl _) (.cells #[.int .u8 y.kind, .int .i64 t, .int .i64 y.id, .slice y.pa ly y.pc] 26)))
                  have HO4 := Lib.hid HB4.out.own
                  have HS4 := Lib.hid HB4.out.bel.size
                  have HR4 := Lib.hid (rd_evb (x := { y with thread := (t : Int) }) (lx := ly) HLY.out (Blk.new W3 26 #[.int .u8 y.kind, .int .i64 t, .int .i64 y.id, .slice y.pa ly y.pc]))
                  go_wp2_with (at_builtin; go_loud (refine wpList_append_rd _ rfl _ _ 22 rfl w.heap.size 26 i0 (.agg #[.int .u8 0, .int .i64 0, .int .i64 0, .slice none 0 0]) 4 48 Try.underlying22 hi0 hz0 hz1 hz2 rfl (by decide) _ N.length _ rfl HO4.out _ _ 1 1 evC evC_len evC_one [({ y with thread := (t : Int) } : Ev)] rfl rfl HR4.out (by unfold maxLen; omega) (by omega) HS4.out ?_); intro v3 w3 hown3 hg3 _)
                  have HP4 := Lib.hid (HB4.out.push (x := { y with thread := (t : Int) }) (ev_with HYO.out HTW.out) hown3 hg3)
                  have HON4 := Lib.hid (tu_acc (x := { y with thread := (t : Int) }) HON.out rfl)
                  have HGN4 := Lib.hid (tu_accG (x := { y with thread := (t : Int) }) HON.out HGN.out rfl)
                  clear hown3 hg3
                  go_wp2
                  go_roundw
                  case rel => exact ⟨j + 1, _, by omega, by go_num, by rw [List.length_append]; simp; omega, HP4.out, HON4.out, HGN4.out⟩
                  case measure => simp [intOf] <;> omega
              · have hjI : ¬ (j : Int) < (le : Int) := by omega
                have HB5 := Lib.hid (HTN.out.below ((Below.refl _ _).alloc (Nat.le_refl _) (.cells #[.int .u8 6, .int .i64 t, .int .i64 77, .slice none 0 0] 26)))
                have HO5 := Lib.hid HB5.out.own
                have HS5 := Lib.hid HB5.out.bel.size
                have HR5 := Lib.hid (rd_evb (x := eR t) (lx := 0) rfl (Blk.new wr 26 #[.int .u8 6, .int .i64 t, .int .i64 77, .slice none 0 0]))
                go_upto_region 23 with fail
                go_wp2_with (at_builtin; go_loud (refine wpList_append_rd _ rfl _ _ 22 rfl w.heap.size 26 i0 (.agg #[.int .u8 0, .int .i64 0, .int .i64 0, .slice none 0 0]) 4 48 Try.underlying22 hi0 hz0 hz1 hz2 rfl (by decide) _ N.length _ rfl HO5.out _ _ 1 1 evC evC_len evC_one [eR t] rfl rfl HR5.out (by unfold maxLen; omega) (by omega) HS5.out ?_); intro v3 w3 hown3 hg3 _)
                have HP5 := Lib.hid (HB5.out.push (x := eR t) HXR.out hown3 hg3)
                have HSN5 := Lib.hid (tu_rel (x := eR t) HON.out rfl rfl rfl)
                have HGN5 := Lib.hid (HGN.out.quiet (x := eR t) rfl)
                clear hown3 hg3 d1
                go_wp2
                go_roundw
                case rel => exact ⟨q + 1, N ++ [eR t], by omega, by go_num, by rw [List.length_append]; simp; omega, HP5.out, HSN5.out, HGN5.out⟩
                case measure => simp [intOf] <;> omega
        · obtain ⟨Aw, cw, rfl, hrd, hcap, _⟩ := own_rd evC_len HTM.out.own
          have hqI : ¬ (q : Int) < (nt : Int) := by omega
          obtain ⟨mb, hmb⟩ : ∃ m, mayB M = m := ⟨_, rfl⟩
          have hok : ∀ x ∈ M, EvOk wr wr.heap.size x := fun x hx => ((HTM.out.ok x hx).below HTM.out.bel).more HTM.out.bel.size
          have HFI := Lib.hid (turns_first (c := cw) Aw M.length M rfl (by omega) hcap hrd hok HGM.out mb hmb)
          have HMY := Lib.hid (fun W (hW : Below wr.heap.size wr W) => may_any (c := cw) mb (L := M) rfl (by omega) ((hrd.below hW).more hW.size) (fun x hx => ((hok x hx).below hW).more hW.size) hmb)
          have HBB := Lib.hid HTM.out.bel
          clear hrd hok hmb hcap
          cases mb
          · simp only [Bool.false_eq_true, if_false] at HFI HMY
            go_wp2_with fail
            refine HFI.out.mono ?_
            rintro r w5 ⟨rfl, h5⟩
            have HV5 := Lib.hid h5
            clear h5
            go_wp2_with fail
            refine (HMY.out _ HV5.out).mono ?_
            rintro r w6 ⟨rfl, h6⟩
            have HV6 := Lib.hid (HBB.out.trans ((HV5.out.trans (h6.mono HV5.out.size)).mono HBB.out.size))
            clear h6
            go_wp2_with fail
            refine (awake_any _).mono ?_
            rintro r w8 ⟨rfl, hb8⟩
            have HB8 := Lib.hid (HV6.out.trans (hb8.mono HV6.out.size))
            clear hb8
            go_wp2
            go_ret
            exact ⟨rfl, HB8.out⟩
          · simp only [if_true] at HFI HMY
            go_wp2_with fail
            refine HFI.out.mono ?_
            rintro r w5 ⟨rfl, h5⟩
            have HV5 := Lib.hid h5
            clear h5
            go_wp2_with fail
            refine (HMY.out _ HV5.out).mono ?_
            rintro r w6 ⟨rfl, h6⟩
            have HV6 := Lib.hid (HBB.out.trans ((HV5.out.trans (h6.mono HV5.out.size)).mono HBB.out.size))
            clear h6
            go_wp2_with fail
            refine (awake_any _).mono ?_
            rintro r w8 ⟨rfl, hb8⟩
            have HB8 := Lib.hid (HV6.out.trans (hb8.mono HV6.out.size))
            clear hb8
            go_wp2
            go_ret
            exact ⟨rfl, HB8.out⟩
end Go.Proofs.Ytpcjcmbhoglnfaa

