/- Race: contracts of find, First, All, Ahead. -/
import Derived.Test.YtpcjcmbhoglnfaaG
namespace Go.Proofs.Ytpcjcmbhoglnfaa
open Go.RowKit Go.ChangeMaps Go.MapKept
set_option linter.unusedVariables false
set_option linter.unusedSimpArgs false

theorem DS.row36 {w w' : World} {B gd N b s n : Nat} {D : Det} {v : Value} {xs : List Value} (h : DS w B gd N D) (ho : w.ownsRow b 36 s v n xs) (hg : w.grownBy w' v.ownBlock) : DS w' B gd N D := by
  obtain ⟨gm, vT, vK, xT, xK, f, h⟩ := h
  cases e : v.ownBlock with
  | none =>
    rw [e] at hg
    exact ⟨gm, vT, vK, xT, xK, f, h.below ⟨hg.os, hg.tape, hg.output, hg.size, fun i hi => hg.block i hi (by simp)⟩⟩
  | some g =>
    rw [e] at hg
    have ht := own_ty ho e
    have hcell : ∀ {v : Value} {C : List Int}, Ck w v C → Ck w' v C := fun hc => own_gty hc hg ht (by decide)
    exact ⟨gm, vT, vK, xT, xK, f, h.hB, h.hm, h.blk.gty hg ht (by decide), own_gty h.oT hg ht (by decide), own_gty h.oK hg ht (by decide), ⟨h.cT.1, fun i v C h1 h2 => hcell (h.cT.2 i v C h1 h2)⟩, ⟨h.cK.1, fun i v C h1 h2 => hcell (h.cK.2 i v C h1 h2)⟩, h.mp.gty hg ht,
      fun i hi => ⟨fun v hv => hcell ((h.mo i hi).1 v hv), (h.mo i hi).2⟩, h.ne⟩
/-- a row of events that came in -/
structure EvRow (w : World) (A : Option Addr) (ln c : Nat) (L : List Ev) : Prop where
  len : L.length = ln
  N : ln ≤ 300
  rd : Rd w w.heap.size 4 evC A L
  ok : ∀ x ∈ L, EvOk w w.heap.size x
  hp : ∀ x ∈ L, x.path.length ≤ 1000000
  cap : ln ≤ c
theorem EvRow.below {w w' : World} {A : Option Addr} {len c : Nat} {L : List Ev} (h : EvRow w A len c L) (hb : Below w.heap.size w w') : EvRow w' A len c L :=
  ⟨h.len, h.N, (h.rd.below hb).more hb.size, fun x hx => ((h.ok x hx).below hb).more hb.size, h.hp, h.cap⟩
/-- what find tells -/
def findL (L : List Ev) (one : Bool) : List PR := if mayB L then (if one then (allUp L L.length).take 1 else allUp L L.length) else []
def errL (L : List Ev) : Int := if mayB L then 0 else 250
def FindP (w : World) (R : List PR) (e : Int) (r : Ending) (w' : World) : Prop := ∃ v, r = .returned (.tuple #[v, .int .i64 e]) ∧ w'.ownsRow w.heap.size 36 2 v R.length (R.flatMap pairC) ∧ Below w.heap.size w w'

set_option maxRecDepth 100000 in
set_option maxHeartbeats 6400000 in
theorem find_false {w : World} (A : Option Addr) (len c : Nat) (L : List Ev) (h : EvRow w A len c L) :
    Calls Try.prog 25 #[.slice A len c, .bool false] w (FindP w (findL L false) (errL L)) := by
  have HR := Lib.hid h
  have hN := h.N
  obtain ⟨mb, hmb⟩ : ∃ b, mayB L = b := ⟨_, rfl⟩
  have HM := Lib.hid hmb
  have HMAY := Lib.hid (may_any (c := c) mb h.len (by omega) h.rd h.ok hmb)
  clear h hmb
  cases mb with
  | false =>
    simp only [Bool.false_eq_true, if_false] at HMAY
    go_enter Try.func25, Try.ntmps25
    go_wp2_with fail
    refine HMAY.out.mono ?_
    rintro r w1 ⟨rfl, hb1⟩
    go_wp2
    go_ret2
    refine ⟨.slice none 0 0, ?_, ?_, hb1⟩
    · unfold errL; rw [HM.out]; rfl
    · unfold findL; rw [HM.out]; exact World.ownsRow_nil _ _ _ _
  | true =>
    simp only [if_true] at HMAY
    go_enter Try.func25, Try.ntmps25
    go_wp2_with fail
    refine HMAY.out.mono ?_
    rintro r w1 ⟨rfl, hb1⟩
    have HB1 := Lib.hid hb1
    clear hb1 HMAY
    go_wp2_with fail
    refine (start_any w1).mono ?_
    rintro r w2 ⟨gd, rfl, hds, hb2⟩
    have HDS := Lib.hid hds
    have HB2 := Lib.hid (HB1.out.trans (hb2.mono HB1.out.size))
    have HSZ := Lib.hid HB1.out.size
    clear hds hb2
    obtain ⟨B, hB⟩ : ∃ B, B = w1.heap.size := ⟨_, rfl⟩
    rw [← hB] at HDS HSZ
    clear hB HB1
    go_wp2
    go_loopw [8, 19] (fun v i wr => ∃ m : Nat, m ≤ len ∧ i = .int .i64 m ∧ DS wr B gd m (detL (L.take m)) ∧ wr.ownsRow w.heap.size 36 2 v (allUp L m).length ((allUp L m).flatMap pairC) ∧ Below w.heap.size w wr) (fun _ i _ => len - (intOf i).toNat)
    case atStart => exact ⟨0, by omega, rfl, HDS.out, World.ownsRow_nil _ _ _ _, HB2.out⟩
    case round =>
      obtain ⟨m, hm, rfl, hds, hown, hbl⟩ := hrel
      have HD := Lib.hid hds
      have HOWN := Lib.hid hown
      have HBL := Lib.hid hbl
      clear hds hown hbl
      by_cases hlt : m < len
      · have hml : m < L.length := by rw [HR.out.len]; exact hlt
        have hxm := at_evAt hml
        have hrow := HR.out.below HBL.out
        obtain ⟨b, off, rfl, hb, x0, x1, x2, x3⟩ := hrow.rd.ev hxm
        obtain ⟨x, hx⟩ : ∃ x, x = evAt L m := ⟨_, rfl⟩
        rw [← hx] at x0 x1 x2 x3 hxm
        obtain ⟨lx, hlx⟩ : ∃ q, x.path.length = q := ⟨_, rfl⟩
        rw [hlx] at x3
        have hok := hrow.ok x (List.mem_of_getElem? hxm)
        obtain ⟨hfit, hdok, hnext⟩ := det_fit HM.out (by rw [HR.out.len]; omega) hxm hok.wi
        have hwb : Below wr.heap.size wr (wr.alloc (.cells #[.int .u8 x.kind, .int .i64 x.thread, .int .i64 x.id, .slice x.pa lx x.pc] 26)) := (Below.refl _ wr).alloc (Nat.le_refl _) _
        have hdo := ddoes_any x lx hfit (HD.out.below hwb) hdok
        have HDO := Lib.hid hdo
        have HWB := Lib.hid hwb
        have HNX := Lib.hid hnext
        have hmi : (m : Int) < (len : Int) := by omega
        have hm0 : (0 : Int) ≤ (m : Int) := by omega
        clear hfit hdok hnext hdo hwb hxm hok hrow hlx hx
        go_wp2_with fail
        refine HDO.out.mono ?_
        rintro r w3 ⟨rfl, hd3, hk3, hb3⟩
        have hBw := HSZ.out
        have hbl3 : Below w.heap.size w w3 := (HBL.out.trans (HWB.out.mono HBL.out.size)).trans (hb3.mono hBw)
        have hown3 := hk3.own (own_below HOWN.out HWB.out) (by decide) (by decide)
        rw [← HNX.out] at hd3
        have HD3 := Lib.hid hd3
        have HBL3 := Lib.hid hbl3
        have HOWN3 := Lib.hid hown3
        clear hd3 hk3 hb3 hbl3 hown3 x0 x1 x2 x3 HDO hBw
        have hr3 := HR.out.below HBL3.out
        have hraces := races_false (some ⟨b, off, none⟩) len c L HR.out.len (by omega) hr3.rd hr3.ok hr3.hp m (by omega) (fun i hi => kc_at (n := m + 1) (by omega) (by rw [HR.out.len]; omega)) HD3.out (by rw [detL_len, List.length_take]; omega)
        have HRC := Lib.hid hraces
        clear hraces hr3
        go_wp2_with fail
        refine HRC.out.mono ?_
        rintro r w4 ⟨v4, rfl, hown4, hb4⟩
        obtain ⟨A4, c4, rfl, hrd4, _⟩ := own_rd pairC_len hown4
        have HRD4 := Lib.hid hrd4
        have HD4 := Lib.hid (HD3.out.below hb4)
        have HBL4 := Lib.hid (HBL3.out.trans (hb4.mono HBL3.out.size))
        have HOWN4 := Lib.hid (own_below HOWN3.out hb4)
        have hsz4 := HBL4.out.size
        have hal := allUp_len L m
        have hrl := rUp_len L m m
        have hmm : m * m ≤ 90000 := Nat.le_trans (Nat.mul_le_mul (show m ≤ 300 by omega) (show m ≤ 300 by omega)) (by decide)
        obtain ⟨rl, hrl2⟩ : ∃ q, (rUp L m m).length = q := ⟨_, rfl⟩
        have hrl3 : rl ≤ 300 := by rw [← hrl2]; omega
        rw [hrl2]
        have HRL := Lib.hid hrl2
        obtain ⟨i0, hi0, hz0, hz1, hz2⟩ := info_parts info36
        clear hown4 hrd4 hb4 HRC hrl2 hrl
        go_wp2_with (at_builtin; (refine wpList_append_rd _ rfl _ _ 30 rfl w.heap.size 36 i0 (.agg #[.int .i64 0, .int .i64 0]) 2 16 Try.underlying30 hi0 hz0 hz1 hz2 rfl (by decide) _ (allUp L m).length ((allUp L m).flatMap pairC) rfl HOWN4.out w4.heap.size A4 rl c4 pairC pairC_len pairC_one (rUp L m m) HRL.out rfl HRD4.out ?c3 ?c4 ?c5 ?_))
        case c3 => unfold maxLen; omega
        case c4 => omega
        case c5 => exact hsz4
        intro v5 w5 hown5 hg5 hx5
        have hbl5 : Below w.heap.size w w5 := HBL4.out.grown hg5 hsz4 (fun q e => (HOWN4.out.lt q e).1)
        have HD5 := Lib.hid (HD4.out.row36 HOWN4.out hg5)
        have HBL5 := Lib.hid hbl5
        have hau := allUp_succ L m
        have HAU := Lib.hid hau
        have hown6 : w5.ownsRow w.heap.size 36 2 v5 (allUp L (m + 1)).length ((allUp L (m + 1)).flatMap pairC) := by
          rw [HAU.out, List.length_append, List.flatMap_append, HRL.out]
          exact hown5
        have HO6 := Lib.hid hown6
        clear hown5 hown6 hau hbl5 hg5 hx5 hi0 hz0 hz1 hz2 hal
        go_wp2
        go_roundw
        case rel => exact ⟨m + 1, by omega, by go_num, HD5.out, HO6.out, HBL5.out⟩
        case measure => simp [intOf] <;> omega
      · obtain rfl : m = len := by omega
        go_wp2
        go_ret2
        refine ⟨?vz, ?hz1, ?hz2, HBL.out⟩
        case hz1 => unfold errL; rw [HM.out]; rfl
        case hz2 =>
          have e : findL L false = allUp L m := by
            unfold findL
            rw [HM.out, if_pos rfl, HR.out.len]
            rfl
          rw [e]
          exact HOWN.out

set_option maxRecDepth 100000 in
set_option maxHeartbeats 6400000 in
theorem find_true {w : World} (A : Option Addr) (len c : Nat) (L : List Ev) (h : EvRow w A len c L) :
    Calls Try.prog 25 #[.slice A len c, .bool true] w (FindP w (findL L true) (errL L)) := by
  have HR := Lib.hid h
  have hN := h.N
  obtain ⟨mb, hmb⟩ : ∃ b, mayB L = b := ⟨_, rfl⟩
  have HM := Lib.hid hmb
  have HMAY := Lib.hid (may_any (c := c) mb h.len (by omega) h.rd h.ok hmb)
  clear h hmb
  cases mb with
  | false =>
    simp only [Bool.false_eq_true, if_false] at HMAY
    go_enter Try.func25, Try.ntmps25
    go_wp2_with fail
    refine HMAY.out.mono ?_
    rintro r w1 ⟨rfl, hb1⟩
    go_wp2
    go_ret2
    refine ⟨.slice none 0 0, ?_, ?_, hb1⟩
    · unfold errL; rw [HM.out]; rfl
    · unfold findL; rw [HM.out]; exact World.ownsRow_nil _ _ _ _
  | true =>
    simp only [if_true] at HMAY
    go_enter Try.func25, Try.ntmps25
    go_wp2_with fail
    refine HMAY.out.mono ?_
    rintro r w1 ⟨rfl, hb1⟩
    have HB1 := Lib.hid hb1
    clear hb1 HMAY
    go_wp2_with fail
    refine (start_any w1).mono ?_
    rintro r w2 ⟨gd, rfl, hds, hb2⟩
    have HDS := Lib.hid hds
    have HB2 := Lib.hid (HB1.out.trans (hb2.mono HB1.out.size))
    have HSZ := Lib.hid HB1.out.size
    clear hds hb2
    obtain ⟨B, hB⟩ : ∃ B, B = w1.heap.size := ⟨_, rfl⟩
    rw [← hB] at HDS HSZ
    clear hB HB1
    go_wp2
    go_loopw [8, 19] (fun v i wr => ∃ m : Nat, m ≤ len ∧ i = .int .i64 m ∧ DS wr B gd m (detL (L.take m)) ∧ wr.ownsRow w.heap.size 36 2 v (allUp L m).length ((allUp L m).flatMap pairC) ∧ Below w.heap.size w wr ∧ allUp L m = []) (fun _ i _ => len - (intOf i).toNat)
    case atStart => exact ⟨0, by omega, rfl, HDS.out, World.ownsRow_nil _ _ _ _, HB2.out, rfl⟩
    case round =>
      obtain ⟨m, hm, rfl, hds, hown, hbl, hnl⟩ := hrel
      have HD := Lib.hid hds
      have HOWN := Lib.hid hown
      have HBL := Lib.hid hbl
      have HNL := Lib.hid hnl
      clear hnl
      clear hds hown hbl
      by_cases hlt : m < len
      · have hml : m < L.length := by rw [HR.out.len]; exact hlt
        have hxm := at_evAt hml
        have hrow := HR.out.below HBL.out
        obtain ⟨b, off, rfl, hb, x0, x1, x2, x3⟩ := hrow.rd.ev hxm
        obtain ⟨x, hx⟩ : ∃ x, x = evAt L m := ⟨_, rfl⟩
        rw [← hx] at x0 x1 x2 x3 hxm
        obtain ⟨lx, hlx⟩ : ∃ q, x.path.length = q := ⟨_, rfl⟩
        rw [hlx] at x3
        have hok := hrow.ok x (List.mem_of_getElem? hxm)
        obtain ⟨hfit, hdok, hnext⟩ := det_fit HM.out (by rw [HR.out.len]; omega) hxm hok.wi
        have hwb : Below wr.heap.size wr (wr.alloc (.cells #[.int .u8 x.kind, .int .i64 x.thread, .int .i64 x.id, .slice x.pa lx x.pc] 26)) := (Below.refl _ wr).alloc (Nat.le_refl _) _
        have hdo := ddoes_any x lx hfit (HD.out.below hwb) hdok
        have HDO := Lib.hid hdo
        have HWB := Lib.hid hwb
        have HNX := Lib.hid hnext
        have hmi : (m : Int) < (len : Int) := by omega
        have hm0 : (0 : Int) ≤ (m : Int) := by omega
        clear hfit hdok hnext hdo hwb hxm hok hrow hlx hx
        go_wp2_with fail
        refine HDO.out.mono ?_
        rintro r w3 ⟨rfl, hd3, hk3, hb3⟩
        have hBw := HSZ.out
        have hbl3 : Below w.heap.size w w3 := (HBL.out.trans (HWB.out.mono HBL.out.size)).trans (hb3.mono hBw)
        have hown3 := hk3.own (own_below HOWN.out HWB.out) (by decide) (by decide)
        rw [← HNX.out] at hd3
        have HD3 := Lib.hid hd3
        have HBL3 := Lib.hid hbl3
        have HOWN3 := Lib.hid hown3
        clear hd3 hk3 hb3 hbl3 hown3 x0 x1 x2 x3 HDO hBw
        have hr3 := HR.out.below HBL3.out
        have hraces := races_true (some ⟨b, off, none⟩) len c L HR.out.len (by omega) hr3.rd hr3.ok hr3.hp m (by omega) (fun i hi => kc_at (n := m + 1) (by omega) (by rw [HR.out.len]; omega)) HD3.out (by rw [detL_len, List.length_take]; omega)
        have HRC := Lib.hid hraces
        clear hraces hr3
        go_wp2_with fail
        refine HRC.out.mono ?_
        rintro r w4 ⟨v4, rfl, hown4, hb4⟩
        obtain ⟨A4, c4, rfl, hrd4, _⟩ := own_rd pairC_len hown4
        have HRD4 := Lib.hid hrd4
        have HD4 := Lib.hid (HD3.out.below hb4)
        have HBL4 := Lib.hid (HBL3.out.trans (hb4.mono HBL3.out.size))
        have HOWN4 := Lib.hid (own_below HOWN3.out hb4)
        have hsz4 := HBL4.out.size
        have hal := allUp_len L m
        have hrl := rUp_len L m m
        have hmm : m * m ≤ 90000 := Nat.le_trans (Nat.mul_le_mul (show m ≤ 300 by omega) (show m ≤ 300 by omega)) (by decide)
        obtain ⟨rl, hrl2⟩ : ∃ q, ((rUp L m m).take 1).length = q := ⟨_, rfl⟩
        have hrl3 : rl ≤ 300 := by rw [← hrl2]; rw [List.length_take]; omega
        rw [hrl2]
        have HRL := Lib.hid hrl2
        obtain ⟨i0, hi0, hz0, hz1, hz2⟩ := info_parts info36
        clear hown4 hrd4 hb4 HRC hrl2 hrl
        go_wp2_with (at_builtin; (refine wpList_append_rd _ rfl _ _ 30 rfl w.heap.size 36 i0 (.agg #[.int .i64 0, .int .i64 0]) 2 16 Try.underlying30 hi0 hz0 hz1 hz2 rfl (by decide) _ (allUp L m).length ((allUp L m).flatMap pairC) rfl HOWN4.out w4.heap.size A4 rl c4 pairC pairC_len pairC_one ((rUp L m m).take 1) HRL.out rfl HRD4.out ?c3 ?c4 ?c5 ?_))
        case c3 => unfold maxLen; omega
        case c4 => omega
        case c5 => exact hsz4
        intro v5 w5 hown5 hg5 hx5
        have hbl5 : Below w.heap.size w w5 := HBL4.out.grown hg5 hsz4 (fun q e => (HOWN4.out.lt q e).1)
        have HD5 := Lib.hid (HD4.out.row36 HOWN4.out hg5)
        have HBL5 := Lib.hid hbl5
        have hau := allUp_succ L m
        have HAU := Lib.hid hau
        have hown6 : w5.ownsRow w.heap.size 36 2 v5 rl (((rUp L m m).take 1).flatMap pairC) := by
          rw [HNL.out] at hown5
          simpa using hown5
        have HO6 := Lib.hid hown6
        obtain ⟨A6, c6, rfl⟩ := own_slice hown6
        clear hown5 hown6 hau hbl5 hg5 hx5 hi0 hz0 hz1 hz2 hal
        by_cases hr0 : rl = 0
        · subst hr0
          have hnil : rUp L m m = [] := by
            have := HRL.out
            rw [List.length_take] at this
            exact List.eq_nil_of_length_eq_zero (by omega)
          have hau2 : allUp L (m + 1) = [] := by rw [HAU.out, HNL.out, hnil]; rfl
          have HA2 := Lib.hid hau2
          have HNI := Lib.hid hnil
          clear hau2 hnil
          go_wp2
          go_roundw
          case rel =>
            refine ⟨m + 1, by omega, by go_num, HD5.out, ?_, HBL5.out, HA2.out⟩
            have h := HO6.out
            rw [HNI.out] at h
            rw [HA2.out]
            exact h
          case measure => simp [intOf] <;> omega
        · have hr1 : rl = 1 := by
            have := HRL.out
            rw [List.length_take] at this
            omega
          subst hr1
          go_wp2
          go_ret2
          refine ⟨?v, ?h1, ?h2, HBL5.out⟩
          case h1 => unfold errL; rw [HM.out]; rfl
          case h2 =>
            have e : findL L true = (rUp L m m).take 1 := by
              obtain ⟨l, hl⟩ := allUp_pre L (show m + 1 ≤ L.length by rw [HR.out.len]; omega)
              unfold findL
              rw [HM.out, if_pos rfl, if_pos rfl, hl, HAU.out, HNL.out, List.nil_append]
              have := HRL.out
              rw [List.length_take] at this
              rw [List.take_append_of_le_length (by omega)]
            rw [e, HRL.out]
            exact HO6.out
      · obtain rfl : m = len := by omega
        go_wp2
        go_ret2
        refine ⟨?vz, ?hz1, ?hz2, HBL.out⟩
        case hz1 => unfold errL; rw [HM.out]; rfl
        case hz2 =>
          have e : findL L true = allUp L m := by
            unfold findL
            rw [HM.out, if_pos rfl, HR.out.len]
            rw [if_pos rfl, HNL.out]; rfl
          rw [e]
          exact HOWN.out
end Go.Proofs.Ytpcjcmbhoglnfaa
