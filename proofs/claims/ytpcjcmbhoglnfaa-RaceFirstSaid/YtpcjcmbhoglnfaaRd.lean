/- Race: contracts of the document's path and Read. -/
import Derived.Test.YtpcjcmbhoglnfaaI
import Derived.Test.YtpcjcmbhoglnfaaS
import Derived.Deep.DeepCutAuto
namespace Go.Proofs.Ytpcjcmbhoglnfaa
open Go.RowKit Go.ChangeMaps Go.MapKept
set_option linter.unusedVariables false
set_option linter.unusedSimpArgs false

set_option maxHeartbeats 1600000 in
theorem refPath_any (A : Option Addr) (len c B : Nat) (P : List Int) (w : World) (hl : P.length = len) (hN : len ≤ 1000000) (h : Rd w B 1 intC A P) (b : Bool) (hb : pathOk P = b) :
    Calls Try.prog 31 #[.slice A len c] w fun r w' => r = .returned (.bool b) ∧ w = w' := by
  have HL := Lib.hid hl
  have H := Lib.hid h
  have HB := Lib.hid hb
  clear h hb
  by_cases h40 : 40 < len
  · have hi : (40 : Int) < (len : Int) := by omega
    have HF := Lib.hid (show b = false by rw [← HB.out]; unfold pathOk; rw [hl, decide_eq_false (by omega)]; rfl)
    clear hl
    go_enter Try.func31, Try.ntmps31
    go_wp2
    go_ret
    exact ⟨by rw [HF.out]; rfl, rfl⟩
  have hi : ¬ (40 : Int) < (len : Int) := by omega
  have HALL := Lib.hid (show b = P.all (fun n => decide (-1 ≤ n)) by rw [← HB.out]; unfold pathOk; rw [hl, decide_eq_true (by omega)]; rfl)
  clear hl h40
  go_enter Try.func31, Try.ntmps31
  go_wp2
  go_loop [3] (fun i => ∃ k : Nat, k ≤ len ∧ i = .int .i64 k ∧ ∀ (q : Nat) (y : Int), q < k → P[q]? = some y → -1 ≤ y) (fun i => len - (intOf i).toNat)
  case atStart => exact ⟨0, by omega, rfl, fun q y hq => by omega⟩
  case round =>
    obtain ⟨k, hk, rfl, hall⟩ := hrel
    have HA := Lib.hid hall
    clear hall
    by_cases hlt : k < len
    · obtain ⟨bb, off, y, hy, rfl, hbb, hc⟩ := H.out.int (k := k) (by rw [HL.out]; exact hlt)
      have hki : (k : Int) < (len : Int) := by omega
      have HY := Lib.hid hy
      clear hy
      by_cases hy1 : y < -1
      · have HN := Lib.hid (show b = false by
          rw [HALL.out, Bool.eq_false_iff]; intro ht
          have := List.all_eq_true.1 ht y (List.mem_of_getElem? HY.out)
          simp at this; omega)
        go_wp2
        go_ret
        exact ⟨by rw [HN.out]; rfl, rfl⟩
      · go_wp2
        go_round
        case rel =>
          refine ⟨k + 1, by omega, by go_num, fun q z hq hz => ?_⟩
          rcases Nat.lt_or_ge q k with h | h
          · exact HA.out q z h hz
          · obtain rfl : q = k := by omega
            rw [HY.out] at hz
            injection hz with hz
            omega
        case measure => simp [intOf] <;> omega
    · obtain rfl : k = len := by omega
      have HN := Lib.hid (show b = true by
        rw [HALL.out, List.all_eq_true]
        intro y hy
        obtain ⟨q, hq, e⟩ := List.mem_iff_getElem.1 hy
        have := HA.out q y (by rw [← HL.out]; exact hq) (by rw [List.getElem?_eq_getElem hq, e])
        simpa using this)
      go_wp2
      go_ret
      exact ⟨by rw [HN.out]; rfl, rfl⟩

/-- what an event does, by its fields -/
def dG (E : List Bool) (kd t id : Int) (lx : Nat) (pk : Bool) : Bool × List Bool :=
  if t < 0 ∨ (E.length : Int) ≤ t ∨ E.getD t.toNat false = true then (false, E)
  else if kd = 1 ∨ kd = 2 ∨ kd = 4 then (decide (0 ≤ id) && pk, E)
  else if kd = 3 ∨ kd = 5 ∨ kd = 6 then (decide (0 ≤ id) && decide (lx = 0), E)
  else if kd = 7 then (if id = E.length ∧ id < 65536 ∧ lx = 0 then (true, E ++ [false]) else (false, E))
  else if kd = 8 then (decide (0 ≤ id ∧ id < E.length) && E.getD id.toNat false && decide (lx = 0), E)
  else if kd = 9 then (decide (id = 0) && decide (lx = 0), E.set t.toNat (decide (id = 0) && decide (lx = 0)))
  else (false, E)
theorem doesF_eq (E : List Bool) (x : Ev) : doesF E x = dG E x.kind x.thread x.id x.path.length (pathOk x.path) := rfl
theorem dG_th {E : List Bool} {kd t id : Int} {lx : Nat} {pk : Bool} (h : t < 0 ∨ (E.length : Int) ≤ t ∨ E.getD t.toNat false = true) : (dG E kd t id lx pk).1 = false := by unfold dG; rw [if_pos h]
theorem dG_in {E : List Bool} {kd t id : Int} {lx : Nat} {pk : Bool} (h : ¬ (t < 0 ∨ (E.length : Int) ≤ t ∨ E.getD t.toNat false = true)) : dG E kd t id lx pk =
  if kd = 1 ∨ kd = 2 ∨ kd = 4 then (decide (0 ≤ id) && pk, E)
  else if kd = 3 ∨ kd = 5 ∨ kd = 6 then (decide (0 ≤ id) && decide (lx = 0), E)
  else if kd = 7 then (if id = E.length ∧ id < 65536 ∧ lx = 0 then (true, E ++ [false]) else (false, E))
  else if kd = 8 then (decide (0 ≤ id ∧ id < E.length) && E.getD id.toNat false && decide (lx = 0), E)
  else if kd = 9 then (decide (id = 0) && decide (lx = 0), E.set t.toNat (decide (id = 0) && decide (lx = 0)))
  else (false, E) := by unfold dG; rw [if_neg h]
theorem mayB_none {L : List Ev} {k : Nat} (h : runT [false] (L.take k) = none) : mayB L = false := by unfold mayB; rw [runT_none h]; rfl
theorem may_len {L : List Ev} {k : Nat} {E : List Bool} (h : runT [false] (L.take k) = some E) : E.length ≤ k + 1 := by
  have := runT_len _ _ _ h
  simp at this
  have h2 : min k L.length ≤ k := Nat.min_le_left _ _
  omega
theorem cell_own4 {W : World} {B n c : Nat} {g : Nat} {E : List Bool} {j : Nat} {b : Bool} (h : W.ownsRow B 4 1 (.slice (some ⟨g, 0, none⟩) n c) n (E.map Value.bool)) (hj : E[j]? = some b) (hn : j < n) : W.cell? ⟨g, j, none⟩ = some (.bool b) := by
  have hc := h.cellAt j (by omega)
  rw [List.getElem?_map, hj] at hc
  exact hc

set_option maxHeartbeats 25600000 in
set_option maxRecDepth 100000 in
theorem refRead_any {w : World} (A : Option Addr) (len c : Nat) (L : List Ev) (h : EvRow w A len c L) : Calls Try.prog 21 #[.slice A len c] w (ReadP w L) := by
  obtain ⟨i0, hi0, hz0, hz1, hz2⟩ := info_parts info4
  have HR := Lib.hid h
  have hN := h.N
  clear h
  have hlit := World.ownsRow_lit (base := w.heap.size) (e := 4) (size := 1) w #[.bool false] 1 (Nat.le_refl _) (by unfold maxLen; omega) rfl
  have HLIT := Lib.hid hlit
  clear hlit
  go_enter Try.func21, Try.ntmps21
  go_wp2
  go_loopw [4, 5] (fun v i wr => ∃ (k : Nat) (E : List Bool), k ≤ len ∧ i = .int .i64 k ∧ wr.ownsRow w.heap.size 4 1 v E.length (E.map Value.bool) ∧ runT [false] (L.take k) = some E ∧ Below w.heap.size w wr) (fun _ i _ => len - (intOf i).toNat)
  case atStart => exact ⟨0, [false], by omega, rfl, HLIT.out, by rw [List.take_zero]; rfl, (Below.refl _ _).alloc (Nat.le_refl _) _⟩
  case round =>
    obtain ⟨k, E, hk, rfl, hown, hrun, hbl⟩ := hrel
    obtain ⟨Ae, ce, rfl⟩ := own_slice hown
    have hEl := may_len hrun
    have HO := Lib.hid hown
    have HRUN := Lib.hid hrun
    have HBL := Lib.hid hbl
    clear hown hrun hbl
    by_cases hlt : k < len
    · obtain ⟨x, hx⟩ : ∃ x, L[k]? = some x := ⟨_, List.getElem?_eq_getElem (by rw [HR.out.len]; exact hlt)⟩
      have hmem := List.mem_of_getElem? hx
      have hrow := HR.out.below HBL.out
      have hok := hrow.ok x hmem
      have hpx := HR.out.hp x hmem
      obtain ⟨bb, off, rfl, hbb, x0, x1, x2, x3⟩ := hrow.rd.ev hx
      have HST := Lib.hid (runT_succ hx HRUN.out)
      rw [doesF_eq] at HST
      obtain ⟨kd, hkd⟩ : ∃ z, x.kind = z := ⟨_, rfl⟩
      obtain ⟨t, ht⟩ : ∃ z, x.thread = z := ⟨_, rfl⟩
      obtain ⟨id, hid⟩ : ∃ z, x.id = z := ⟨_, rfl⟩
      obtain ⟨lx, hlx⟩ : ∃ z, x.path.length = z := ⟨_, rfl⟩
      obtain ⟨pk, hpk⟩ : ∃ z, pathOk x.path = z := ⟨_, rfl⟩
      have HPT := Lib.hid (fun W (hW : Below wr.heap.size wr W) => refPath_any x.pa lx x.pc wr.heap.size x.path W hlx (by omega) (hok.rd.below hW) pk hpk)
      have hkb := bounds_u8 hok.wk
      rw [hkd] at hkb
      rw [hkd, ht, hid, hlx, hpk] at HST
      rw [hkd] at x0
      rw [ht] at x1
      rw [hid] at x2
      rw [hlx] at x3
      obtain ⟨pa, hpa⟩ : ∃ z, x.pa = z := ⟨_, rfl⟩
      obtain ⟨pc, hpc⟩ : ∃ z, x.pc = z := ⟨_, rfl⟩
      rw [hpa, hpc] at x3 HPT
      have hki : (k : Int) < (len : Int) := by omega
      have hk6 : decide ((65536 : Int) ≤ (k : Int)) = false := decide_eq_false (by omega)
      obtain ⟨W1, hW1⟩ : ∃ W1, W1 = wr.alloc (.cells #[.int .u8 kd, .int .i64 t, .int .i64 id, .slice pa lx pc] 26) := ⟨_, rfl⟩
      have hb1 : Below wr.heap.size wr W1 := by rw [hW1]; exact (Below.refl _ _).alloc (Nat.le_refl _) _
      have hbk : Blk W1 wr.heap.size 26 #[.int .u8 kd, .int .i64 t, .int .i64 id, .slice pa lx pc] := by rw [hW1]; exact Blk.new _ _ _
      have q0 := hbk.cell 0
      have q1 := hbk.cell 1
      have q2 := hbk.cell 2
      have q3 := hbk.cell 3
      have q4 := hbk.lt
      replace q0 : W1.cell? ⟨wr.heap.size, 0, none⟩ = some (.int .u8 kd) := q0
      replace q1 : W1.cell? ⟨wr.heap.size, 1, none⟩ = some (.int .i64 t) := q1
      replace q2 : W1.cell? ⟨wr.heap.size, 2, none⟩ = some (.int .i64 id) := q2
      replace q3 : W1.cell? ⟨wr.heap.size, 3, none⟩ = some (.slice pa lx pc) := q3
      have HBK := Lib.hid hbk
      have HB1 := Lib.hid (HBL.out.trans (hb1.mono HBL.out.size))
      have HP1 := Lib.hid (HPT.out W1 hb1)
      have HO1 := Lib.hid (own_below HO.out hb1)
      have HW1 := Lib.hid hW1
      have HBAD := Lib.hid (fun W (hW : Below w.heap.size w W) (hd : (dG E kd t id lx pk).1 = false) => show ReadP w L (.returned (.tuple #[.int .i64 (k : Int), .int .i64 0])) W from
        ⟨k, 0, rfl, by rw [mayB_none (by rw [HST.out, hd]; rfl)]; simp, hW⟩)
      clear hx hmem hrow hok hpx hkd ht hid hlx hpk hpa hpc hW1 hb1 hbk HPT
      go_upto_region 6 with fail
      rw [← HW1.out]
      clear x0 x1 x2 x3 HW1
      have HIN0 := Lib.hid (fun (h : ¬ (t < 0 ∨ (E.length : Int) ≤ t ∨ E.getD t.toNat false = true)) => dG_in (kd := kd) (id := id) (lx := lx) (pk := pk) h)
      have HTH0 := Lib.hid (fun (h : t < 0 ∨ (E.length : Int) ≤ t ∨ E.getD t.toNat false = true) => dG_th (kd := kd) (id := id) (lx := lx) (pk := pk) h)
      go_cut [39] (fun v wx => W1 = wx ∧ ((v = .bool true ∧ (t < 0 ∨ (E.length : Int) ≤ t ∨ E.getD t.toNat false = true)) ∨ (v = .bool false ∧ ∃ tn : Nat, t = (tn : Int) ∧ tn < E.length ∧ E[tn]? = some false)))
      case first =>
        clear HIN0 HTH0 HBAD HBK HST HP1 q0 q2 q3
        by_cases t0 : t < 0
        · go_wp2
          go_meet
          case rel => exact ⟨rfl, .inl ⟨rfl, .inl t0⟩⟩
        by_cases t1 : (E.length : Int) ≤ t
        · go_wp2
          go_meet
          case rel => exact ⟨rfl, .inl ⟨rfl, .inr (.inl t1)⟩⟩
        obtain ⟨tn, rfl⟩ := Int.eq_ofNat_of_zero_le (show 0 ≤ t by omega)
        have htn : tn < E.length := by omega
        obtain ⟨eb, heb⟩ : ∃ b, E[tn]? = some b := ⟨_, List.getElem?_eq_getElem htn⟩
        obtain ⟨ge, rfl⟩ : ∃ g, Ae = some ⟨g, 0, none⟩ := own_pos HO.out (by omega)
        have cT := cell_own4 HO1.out heb htn
        have fT := HO1.out.frozenAt tn
        have HEB := Lib.hid heb
        clear heb
        cases eb
        · go_wp2
          go_meet
          case rel => exact ⟨rfl, .inr ⟨rfl, tn, rfl, htn, HEB.out⟩⟩
        · go_wp2
          go_meet
          case rel => exact ⟨rfl, .inl ⟨rfl, .inr (.inr (by rw [Int.toNat_natCast, List.getD_eq_getElem?_getD, HEB.out]; rfl))⟩⟩
      case rest =>
      obtain ⟨rfl, ⟨rfl, hth⟩ | ⟨rfl, tn, rfl, htn, heb⟩⟩ := hcut
      · have HD := Lib.hid (HTH0.out hth)
        clear hth
        go_wp2
        go_ret2
        exact HBAD.out _ HB1.out HD.out
      have hgd : E.getD ((tn : Int)).toNat false = false := by rw [Int.toNat_natCast, List.getD_eq_getElem?_getD, heb]; rfl
      have HIN := Lib.hid (HIN0.out (by rw [hgd]; simp; omega))
      have HEB := Lib.hid heb
      obtain ⟨ge, rfl⟩ : ∃ g, Ae = some ⟨g, 0, none⟩ := own_pos HO.out (by omega)
      have cT := cell_own4 HO1.out heb htn
      have fT := HO1.out.frozenAt tn
      have htl : (tn : Int) < (E.length : Int) := by omega
      clear heb hgd HIN0 HTH0 hk6
      by_cases hkk : kd = 1 ∨ kd = 2 ∨ kd = 4
      · by_cases hid0 : id < 0
        · rcases hkk with rfl | rfl | rfl
          · skip
            have HD := Lib.hid (show (dG E 1 (tn : Int) id lx pk).1 = false by rw [HIN.out]; simp; omega)
            go_wp2
            go_ret2
            exact HBAD.out _ HB1.out HD.out
          · skip
            have HD := Lib.hid (show (dG E 2 (tn : Int) id lx pk).1 = false by rw [HIN.out]; simp; omega)
            go_wp2
            go_ret2
            exact HBAD.out _ HB1.out HD.out
          · skip
            have HD := Lib.hid (show (dG E 4 (tn : Int) id lx pk).1 = false by rw [HIN.out]; simp; omega)
            go_wp2
            go_ret2
            exact HBAD.out _ HB1.out HD.out
        · have hid1 : 0 ≤ id := by omega
          cases pk
          · rcases hkk with rfl | rfl | rfl
            · skip
              have HD := Lib.hid (show (dG E 1 (tn : Int) id lx false).1 = false by rw [HIN.out]; simp)
              go_wp2_with fail
              refine HP1.out.mono ?_
              rintro r wp ⟨rfl, rfl⟩
              go_wp2
              go_ret2
              exact HBAD.out _ HB1.out HD.out
            · skip
              have HD := Lib.hid (show (dG E 2 (tn : Int) id lx false).1 = false by rw [HIN.out]; simp)
              go_wp2_with fail
              refine HP1.out.mono ?_
              rintro r wp ⟨rfl, rfl⟩
              go_wp2
              go_ret2
              exact HBAD.out _ HB1.out HD.out
            · skip
              have HD := Lib.hid (show (dG E 4 (tn : Int) id lx false).1 = false by rw [HIN.out]; simp)
              go_wp2_with fail
              refine HP1.out.mono ?_
              rintro r wp ⟨rfl, rfl⟩
              go_wp2
              go_ret2
              exact HBAD.out _ HB1.out HD.out
          · rcases hkk with rfl | rfl | rfl
            · skip
              have HD := Lib.hid (show dG E 1 (tn : Int) id lx true = (true, E) by rw [HIN.out]; simp [hid1])
              have HNX := Lib.hid (show runT [false] (L.take (k + 1)) = some E by rw [HST.out, HD.out]; rfl)
              go_wp2_with fail
              refine HP1.out.mono ?_
              rintro r wp ⟨rfl, rfl⟩
              go_wp2
              go_roundw
              case rel => exact ⟨k + 1, E, by omega, by go_num, HO1.out, HNX.out, HB1.out⟩
              case measure => simp [intOf] <;> omega
            · skip
              have HD := Lib.hid (show dG E 2 (tn : Int) id lx true = (true, E) by rw [HIN.out]; simp [hid1])
              have HNX := Lib.hid (show runT [false] (L.take (k + 1)) = some E by rw [HST.out, HD.out]; rfl)
              go_wp2_with fail
              refine HP1.out.mono ?_
              rintro r wp ⟨rfl, rfl⟩
              go_wp2
              go_roundw
              case rel => exact ⟨k + 1, E, by omega, by go_num, HO1.out, HNX.out, HB1.out⟩
              case measure => simp [intOf] <;> omega
            · skip
              have HD := Lib.hid (show dG E 4 (tn : Int) id lx true = (true, E) by rw [HIN.out]; simp [hid1])
              have HNX := Lib.hid (show runT [false] (L.take (k + 1)) = some E by rw [HST.out, HD.out]; rfl)
              go_wp2_with fail
              refine HP1.out.mono ?_
              rintro r wp ⟨rfl, rfl⟩
              go_wp2
              go_roundw
              case rel => exact ⟨k + 1, E, by omega, by go_num, HO1.out, HNX.out, HB1.out⟩
              case measure => simp [intOf] <;> omega
      by_cases hl0 : ¬ lx = 0
      · have hl0i : ((lx : Int) == 0) = false := beq_eq_false_iff_ne.2 (by omega)
        have hl0j : ¬ (lx : Int) = 0 := by omega
        by_cases hk2 : kd = 3 ∨ kd = 5 ∨ kd = 6
        · rcases hk2 with rfl | rfl | rfl
          · skip
            have HD := Lib.hid (show (dG E 3 (tn : Int) id lx pk).1 = false by rw [HIN.out]; simp [hl0])
            go_wp2
            go_ret2
            exact HBAD.out _ HB1.out HD.out
          · skip
            have HD := Lib.hid (show (dG E 5 (tn : Int) id lx pk).1 = false by rw [HIN.out]; simp [hl0])
            go_wp2
            go_ret2
            exact HBAD.out _ HB1.out HD.out
          · skip
            have HD := Lib.hid (show (dG E 6 (tn : Int) id lx pk).1 = false by rw [HIN.out]; simp [hl0])
            go_wp2
            go_ret2
            exact HBAD.out _ HB1.out HD.out
        by_cases hk7 : kd = 7
        · subst hk7
          have HD := Lib.hid (show (dG E 7 (tn : Int) id lx pk).1 = false by rw [HIN.out]; simp [hl0])
          go_wp2
          go_ret2
          exact HBAD.out _ HB1.out HD.out
        by_cases hk8 : kd = 8
        · subst hk8
          have HD := Lib.hid (show (dG E 8 (tn : Int) id lx pk).1 = false by rw [HIN.out]; simp [hl0])
          go_wp2
          go_ret2
          exact HBAD.out _ HB1.out HD.out
        by_cases hk9 : kd = 9
        · subst hk9
          have HD := Lib.hid (show (dG E 9 (tn : Int) id lx pk).1 = false by rw [HIN.out]; simp [hl0])
          have HBS := Lib.hid (HB1.out.setCell (p := ⟨ge, tn, none⟩) (HO1.out.lt ge rfl).1 (.bool true))
          go_wp2
          go_ret2
          exact HBAD.out _ HBS.out HD.out
        have nk1 : (kd == 1) = false := beq_eq_false_iff_ne.2 (by omega)
        have nk2 : (kd == 2) = false := beq_eq_false_iff_ne.2 (by omega)
        have nk3 : (kd == 3) = false := beq_eq_false_iff_ne.2 (by omega)
        have nk4 : (kd == 4) = false := beq_eq_false_iff_ne.2 (by omega)
        have nk5 : (kd == 5) = false := beq_eq_false_iff_ne.2 (by omega)
        have nk6 : (kd == 6) = false := beq_eq_false_iff_ne.2 (by omega)
        have nk7 : (kd == 7) = false := beq_eq_false_iff_ne.2 (by omega)
        have nk8 : (kd == 8) = false := beq_eq_false_iff_ne.2 (by omega)
        have nk9 : (kd == 9) = false := beq_eq_false_iff_ne.2 (by omega)
        have HD := Lib.hid (show (dG E kd (tn : Int) id lx pk).1 = false by rw [HIN.out, if_neg (by omega), if_neg (by omega), if_neg (by omega), if_neg (by omega), if_neg (by omega)])
        clear hkk hk2 hk7 hk8 hk9
        go_wp2
        go_ret2
        exact HBAD.out _ HB1.out HD.out
      obtain rfl : lx = 0 := by omega
      clear hl0
      by_cases hk2 : kd = 3 ∨ kd = 5 ∨ kd = 6
      · by_cases hid0 : id < 0
        · rcases hk2 with rfl | rfl | rfl
          · skip
            have HD := Lib.hid (show (dG E 3 (tn : Int) id 0 pk).1 = false by rw [HIN.out]; simp; omega)
            have hidn : ¬ (0 : Int) ≤ id := by omega
            go_wp2
            go_ret2
            exact HBAD.out _ HB1.out HD.out
          · skip
            have HD := Lib.hid (show (dG E 5 (tn : Int) id 0 pk).1 = false by rw [HIN.out]; simp; omega)
            have hidn : ¬ (0 : Int) ≤ id := by omega
            go_wp2
            go_ret2
            exact HBAD.out _ HB1.out HD.out
          · skip
            have HD := Lib.hid (show (dG E 6 (tn : Int) id 0 pk).1 = false by rw [HIN.out]; simp; omega)
            have hidn : ¬ (0 : Int) ≤ id := by omega
            go_wp2
            go_ret2
            exact HBAD.out _ HB1.out HD.out
        · have hid1 : 0 ≤ id := by omega
          rcases hk2 with rfl | rfl | rfl
          · skip
            have HD := Lib.hid (show dG E 3 (tn : Int) id 0 pk = (true, E) by rw [HIN.out]; simp [hid1])
            have HNX := Lib.hid (show runT [false] (L.take (k + 1)) = some E by rw [HST.out, HD.out]; rfl)
            go_wp2
            go_roundw
            case rel => exact ⟨k + 1, E, by omega, by go_num, HO1.out, HNX.out, HB1.out⟩
            case measure => simp [intOf] <;> omega
          · skip
            have HD := Lib.hid (show dG E 5 (tn : Int) id 0 pk = (true, E) by rw [HIN.out]; simp [hid1])
            have HNX := Lib.hid (show runT [false] (L.take (k + 1)) = some E by rw [HST.out, HD.out]; rfl)
            go_wp2
            go_roundw
            case rel => exact ⟨k + 1, E, by omega, by go_num, HO1.out, HNX.out, HB1.out⟩
            case measure => simp [intOf] <;> omega
          · skip
            have HD := Lib.hid (show dG E 6 (tn : Int) id 0 pk = (true, E) by rw [HIN.out]; simp [hid1])
            have HNX := Lib.hid (show runT [false] (L.take (k + 1)) = some E by rw [HST.out, HD.out]; rfl)
            go_wp2
            go_roundw
            case rel => exact ⟨k + 1, E, by omega, by go_num, HO1.out, HNX.out, HB1.out⟩
            case measure => simp [intOf] <;> omega
      by_cases hk7 : kd = 7
      · subst hk7
        by_cases hid7 : id = (E.length : Int)
        · have hid7b : (id == (E.length : Int)) = true := beq_iff_eq.2 hid7
          have HID7 := Lib.hid hid7
          clear hid7
          have he6 : decide ((E.length : Int) < 65536) = true := decide_eq_true (by omega)
          have HD := Lib.hid (show dG E 7 (tn : Int) id 0 pk = (true, E ++ [false]) by rw [HIN.out, if_neg (by omega), if_neg (by omega), if_pos rfl, if_pos ⟨HID7.out, by have := HID7.out; omega, rfl⟩])
          have HNX := Lib.hid (show runT [false] (L.take (k + 1)) = some (E ++ [false]) by rw [HST.out, HD.out]; rfl)
          have hs1 := HB1.out.size
          go_wp2_with (at_builtin; refine wpList_append_own _ rfl _ _ 51 rfl w.heap.size 4 i0 (.bool false) 1 1 Try.underlying51 hi0 hz0 hz1 hz2 rfl (by decide) _ E.length _ rfl (HO1.out.alloc _) ⟨W1.heap.size, 0, none⟩ 1 1 [.bool false] rfl rfl (cell_one_new _ _ _) (by intro u hu; simp at hu; subst hu; rfl) (by unfold maxLen; omega) (by omega) (by simp; omega) ?_; intro v2 w2 hown2 hg2 _)
          have HB2 := Lib.hid ((HB1.out.alloc HB1.out.size (.cells #[.bool false] 4)).grown hg2 (by simp; omega) (fun q hq => (HO1.out.lt q hq).1))
          have HO2 := Lib.hid (show w2.ownsRow w.heap.size 4 1 v2 (E ++ [false]).length ((E ++ [false]).map Value.bool) by rw [List.length_append, List.map_append]; exact hown2)
          clear hown2 hg2
          go_wp2
          go_roundw
          case rel => exact ⟨k + 1, E ++ [false], by omega, by go_num, HO2.out, HNX.out, HB2.out⟩
          case measure => simp [intOf] <;> omega
        · have hid8 : (id == (E.length : Int)) = false := beq_eq_false_iff_ne.2 hid7
          have HD := Lib.hid (show (dG E 7 (tn : Int) id 0 pk).1 = false by rw [HIN.out]; simp [hid7])
          go_wp2
          go_ret2
          exact HBAD.out _ HB1.out HD.out
      by_cases hk8 : kd = 8
      · subst hk8
        by_cases hid0 : id < 0
        · have HD := Lib.hid (show (dG E 8 (tn : Int) id 0 pk).1 = false by rw [HIN.out]; simp; omega)
          go_wp2
          go_ret2
          exact HBAD.out _ HB1.out HD.out
        by_cases hid1 : (E.length : Int) ≤ id
        · have HD := Lib.hid (show (dG E 8 (tn : Int) id 0 pk).1 = false by rw [HIN.out]; simp; omega)
          go_wp2
          go_ret2
          exact HBAD.out _ HB1.out HD.out
        obtain ⟨jn, rfl⟩ := Int.eq_ofNat_of_zero_le (show 0 ≤ id by omega)
        have hjn : jn < E.length := by omega
        obtain ⟨jb, hjb⟩ : ∃ b, E[jn]? = some b := ⟨_, List.getElem?_eq_getElem hjn⟩
        have hgj : E.getD ((jn : Int)).toNat false = jb := by rw [Int.toNat_natCast, List.getD_eq_getElem?_getD, hjb]; rfl
        have cJ := cell_own4 HO1.out hjb hjn
        have fJ := HO1.out.frozenAt jn
        have hjl : (jn : Int) < (E.length : Int) := by omega
        have HGJ := Lib.hid hgj
        clear hjb hgj hid0 hid1
        cases jb
        · have HD := Lib.hid (show (dG E 8 (tn : Int) (jn : Int) 0 pk).1 = false by rw [HIN.out, if_neg (by omega), if_neg (by omega), if_neg (by omega), if_pos rfl, HGJ.out]; simp)
          go_wp2
          go_ret2
          exact HBAD.out _ HB1.out HD.out
        · have HD := Lib.hid (show dG E 8 (tn : Int) (jn : Int) 0 pk = (true, E) by rw [HIN.out, if_neg (by omega), if_neg (by omega), if_neg (by omega), if_pos rfl, HGJ.out]; simp; omega)
          have HNX := Lib.hid (show runT [false] (L.take (k + 1)) = some E by rw [HST.out, HD.out]; rfl)
          go_wp2
          go_roundw
          case rel => exact ⟨k + 1, E, by omega, by go_num, HO1.out, HNX.out, HB1.out⟩
          case measure => simp [intOf] <;> omega
      by_cases hk9 : kd = 9
      · subst hk9
        have HBS := Lib.hid (HB1.out.setCell (p := ⟨ge, tn, none⟩) (HO1.out.lt ge rfl).1 (.bool true))
        by_cases hid0 : id = 0
        · subst hid0
          have HD := Lib.hid (show dG E 9 (tn : Int) 0 0 pk = (true, E.set tn true) by rw [HIN.out]; simp)
          have HNX := Lib.hid (show runT [false] (L.take (k + 1)) = some (E.set tn true) by rw [HST.out, HD.out]; rfl)
          have HOS := Lib.hid (show (W1.setCell ⟨ge, tn, none⟩ (.bool true)).ownsRow w.heap.size 4 1 (.slice (some ⟨ge, 0, none⟩) E.length ce) (E.set tn true).length ((E.set tn true).map Value.bool) by rw [List.length_set, List.map_set]; exact (HO1.out.stored tn (.bool true)).1)
          go_wp2
          go_roundw
          case rel => exact ⟨k + 1, E.set tn true, by omega, by go_num, HOS.out, HNX.out, HBS.out⟩
          case measure => simp [intOf] <;> omega
        · have hid8 : (id == 0) = false := beq_eq_false_iff_ne.2 hid0
          have HD := Lib.hid (show (dG E 9 (tn : Int) id 0 pk).1 = false by rw [HIN.out]; simp [hid0])
          go_wp2
          go_ret2
          exact HBAD.out _ HBS.out HD.out
      have nk1 : (kd == 1) = false := beq_eq_false_iff_ne.2 (by omega)
      have nk2 : (kd == 2) = false := beq_eq_false_iff_ne.2 (by omega)
      have nk3 : (kd == 3) = false := beq_eq_false_iff_ne.2 (by omega)
      have nk4 : (kd == 4) = false := beq_eq_false_iff_ne.2 (by omega)
      have nk5 : (kd == 5) = false := beq_eq_false_iff_ne.2 (by omega)
      have nk6 : (kd == 6) = false := beq_eq_false_iff_ne.2 (by omega)
      have nk7 : (kd == 7) = false := beq_eq_false_iff_ne.2 (by omega)
      have nk8 : (kd == 8) = false := beq_eq_false_iff_ne.2 (by omega)
      have nk9 : (kd == 9) = false := beq_eq_false_iff_ne.2 (by omega)
      have HD := Lib.hid (show (dG E kd (tn : Int) id 0 pk).1 = false by rw [HIN.out, if_neg (by omega), if_neg (by omega), if_neg (by omega), if_neg (by omega), if_neg (by omega)])
      clear hkk hk2 hk7 hk8 hk9
      go_wp2
      go_ret2
      exact HBAD.out _ HB1.out HD.out
    · obtain rfl : k = len := by omega
      have HMAY := Lib.hid (show mayB L = true by
        have h := HRUN.out
        rw [List.take_of_length_le (by rw [HR.out.len]; exact Nat.le_refl _)] at h
        unfold mayB; rw [h]; rfl)
      have hnk : ¬ (k : Int) < (k : Int) := by omega
      go_wp2
      go_ret2
      exact ⟨-1, E.length, rfl, by rw [HMAY.out]; decide, HBL.out⟩
end Go.Proofs.Ytpcjcmbhoglnfaa

