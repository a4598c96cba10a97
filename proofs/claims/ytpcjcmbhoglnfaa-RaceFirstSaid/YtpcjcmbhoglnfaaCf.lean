/- Race: contracts of the document's Access, overlap, Conflict. -/
import Derived.Test.YtpcjcmbhoglnfaaL
import Derived.Test.YtpcjcmbhoglnfaaS
import Derived.Deep.DeepCutAuto
namespace Go.Proofs.Ytpcjcmbhoglnfaa
open Go.RowKit Go.ChangeMaps Go.MapKept
set_option linter.unusedVariables false
set_option linter.unusedSimpArgs false

theorem bel_al1 (w : World) (o : Obj) : Below w.heap.size w (w.alloc o) := (Below.refl _ _).alloc (Nat.le_refl _) _
theorem accB_beq (k : Int) : accB k = ((k == 1) || (k == 2) || (k == 4) || (k == 3)) := rfl
set_option maxHeartbeats 1600000 in
theorem racc_any (k t i : Int) (pa : Option Addr) (pl pc : Nat) (w : World) : Calls Try.prog 38 #[.agg #[.int .u8 k, .int .i64 t, .int .i64 i, .slice pa pl pc]] w fun r w' => r = .returned (.bool (accB k)) ∧ Below w.heap.size w w' := by
  have HB := Lib.hid (bel_al1 w (.cells #[.int .u8 k, .int .i64 t, .int .i64 i, .slice pa pl pc] 26))
  have HA := Lib.hid (accB_beq k)
  obtain ⟨b1, e1⟩ : ∃ b, (k == 1) = b := ⟨_, rfl⟩
  obtain ⟨b2, e2⟩ : ∃ b, (k == 2) = b := ⟨_, rfl⟩
  obtain ⟨b4, e4⟩ : ∃ b, (k == 4) = b := ⟨_, rfl⟩
  obtain ⟨b3, e3⟩ : ∃ b, (k == 3) = b := ⟨_, rfl⟩
  rw [e1, e2, e4, e3] at HA
  cases b1
  rotate_left
  · go_enter Try.func38, Try.ntmps38
    go_wp2
    go_ret
    exact ⟨by rw [HA.out]; rfl, HB.out⟩
  cases b2
  rotate_left
  · go_enter Try.func38, Try.ntmps38
    go_wp2
    go_ret
    exact ⟨by rw [HA.out]; rfl, HB.out⟩
  cases b4
  rotate_left
  · go_enter Try.func38, Try.ntmps38
    go_wp2
    go_ret
    exact ⟨by rw [HA.out]; rfl, HB.out⟩
  cases b3
  all_goals
    go_enter Try.func38, Try.ntmps38
    go_wp2
    go_ret
    exact ⟨by rw [HA.out]; rfl, HB.out⟩
/-- does one of two paths begin the other? -/
def ovB (x y : Ev) : Bool := agreeB (plainP x) (plainP y)
theorem ovB_l {x y : Ev} (h : x.kind = 3) : ovB x y = true := by unfold ovB plainP; rw [if_pos h]; simp [agreeB]
theorem ovB_r {x y : Ev} (h : y.kind = 3) : ovB x y = true := by unfold ovB; rw [show plainP y = [] by unfold plainP; rw [if_pos h]]; simp [agreeB]
theorem ovB_p {x y : Ev} (hx : x.kind ≠ 3) (hy : y.kind ≠ 3) : ovB x y = agreeB x.path y.path := by unfold ovB plainP; rw [if_neg hx, if_neg hy]
theorem agr_yes {P Q : List Int} {k : Nat} (hk : k = min P.length Q.length) (h : ∀ q, q < k → P.getD q 0 = Q.getD q 0) : agreeB P Q = true := by
  unfold agreeB
  rw [List.all_eq_true]
  intro j hj
  rw [List.mem_range, ← hk] at hj
  simpa using h j hj
theorem agr_no {P Q : List Int} {k : Nat} (hk : k < min P.length Q.length) (h : P.getD k 0 ≠ Q.getD k 0) : agreeB P Q = false := by
  rw [Bool.eq_false_iff]
  intro hh
  unfold agreeB at hh
  rw [List.all_eq_true] at hh
  have := hh k (List.mem_range.2 hk)
  exact h (by simpa using this)
def twoW (w : World) (a b : Array Value) : World := (w.alloc (.cells a 26)).alloc (.cells b 26)
theorem twoW_1 (w : World) (a b : Array Value) : Blk (twoW w a b) w.heap.size 26 a := (Blk.new w 26 a).alloc _
theorem twoW_2 (w : World) (a b : Array Value) : Blk (twoW w a b) (w.heap.size + 1) 26 b := Blk.at_ (by simp)
theorem twoW_b (w : World) (a b : Array Value) : Below w.heap.size w (twoW w a b) := ((Below.refl _ _).alloc (Nat.le_refl _) _).alloc (by simp) _
set_option maxHeartbeats 6400000 in
set_option maxRecDepth 100000 in
theorem rov_any (x y : Ev) (lx ly : Nat) (w : World) (hlx : x.path.length = lx) (hly : y.path.length = ly) (hN : lx ≤ 1000000) (hM : ly ≤ 1000000) (hx : EvOk w w.heap.size x) (hy : EvOk w w.heap.size y) (b : Bool) (hb : ovB x y = b) :
    Calls Try.prog 39 #[.agg #[.int .u8 x.kind, .int .i64 x.thread, .int .i64 x.id, .slice x.pa lx x.pc], .agg #[.int .u8 y.kind, .int .i64 y.thread, .int .i64 y.id, .slice y.pa ly y.pc]] w fun r w' => r = .returned (.bool b) ∧ Below w.heap.size w w' := by
  have HB := Lib.hid hb
  have HX := Lib.hid hx
  have HY := Lib.hid hy
  obtain ⟨W, hW⟩ : ∃ W, W = twoW w #[.int .u8 x.kind, .int .i64 x.thread, .int .i64 x.id, .slice x.pa lx x.pc] #[.int .u8 y.kind, .int .i64 y.thread, .int .i64 y.id, .slice y.pa ly y.pc] := ⟨_, rfl⟩
  have HBW := Lib.hid (show Below w.heap.size w W by rw [hW]; exact twoW_b _ _ _)
  have B1 : Blk W w.heap.size 26 #[.int .u8 x.kind, .int .i64 x.thread, .int .i64 x.id, .slice x.pa lx x.pc] := by rw [hW]; exact twoW_1 _ _ _
  have B2 : Blk W (w.heap.size + 1) 26 #[.int .u8 y.kind, .int .i64 y.thread, .int .i64 y.id, .slice y.pa ly y.pc] := by rw [hW]; exact twoW_2 _ _ _
  have HB1 := Lib.hid B1
  have HB2 := Lib.hid B2
  have q0 : W.cell? ⟨w.heap.size, 0, none⟩ = some (.int .u8 x.kind) := B1.cell 0
  have r0 : W.cell? ⟨w.heap.size + 1, 0, none⟩ = some (.int .u8 y.kind) := B2.cell 0
  have z1 := B1.lt
  have z2 := B2.lt
  unfold twoW at hW
  have HW := Lib.hid hW
  have HLX := Lib.hid hlx
  have HLY := Lib.hid hly
  clear hx hy hb hW B1 B2 hlx hly
  by_cases h3 : x.kind = 3
  · have e3 : (x.kind == 3) = true := beq_iff_eq.2 h3
    have HT := Lib.hid (show b = true by rw [← HB.out]; exact ovB_l h3)
    clear h3
    go_enter Try.func39, Try.ntmps39
    go_upto_region 1 with fail
    rw [← HW.out]
    go_wp2
    go_ret
    exact ⟨by rw [HT.out]; rfl, HBW.out⟩
  by_cases h4 : y.kind = 3
  · have e3 : (x.kind == 3) = false := beq_eq_false_iff_ne.2 h3
    have e4 : (y.kind == 3) = true := beq_iff_eq.2 h4
    have HT := Lib.hid (show b = true by rw [← HB.out]; exact ovB_r h4)
    clear h3 h4
    go_enter Try.func39, Try.ntmps39
    go_upto_region 1 with fail
    rw [← HW.out]
    go_wp2
    go_ret
    exact ⟨by rw [HT.out]; rfl, HBW.out⟩
  have e3 : (x.kind == 3) = false := beq_eq_false_iff_ne.2 h3
  have e4 : (y.kind == 3) = false := beq_eq_false_iff_ne.2 h4
  have HO := Lib.hid (show b = agreeB x.path y.path by rw [← HB.out]; exact ovB_p h3 h4)
  clear h3 h4
  go_enter Try.func39, Try.ntmps39
  go_upto_region 1 with fail
  rw [← HW.out]
  go_wp2
  go_loopw [5] (fun i wr => ∃ k : Nat, k ≤ lx ∧ k ≤ ly ∧ i = .int .i64 k ∧ (∀ q, q < k → x.path.getD q 0 = y.path.getD q 0) ∧ Below W.heap.size W wr) (fun i _ => lx - (intOf i).toNat)
  case atStart => exact ⟨0, by omega, by omega, rfl, fun q hq => by omega, Below.refl _ _⟩
  case round =>
    obtain ⟨k, hk, hk2, rfl, hall, hbl⟩ := hrel
    have HA := Lib.hid hall
    have HBL := Lib.hid hbl
    have HBT := Lib.hid (HBW.out.trans (hbl.mono HBW.out.size))
    have c1 := HB1.out.below hbl HB1.out.lt
    have c2 := HB2.out.below hbl HB2.out.lt
    have p3 : wr.cell? ⟨w.heap.size, 3, none⟩ = some (.slice x.pa lx x.pc) := c1.cell 3
    have s3 : wr.cell? ⟨w.heap.size + 1, 3, none⟩ = some (.slice y.pa ly y.pc) := c2.cell 3
    have y1 := c1.lt
    have y2 := c2.lt
    clear hall hbl c1 c2 q0 r0
    by_cases hlt : k < lx
    · have hki : (k : Int) < (lx : Int) := by omega
      by_cases hlt2 : k < ly
      · have hki2 : (k : Int) < (ly : Int) := by omega
        obtain ⟨bx, ox, u, hu, hpa, hbx, cu⟩ := (HX.out.rd.below HBT.out).int (k := k) (by rw [HLX.out]; exact hlt)
        obtain ⟨by_, oy, v, hv, hpb, hby, cv⟩ := (HY.out.rd.below HBT.out).int (k := k) (by rw [HLY.out]; exact hlt2)
        have hgu : x.path.getD k 0 = u := by rw [List.getD_eq_getElem?_getD, hu]; rfl
        have hgv : y.path.getD k 0 = v := by rw [List.getD_eq_getElem?_getD, hv]; rfl
        have HGU := Lib.hid hgu
        have HGV := Lib.hid hgv
        rw [hpa] at p3
        rw [hpb] at s3
        clear hu hv hpa hpb hgu hgv
        by_cases huv : u = v
        · have euv : (u != v) = false := by rw [huv]; simp
          have HUV := Lib.hid huv
          clear huv
          go_wp2_with fail
          go_quiet (fail)
          go_wp2
          go_roundw
          case rel =>
            refine ⟨k + 1, by omega, by omega, by go_num, fun q hq => ?_, below_drewN HBL.out _⟩
            rcases Nat.lt_or_ge q k with h | h
            · exact HA.out q h
            · obtain rfl : q = k := by omega
              rw [HGU.out, HGV.out, HUV.out]
          case measure => simp [intOf] <;> omega
        · have euv : (u != v) = true := by simpa using huv
          have HN := Lib.hid (show b = false by rw [HO.out]; exact agr_no (k := k) (by rw [HLX.out, HLY.out]; omega) (by rw [HGU.out, HGV.out]; exact huv))
          clear huv
          go_wp2_with fail
          go_quiet (fail)
          go_wp2
          go_ret
          exact ⟨by rw [HN.out]; rfl, below_drewN HBT.out _⟩
      · obtain rfl : k = ly := by omega
        have hki2 : ¬ (k : Int) < (k : Int) := by omega
        have HN := Lib.hid (show b = true by rw [HO.out]; exact agr_yes (k := k) (by rw [HLX.out, HLY.out]; omega) HA.out)
        go_wp2
        go_ret
        exact ⟨by rw [HN.out]; rfl, HBT.out⟩
    · obtain rfl : k = lx := by omega
      have hki2 : ¬ (k : Int) < (k : Int) := by omega
      have HN := Lib.hid (show b = true by rw [HO.out]; exact agr_yes (k := k) (by rw [HLX.out, HLY.out]; omega) HA.out)
      go_wp2
      go_ret
      exact ⟨by rw [HN.out]; rfl, HBT.out⟩
theorem dne (a b : Int) : decide (a ≠ b) = !(a == b) := by by_cases h : a = b <;> simp [h]
theorem confB_eq (x y : Ev) : confB x y = (accB x.kind && accB y.kind && !(x.thread == y.thread) && (x.id == y.id) && ovB x y && (((x.kind == 2) || (x.kind == 3)) || ((y.kind == 2) || (y.kind == 3))) && (!(x.kind == 4) || !(y.kind == 4))) := by
  unfold confB ovB
  rw [agree_beg]
  have e1 : decide (x.thread ≠ y.thread) = !(x.thread == y.thread) := dne _ _
  have e2 : decide (x.id = y.id) = (x.id == y.id) := rfl
  have e3 : decide (x.kind ≠ 4) = !(x.kind == 4) := dne _ _
  have e4 : decide (y.kind ≠ 4) = !(y.kind == 4) := dne _ _
  rw [e1, e2, e3, e4]
  rfl
set_option maxHeartbeats 12800000 in
set_option maxRecDepth 100000 in
theorem rconf_any (x y : Ev) (lx ly : Nat) (w : World) (hlx : x.path.length = lx) (hly : y.path.length = ly) (hN : lx ≤ 1000000) (hM : ly ≤ 1000000) (hx : EvOk w w.heap.size x) (hy : EvOk w w.heap.size y) (b : Bool) (hb : confB x y = b) :
    Calls Try.prog 32 #[.agg #[.int .u8 x.kind, .int .i64 x.thread, .int .i64 x.id, .slice x.pa lx x.pc], .agg #[.int .u8 y.kind, .int .i64 y.thread, .int .i64 y.id, .slice y.pa ly y.pc]] w fun r w' => r = .returned (.bool b) ∧ Below w.heap.size w w' := by
  rw [confB_eq] at hb
  obtain ⟨W, hW⟩ : ∃ W, W = twoW w #[.int .u8 x.kind, .int .i64 x.thread, .int .i64 x.id, .slice x.pa lx x.pc] #[.int .u8 y.kind, .int .i64 y.thread, .int .i64 y.id, .slice y.pa ly y.pc] := ⟨_, rfl⟩
  have HBW := Lib.hid (show Below w.heap.size w W by rw [hW]; exact twoW_b _ _ _)
  have B1 : Blk W w.heap.size 26 #[.int .u8 x.kind, .int .i64 x.thread, .int .i64 x.id, .slice x.pa lx x.pc] := by rw [hW]; exact twoW_1 _ _ _
  have B2 : Blk W (w.heap.size + 1) 26 #[.int .u8 y.kind, .int .i64 y.thread, .int .i64 y.id, .slice y.pa ly y.pc] := by rw [hW]; exact twoW_2 _ _ _
  have HB1 := Lib.hid (fun V (h : Below W.heap.size W V) => B1.below h B1.lt)
  have HB2 := Lib.hid (fun V (h : Below W.heap.size W V) => B2.below h B2.lt)
  obtain ⟨ov, hov⟩ : ∃ o, ovB x y = o := ⟨_, rfl⟩
  have HOV := Lib.hid (fun V (h : Below W.heap.size W V) => rov_any x y lx ly V hlx hly hN hM ((hx.below (HBW.out.trans (h.mono HBW.out.size))).more (HBW.out.trans (h.mono HBW.out.size)).size) ((hy.below (HBW.out.trans (h.mono HBW.out.size))).more (HBW.out.trans (h.mono HBW.out.size)).size) ov hov)
  have HA1 := Lib.hid (fun V => racc_any x.kind x.thread x.id x.pa lx x.pc V)
  have HA2 := Lib.hid (fun V => racc_any y.kind y.thread y.id y.pa ly y.pc V)
  obtain ⟨a1, ha1⟩ : ∃ o, accB x.kind = o := ⟨_, rfl⟩
  obtain ⟨a2, ha2⟩ : ∃ o, accB y.kind = o := ⟨_, rfl⟩
  obtain ⟨bT, eT⟩ : ∃ o, (x.thread == y.thread) = o := ⟨_, rfl⟩
  obtain ⟨bI, eI⟩ : ∃ o, (x.id == y.id) = o := ⟨_, rfl⟩
  rw [hov, ha1, ha2, eT, eI] at hb
  rw [ha1] at HA1
  rw [ha2] at HA2
  obtain ⟨cc, hcc⟩ : ∃ o, (a1 && a2 && !bT && bI && ov) = o := ⟨_, rfl⟩
  rw [hcc] at hb
  unfold twoW at hW
  have HW := Lib.hid hW
  have HH := Lib.hid hb
  have HCC := Lib.hid hcc
  have z1 := B1.lt
  have z2 := B2.lt
  have nI : (x.id != y.id) = !bI := by rw [← eI]; rfl
  clear hx hy hb hW B1 B2 hlx hly hov ha1 ha2 hcc
  go_enter Try.func32, Try.ntmps32
  go_upto_region 1 with fail
  rw [← HW.out]
  go_cut [32] (fun v wx => v = .bool (!cc) ∧ Below W.heap.size W wx)
  case first =>
    have d1 := HB1.out W (Below.refl _ _)
    have d2 := HB2.out W (Below.refl _ _)
    have q0 : W.cell? ⟨w.heap.size, 0, none⟩ = some (.int .u8 x.kind) := d1.cell 0
    have q1 : W.cell? ⟨w.heap.size, 1, none⟩ = some (.int .i64 x.thread) := d1.cell 1
    have q2 : W.cell? ⟨w.heap.size, 2, none⟩ = some (.int .i64 x.id) := d1.cell 2
    have q3 : W.cell? ⟨w.heap.size, 3, none⟩ = some (.slice x.pa lx x.pc) := d1.cell 3
    clear d1 d2
    go_wp2_with fail
    refine (HA1.out _).mono ?_
    rintro r w1 ⟨rfl, h1⟩
    have HV1 := Lib.hid h1
    have d1 := HB1.out _ h1
    have d2 := HB2.out _ h1
    clear q0 q1 q2 q3 h1
    cases a1
    · go_wp2
      go_meet
      case rel => exact ⟨by rw [← HCC.out]; rfl, HV1.out⟩
    have r0 : w1.cell? ⟨w.heap.size + 1, 0, none⟩ = some (.int .u8 y.kind) := d2.cell 0
    have r1 : w1.cell? ⟨w.heap.size + 1, 1, none⟩ = some (.int .i64 y.thread) := d2.cell 1
    have r2 : w1.cell? ⟨w.heap.size + 1, 2, none⟩ = some (.int .i64 y.id) := d2.cell 2
    have r3 : w1.cell? ⟨w.heap.size + 1, 3, none⟩ = some (.slice y.pa ly y.pc) := d2.cell 3
    have y1 := d1.lt
    have y2 := d2.lt
    clear d1 d2
    go_wp2_with fail
    refine (HA2.out _).mono ?_
    rintro r w2 ⟨rfl, h2⟩
    have HV2 := Lib.hid (HV1.out.trans (h2.mono HV1.out.size))
    clear r0 r1 r2 r3 y1 y2 h2
    have d1 := HB1.out _ HV2.out
    have d2 := HB2.out _ HV2.out
    have q0 : w2.cell? ⟨w.heap.size, 0, none⟩ = some (.int .u8 x.kind) := d1.cell 0
    have q1 : w2.cell? ⟨w.heap.size, 1, none⟩ = some (.int .i64 x.thread) := d1.cell 1
    have q2 : w2.cell? ⟨w.heap.size, 2, none⟩ = some (.int .i64 x.id) := d1.cell 2
    have q3 : w2.cell? ⟨w.heap.size, 3, none⟩ = some (.slice x.pa lx x.pc) := d1.cell 3
    have r0 : w2.cell? ⟨w.heap.size + 1, 0, none⟩ = some (.int .u8 y.kind) := d2.cell 0
    have r1 : w2.cell? ⟨w.heap.size + 1, 1, none⟩ = some (.int .i64 y.thread) := d2.cell 1
    have r2 : w2.cell? ⟨w.heap.size + 1, 2, none⟩ = some (.int .i64 y.id) := d2.cell 2
    have r3 : w2.cell? ⟨w.heap.size + 1, 3, none⟩ = some (.slice y.pa ly y.pc) := d2.cell 3
    have y1 := d1.lt
    have y2 := d2.lt
    clear d1 d2
    cases a2
    · go_wp2
      go_meet
      case rel => exact ⟨by rw [← HCC.out]; rfl, HV2.out⟩
    cases bT
    rotate_left
    · go_wp2
      go_meet
      case rel => exact ⟨by rw [← HCC.out]; rfl, HV2.out⟩
    cases bI
    · go_wp2
      go_meet
      case rel => exact ⟨by rw [← HCC.out]; rfl, HV2.out⟩
    go_wp2_with fail
    refine (HOV.out _ HV2.out).mono ?_
    rintro r w3 ⟨rfl, h3⟩
    have HV3 := Lib.hid (HV2.out.trans (h3.mono HV2.out.size))
    clear q0 q1 q2 q3 r0 r1 r2 r3 y1 y2 h3
    cases ov
    all_goals
      go_wp2
      go_meet
      case rel => exact ⟨by rw [← HCC.out]; rfl, HV3.out⟩
  case rest =>
  obtain ⟨rfl, hbl⟩ := hcut
  have HV := Lib.hid (HBW.out.trans (hbl.mono HBW.out.size))
  have d1 := HB1.out _ hbl
  have d2 := HB2.out _ hbl
  have q0 : wc.cell? ⟨w.heap.size, 0, none⟩ = some (.int .u8 x.kind) := d1.cell 0
  have r0 : wc.cell? ⟨w.heap.size + 1, 0, none⟩ = some (.int .u8 y.kind) := d2.cell 0
  have y1 := d1.lt
  have y2 := d2.lt
  clear d1 d2 hbl HOV HA1 HA2 HB1 HB2 HCC
  cases cc
  · have HF := Lib.hid (show b = false by rw [← HH.out]; rfl)
    go_wp2
    go_ret
    exact ⟨by rw [HF.out]; rfl, HV.out⟩
  obtain ⟨b4, e4⟩ : ∃ o, (x.kind == 4) = o := ⟨_, rfl⟩
  obtain ⟨c4, f4⟩ : ∃ o, (y.kind == 4) = o := ⟨_, rfl⟩
  obtain ⟨b2, e2⟩ : ∃ o, (x.kind == 2) = o := ⟨_, rfl⟩
  obtain ⟨b3, e3⟩ : ∃ o, (x.kind == 3) = o := ⟨_, rfl⟩
  obtain ⟨c2, f2⟩ : ∃ o, (y.kind == 2) = o := ⟨_, rfl⟩
  obtain ⟨c3, f3⟩ : ∃ o, (y.kind == 3) = o := ⟨_, rfl⟩
  rw [e4, f4, e2, e3, f2, f3] at HH
  have HHH := Lib.hid HH.out.symm
  clear HH
  have hfour : (b4 = true ∧ c4 = true) ∨ b4 = false ∨ (b4 = true ∧ c4 = false) := by cases b4 <;> cases c4 <;> simp
  rcases hfour with ⟨rfl, rfl⟩ | rfl | ⟨rfl, rfl⟩
  · have HF := Lib.hid (show b = false by rw [HHH.out]; simp)
    clear HHH
    go_wp2
    go_ret
    exact ⟨by rw [HF.out]; rfl, HV.out⟩
  all_goals
    cases b2
    rotate_left
    · have HF := Lib.hid (show b = true by rw [HHH.out]; simp)
      go_wp2
      go_ret
      exact ⟨by rw [HF.out]; rfl, HV.out⟩
    cases b3
    rotate_left
    · have HF := Lib.hid (show b = true by rw [HHH.out]; simp)
      go_wp2
      go_ret
      exact ⟨by rw [HF.out]; rfl, HV.out⟩
    cases c2
    rotate_left
    · have HF := Lib.hid (show b = true by rw [HHH.out]; simp)
      go_wp2
      go_ret
      exact ⟨by rw [HF.out]; rfl, HV.out⟩
    cases c3
    rotate_left
    · have HF := Lib.hid (show b = true by rw [HHH.out]; simp)
      go_wp2
      go_ret
      exact ⟨by rw [HF.out]; rfl, HV.out⟩
    · have HF := Lib.hid (show b = false by rw [HHH.out]; simp)
      go_wp2
      go_ret
      exact ⟨by rw [HF.out]; rfl, HV.out⟩
end Go.Proofs.Ytpcjcmbhoglnfaa

