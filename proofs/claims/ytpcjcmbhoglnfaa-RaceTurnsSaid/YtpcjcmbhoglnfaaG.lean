/- Race: the contract of races. -/
import Derived.Test.YtpcjcmbhoglnfaaF
import Derived.Lib.QuietBelow
namespace Go.Proofs.Ytpcjcmbhoglnfaa
open Go.RowKit Go.ChangeMaps Go.MapKept
set_option linter.unusedVariables false
set_option linter.unusedSimpArgs false

def pairC (x : PR) : List Value := [.int .i64 x.1, .int .i64 x.2]
theorem pairC_len (x : PR) : (pairC x).length = 2 := rfl
theorem pairC_one (x : PR) : ∀ u ∈ pairC x, u.oneCell' = true := by intro u hu; simp [pairC] at hu; rcases hu with rfl | rfl <;> rfl
theorem info36 : (Try.prog.info? 36).map (fun i => (i.zero, i.size, i.bytes)) = some (some (.agg #[.int .i64 0, .int .i64 0]), 2, 16) := by kernel_rfl
theorem Rd.pair (w : World) (a b : Int) (t : TypeId) : Rd (w.alloc (.cells #[.int .i64 a, .int .i64 b] t)) (w.heap.size + 1) 2 pairC (some ⟨w.heap.size, 0, none⟩) [(a, b)] := by
  refine .inr ⟨w.heap.size, 0, rfl, by omega, fun i x hx j u hu => ?_⟩
  rw [(Blk.new w t _).cell]
  match i, hx with
  | 0, hx =>
    simp at hx; subst hx
    match j, hu with
    | 0, hu => simp [pairC] at hu; subst hu; rfl
    | 1, hu => simp [pairC] at hu; subst hu; rfl
    | j + 2, hu => simp [pairC] at hu
  | i + 1, hx => simp at hx
theorem DS.below {w w' : World} {B gd N : Nat} {D : Det} (h : DS w B gd N D) (hb : Below w.heap.size w w') : DS w' B gd N D := by
  obtain ⟨gm, vT, vK, xT, xK, f, h⟩ := h
  exact ⟨gm, vT, vK, xT, xK, f, h.below hb⟩
theorem rUp_noacc {L : List Ev} {k : Nat} (h : accB (evAt L k).kind = false) (m : Nat) : rUp L k m = [] := by
  unfold rUp
  rw [List.map_eq_nil_iff, List.filter_eq_nil_iff]
  intro i _
  simp [rB, confB, h]
def RacesP (w : World) (R : List PR) (r : Ending) (w' : World) : Prop := ∃ v, r = .returned v ∧ w'.ownsRow w.heap.size 36 2 v R.length (R.flatMap pairC) ∧ Below w.heap.size w w'
def Since (w0 W : World) : Prop := Below w0.heap.size w0 W
/-- two events' cells in their row, and what lay before -/
def Ev8 (b o1 o2 : Nat) (x y : Ev) (lx ly : Nat) (w0 W : World) : Prop :=
  W.cell? ⟨b, o1, none⟩ = some (.int .u8 x.kind) ∧ W.cell? ⟨b, o1 + 1, none⟩ = some (.int .i64 x.thread) ∧ W.cell? ⟨b, o1 + 2, none⟩ = some (.int .i64 x.id) ∧ W.cell? ⟨b, o1 + 3, none⟩ = some (.slice x.pa lx x.pc) ∧
  W.cell? ⟨b, o2, none⟩ = some (.int .u8 y.kind) ∧ W.cell? ⟨b, o2 + 1, none⟩ = some (.int .i64 y.thread) ∧ W.cell? ⟨b, o2 + 2, none⟩ = some (.int .i64 y.id) ∧ W.cell? ⟨b, o2 + 3, none⟩ = some (.slice y.pa ly y.pc) ∧ Since w0 W
theorem Ev8.since {b o1 o2 : Nat} {x y : Ev} {lx ly : Nat} {w0 W : World} (h : Ev8 b o1 o2 x y lx ly w0 W) : Below w0.heap.size w0 W := h.2.2.2.2.2.2.2.2
theorem Ev8.step {b o1 o2 : Nat} {x y : Ev} {lx ly : Nat} {w0 W W' : World} (h : Ev8 b o1 o2 x y lx ly w0 W) (hb : b < w0.heap.size) (h2 : Below W.heap.size W W') : Ev8 b o1 o2 x y lx ly w0 W' := by
  have hs := h.since
  have hc : ∀ o, W'.cell? ⟨b, o, none⟩ = W.cell? ⟨b, o, none⟩ := fun o => h2.cell (p := ⟨b, o, none⟩) (show b < W.heap.size by have := hs.size; omega)
  obtain ⟨a1, a2, a3, a4, a5, a6, a7, a8, _⟩ := h
  exact ⟨(hc _).trans a1, (hc _).trans a2, (hc _).trans a3, (hc _).trans a4, (hc _).trans a5, (hc _).trans a6, (hc _).trans a7, (hc _).trans a8, hs.trans (h2.mono hs.size)⟩
theorem Ev8.drew {b o1 o2 : Nat} {x y : Ev} {lx ly : Nat} {w0 W : World} (h : Ev8 b o1 o2 x y lx ly w0 W) (hb : b < w0.heap.size) : Ev8 b o1 o2 x y lx ly w0 W.drew := h.step hb (Below.refl _ W).drew
theorem take_one {a : PR} {l : List PR} : ([a] ++ l).take 1 = [a] := rfl

set_option maxRecDepth 100000 in
set_option maxHeartbeats 6400000 in
theorem races_false {w : World} {B gd N : Nat} {D : Det} (A : Option Addr) (len c : Nat) (L : List Ev) (hlen : L.length = len) (hN : len ≤ 60000) (rd : Rd w w.heap.size 4 evC A L) (ok : ∀ x ∈ L, EvOk w w.heap.size x) (hp : ∀ x ∈ L, x.path.length ≤ 1000000)
    (k : Nat) (hk : k < len) (hK : ∀ i, i ≤ k → D.K[i]? = some (kc L i)) (hd : DS w B gd N D) (hK9 : D.K.length ≤ 100000) :
    Calls Try.prog 33 #[.pointer (some ⟨gd, 0, none⟩), .slice A len c, .int .i64 k, .bool false] w (RacesP w (rUp L k k)) := by
  have hyk := at_evAt (L := L) (i := k) (by omega)
  obtain ⟨b, off, rfl, hb, y0, y1, y2, y3⟩ := rd.ev hyk
  obtain ⟨ly, hly⟩ : ∃ m, (evAt L k).path.length = m := ⟨_, rfl⟩
  obtain ⟨y, hy⟩ : ∃ y, y = evAt L k := ⟨_, rfl⟩
  rw [hly] at y3
  rw [← hy] at hly y0 y1 y2 y3
  have hki : (k : Int) < (len : Int) := by omega
  have HRD := Lib.hid rd
  have HOK := Lib.hid ok
  have HP := Lib.hid hp
  have HL := Lib.hid hlen
  have HK := Lib.hid hK
  have HD := Lib.hid hd
  have HK9 := Lib.hid hK9
  have HY := Lib.hid hy
  have HLY := Lib.hid hly
  obtain ⟨ac, hac⟩ : ∃ b, accB y.kind = b := ⟨_, rfl⟩
  have HAC := Lib.hid (access_any (t := y.thread) (i := y.id) (pa := y.pa) (pl := ly) (pc := y.pc) (w := w) ac hac)
  have HA := Lib.hid hac
  clear rd ok hp hlen hK hd hK9 hy hly hyk hac
  go_enter Try.func33, Try.ntmps33
  go_wp2_with fail
  refine HAC.out.mono ?_
  rintro r w1 ⟨rfl, hb1⟩
  have HB1 := Lib.hid hb1
  clear hb1 y0 y1 y2 y3 HAC
  cases ac with
  | false =>
    have hnil : rUp L k k = [] := rUp_noacc (by rw [← HY.out]; exact HA.out) k
    have HNIL := Lib.hid hnil
    clear hnil
    go_wp2
    go_ret
    refine ⟨.slice none 0 0, rfl, ?_, HB1.out⟩
    rw [HNIL.out]
    exact World.ownsRow_nil _ _ _ _
  | true =>
    go_wp2
    go_loopw [9, 18] (fun v i wr => ∃ m : Nat, m ≤ k ∧ i = .int .i64 m ∧ wr.ownsRow w.heap.size 36 2 v (rUp L k m).length ((rUp L k m).flatMap pairC) ∧ Below w.heap.size w wr) (fun _ i _ => k - (intOf i).toNat)
    case atStart => exact ⟨0, by omega, rfl, World.ownsRow_nil _ _ _ _, HB1.out⟩
    case round =>
      obtain ⟨m, hm, rfl, hown, hbl⟩ := hrel
      have HOWN := Lib.hid hown
      have HBL := Lib.hid hbl
      clear hown hbl
      by_cases hlt : m < k
      · have hxm := at_evAt (L := L) (i := m) (by rw [HL.out]; omega)
        have hyk := at_evAt (L := L) (i := k) (by rw [HL.out]; exact hk)
        have hrd := HRD.out.below HBL.out
        obtain ⟨b', off', eA, _, x0, x1, x2, x3⟩ := hrd.ev hxm
        cases eA
        obtain ⟨b', off', eA, _, y0, y1, y2, y3⟩ := hrd.ev hyk
        cases eA
        obtain ⟨lx, hlx⟩ : ∃ q, (evAt L m).path.length = q := ⟨_, rfl⟩
        obtain ⟨x, hx⟩ : ∃ x, x = evAt L m := ⟨_, rfl⟩
        rw [hlx] at x3
        rw [← hx] at hlx x0 x1 x2 x3 hxm
        rw [← HY.out] at y0 y1 y2 y3 hyk
        rw [HLY.out] at y3
        have hsz := HBL.out.size
        have okx : EvOk wr wr.heap.size x := ((HOK.out x (List.mem_of_getElem? hxm)).below HBL.out).more hsz
        have oky : EvOk wr wr.heap.size y := ((HOK.out y (List.mem_of_getElem? hyk)).below HBL.out).more hsz
        obtain ⟨cb, hcb⟩ : ∃ b, confB x y = b := ⟨_, rfl⟩
        have hcf : ∀ (d : Nat) (os : Array Obj), Calls Try.prog 40 #[.agg #[.int .u8 x.kind, .int .i64 x.thread, .int .i64 x.id, .slice x.pa lx x.pc], .agg #[.int .u8 y.kind, .int .i64 y.thread, .int .i64 y.id, .slice y.pa ly y.pc]] (Go.Sort.grow (redrawn wr d) os) fun r w' => r = .returned (.bool cb) ∧ ∃ p : Regrown, w' = Go.Sort.grow (redrawn wr p.d) p.os := by
          intro d os
          have hW := below_regrown wr d os
          rw [← hcb]
          exact Calls.regrown_of (conflict_any x y lx ly _ hlx HLY.out ((okx.below hW).more hW.size) ((oky.below hW).more hW.size) (by rw [← hlx]; exact HP.out x (List.mem_of_getElem? hxm)) (by rw [← HLY.out]; exact HP.out y (List.mem_of_getElem? hyk)))
        have HCF := Lib.hid hcf
        have x0 := cell_regrown x0
        have x1 := cell_regrown x1
        have x2 := cell_regrown x2
        have x3 := cell_regrown x3
        have y0 := cell_regrown y0
        have y1 := cell_regrown y1
        have y2 := cell_regrown y2
        have y3 := cell_regrown y3
        have HCB := Lib.hid hcb
        have HX := Lib.hid hx
        have HXM := Lib.hid hxm
        have hmi : (m : Int) < (k : Int) := by omega
        have hm0 : (0 : Int) ≤ (m : Int) := by omega
        have hml : (m : Int) < (len : Int) := by omega
        have hk0 : (0 : Int) ≤ (k : Int) := by omega
        have hrs := rUp_succ L k m
        have HRS := Lib.hid hrs
        clear hcf hcb hx hxm okx oky hrd hyk hlx hrs hsz
        cases cb with
        | false =>
          have hrb : rB L m k = false := by unfold rB; rw [← HX.out, ← HY.out, HCB.out]; rfl
          have hrs : rUp L k (m + 1) = rUp L k m := by rw [HRS.out, hrb]; simp
          have HRZ := Lib.hid hrs
          clear hrb hrs
          go_wp2
          refine wp_region_quiet_below (by kernel_rfl) (by kernel_rfl) ?_
          repeat (first | go_big_quiet_step ((first | (go_at_call 40; exact HCF.out _ _))) | quiet_step ((first | (go_at_call 40; exact HCF.out _ _))))
          refine wpQuiet_nil ?_
          intro W2 hW2e
          obtain ⟨⟨dq, osq⟩, hW2⟩ := hW2e
          have hbl2 : Below wr.heap.size wr W2 := by rw [hW2]; exact below_regrown wr dq osq
          clear hW2 x0 x1 x2 x3 y0 y1 y2 y3
          have HBL2 := Lib.hid (HBL.out.trans (hbl2.mono HBL.out.size))
          have HOWN2 := Lib.hid (own_below HOWN.out hbl2)
          clear hbl2
          go_wp2
          go_roundw
          case rel => exact ⟨m + 1, by omega, by go_num, by rw [HRZ.out]; exact HOWN2.out, HBL2.out⟩
          case measure => simp [intOf] <;> omega
        | true =>
          obtain ⟨ab, hab⟩ : ∃ b, ahB L m k = b := ⟨_, rfl⟩
          have hah : ∀ (d : Nat) (os : Array Obj), Calls Try.prog 30 #[.pointer (some ⟨gd, 0, none⟩), .slice (some ⟨b, off, none⟩) len c, .int .i64 m, .int .i64 k] (Go.Sort.grow (redrawn wr d) os) fun r w' => r = .returned (.bool ab) ∧ ∃ p : Regrown, w' = Go.Sort.grow (redrawn wr p.d) p.os := by
            intro d os
            have hW := below_regrown wr d os
            have hbW := HBL.out.trans (hW.mono HBL.out.size)
            have h := dahead_any (B := B) (N := N) (some ⟨b, off, none⟩) len c L HL.out ((HRD.out.below hbW).more hbW.size) m k (by omega) HXM.out (HK.out m (by omega)) (HK.out k (Nat.le_refl _)) (HD.out.below hbW) HK9.out
            rw [show decide (atZ (kc L m) x.thread ≤ atZ (kc L k) x.thread) = ab from by rw [← hab, HX.out]; rfl] at h
            refine Calls.regrown_of (h.mono ?_)
            rintro r w' ⟨rfl, nd, rfl⟩
            exact ⟨rfl, below_drewN (Below.refl _ _) nd⟩
          have hrb : rB L m k = !ab := by unfold rB; rw [← HX.out, ← HY.out, HCB.out, hab]; rfl
          have HAH := Lib.hid hah
          have HRB := Lib.hid hrb
          clear hah hrb hab
          cases ab with
          | true =>
            have hrs : rUp L k (m + 1) = rUp L k m := by rw [HRS.out, HRB.out]; simp
            have HRZ := Lib.hid hrs
            clear hrs
            go_wp2
            refine wp_region_quiet_below (by kernel_rfl) (by kernel_rfl) ?_
            repeat (first | go_big_quiet_step ((first | (go_at_call 40; exact HCF.out _ _) | (go_at_call 30; exact HAH.out _ _))) | quiet_step ((first | (go_at_call 40; exact HCF.out _ _) | (go_at_call 30; exact HAH.out _ _))))
            refine wpQuiet_nil ?_
            intro W2 hW2e
            obtain ⟨⟨dq, osq⟩, hW2⟩ := hW2e
            have hbl2 : Below wr.heap.size wr W2 := by rw [hW2]; exact below_regrown wr dq osq
            clear hW2 x0 x1 x2 x3 y0 y1 y2 y3
            have HBL2 := Lib.hid (HBL.out.trans (hbl2.mono HBL.out.size))
            have HOWN2 := Lib.hid (own_below HOWN.out hbl2)
            clear hbl2
            go_wp2
            go_roundw
            case rel => exact ⟨m + 1, by omega, by go_num, by rw [HRZ.out]; exact HOWN2.out, HBL2.out⟩
            case measure => simp [intOf] <;> omega
          | false =>
            have hrs : rUp L k (m + 1) = rUp L k m ++ [((k : Int), (m : Int))] := by rw [HRS.out, HRB.out]; simp
            have HRZ := Lib.hid hrs
            obtain ⟨i0, hi0, hz0, hz1, hz2⟩ := info_parts info36
            have hrl := rUp_len L k m
            clear hrs
            go_wp2
            refine wp_region_quiet_below (by kernel_rfl) (by kernel_rfl) ?_
            repeat (first | go_big_quiet_step ((first | (go_at_call 40; exact HCF.out _ _) | (go_at_call 30; exact HAH.out _ _))) | quiet_step ((first | (go_at_call 40; exact HCF.out _ _) | (go_at_call 30; exact HAH.out _ _))))
            refine wpQuiet_nil ?_
            intro W2 hW2e
            obtain ⟨⟨dq, osq⟩, hW2⟩ := hW2e
            have hbl2 : Below wr.heap.size wr W2 := by rw [hW2]; exact below_regrown wr dq osq
            clear hW2 x0 x1 x2 x3 y0 y1 y2 y3
            obtain ⟨w3, hw3⟩ : ∃ w3, w3 = W2 := ⟨_, rfl⟩
            rw [← hw3] at hbl2 ⊢
            clear hw3
            have hbl3 : Below w.heap.size w w3 := HBL.out.trans (hbl2.mono HBL.out.size)
            have hown3 := (own_below HOWN.out hbl2).alloc (.cells #[.int .i64 k, .int .i64 m] 36)
            have hpr := Rd.pair w3 k m 36
            clear hbl2
            have HBL3 := Lib.hid hbl3
            have hsz3 := hbl3.size
            have HPR := Lib.hid hpr
            have HO3 := Lib.hid hown3
            clear hpr hown3 hbl3 HAH
            go_wp2_with (at_builtin; (refine wpList_append_rd _ rfl _ _ 30 rfl w.heap.size 36 i0 (.agg #[.int .i64 0, .int .i64 0]) 2 16 Try.underlying30 hi0 hz0 hz1 hz2 rfl (by decide) _ (rUp L k m).length ((rUp L k m).flatMap pairC) rfl HO3.out (w3.heap.size + 1) _ 1 _ pairC pairC_len pairC_one [((k : Int), (m : Int))] rfl rfl HPR.out ?c3 ?c4 ?c5 ?_))
            case c3 => unfold maxLen; omega
            case c4 => omega
            case c5 => first | omega | (simp; omega)
            intro v' w4 hown4 hg4 hx4
            have hbl4 : Below w.heap.size w w4 := (HBL3.out.alloc HBL3.out.size _).grown hg4 (by simp; omega) (fun q e => (HO3.out.lt q e).1)
            have hown5 : w4.ownsRow w.heap.size 36 2 v' (rUp L k (m + 1)).length ((rUp L k (m + 1)).flatMap pairC) := by
              rw [HRZ.out, List.length_append, List.flatMap_append]
              simpa using hown4
            obtain ⟨g', cap', rfl⟩ := own_succ hown4
            have HB4 := Lib.hid hbl4
            have HO5 := Lib.hid hown5
            clear hown4 hown5 hbl4 hg4 hx4
            go_wp2
            go_roundw
            case rel => exact ⟨m + 1, by omega, by go_num, HO5.out, HB4.out⟩
            case measure => simp [intOf] <;> omega
      · obtain rfl : m = k := by omega
        go_wp2
        go_ret
        exact ⟨_, rfl, HOWN.out, HBL.out⟩

set_option maxRecDepth 100000 in
set_option maxHeartbeats 6400000 in
theorem races_true {w : World} {B gd N : Nat} {D : Det} (A : Option Addr) (len c : Nat) (L : List Ev) (hlen : L.length = len) (hN : len ≤ 60000) (rd : Rd w w.heap.size 4 evC A L) (ok : ∀ x ∈ L, EvOk w w.heap.size x) (hp : ∀ x ∈ L, x.path.length ≤ 1000000)
    (k : Nat) (hk : k < len) (hK : ∀ i, i ≤ k → D.K[i]? = some (kc L i)) (hd : DS w B gd N D) (hK9 : D.K.length ≤ 100000) :
    Calls Try.prog 33 #[.pointer (some ⟨gd, 0, none⟩), .slice A len c, .int .i64 k, .bool true] w (RacesP w ((rUp L k k).take 1)) := by
  have hyk := at_evAt (L := L) (i := k) (by omega)
  obtain ⟨b, off, rfl, hb, y0, y1, y2, y3⟩ := rd.ev hyk
  obtain ⟨ly, hly⟩ : ∃ m, (evAt L k).path.length = m := ⟨_, rfl⟩
  obtain ⟨y, hy⟩ : ∃ y, y = evAt L k := ⟨_, rfl⟩
  rw [hly] at y3
  rw [← hy] at hly y0 y1 y2 y3
  have hki : (k : Int) < (len : Int) := by omega
  have HRD := Lib.hid rd
  have HOK := Lib.hid ok
  have HP := Lib.hid hp
  have HL := Lib.hid hlen
  have HK := Lib.hid hK
  have HD := Lib.hid hd
  have HK9 := Lib.hid hK9
  have HY := Lib.hid hy
  have HLY := Lib.hid hly
  obtain ⟨ac, hac⟩ : ∃ b, accB y.kind = b := ⟨_, rfl⟩
  have HAC := Lib.hid (access_any (t := y.thread) (i := y.id) (pa := y.pa) (pl := ly) (pc := y.pc) (w := w) ac hac)
  have HA := Lib.hid hac
  clear rd ok hp hlen hK hd hK9 hy hly hyk hac
  go_enter Try.func33, Try.ntmps33
  go_wp2_with fail
  refine HAC.out.mono ?_
  rintro r w1 ⟨rfl, hb1⟩
  have HB1 := Lib.hid hb1
  clear hb1 y0 y1 y2 y3 HAC
  cases ac with
  | false =>
    have hnil : rUp L k k = [] := rUp_noacc (by rw [← HY.out]; exact HA.out) k
    have HNIL := Lib.hid hnil
    clear hnil
    go_wp2
    go_ret
    refine ⟨.slice none 0 0, rfl, ?_, HB1.out⟩
    rw [HNIL.out]
    exact World.ownsRow_nil _ _ _ _
  | true =>
    go_wp2
    go_loopw [9, 18] (fun v i wr => ∃ m : Nat, m ≤ k ∧ i = .int .i64 m ∧ wr.ownsRow w.heap.size 36 2 v (rUp L k m).length ((rUp L k m).flatMap pairC) ∧ Below w.heap.size w wr ∧ rUp L k m = []) (fun _ i _ => k - (intOf i).toNat)
    case atStart => exact ⟨0, by omega, rfl, World.ownsRow_nil _ _ _ _, HB1.out, rfl⟩
    case round =>
      obtain ⟨m, hm, rfl, hown, hbl, hnl⟩ := hrel
      have HOWN := Lib.hid hown
      have HBL := Lib.hid hbl
      have HNL := Lib.hid hnl
      clear hnl
      clear hown hbl
      by_cases hlt : m < k
      · have hxm := at_evAt (L := L) (i := m) (by rw [HL.out]; omega)
        have hyk := at_evAt (L := L) (i := k) (by rw [HL.out]; exact hk)
        have hrd := HRD.out.below HBL.out
        obtain ⟨b', off', eA, _, x0, x1, x2, x3⟩ := hrd.ev hxm
        cases eA
        obtain ⟨b', off', eA, _, y0, y1, y2, y3⟩ := hrd.ev hyk
        cases eA
        obtain ⟨lx, hlx⟩ : ∃ q, (evAt L m).path.length = q := ⟨_, rfl⟩
        obtain ⟨x, hx⟩ : ∃ x, x = evAt L m := ⟨_, rfl⟩
        rw [hlx] at x3
        rw [← hx] at hlx x0 x1 x2 x3 hxm
        rw [← HY.out] at y0 y1 y2 y3 hyk
        rw [HLY.out] at y3
        have hsz := HBL.out.size
        have okx : EvOk wr wr.heap.size x := ((HOK.out x (List.mem_of_getElem? hxm)).below HBL.out).more hsz
        have oky : EvOk wr wr.heap.size y := ((HOK.out y (List.mem_of_getElem? hyk)).below HBL.out).more hsz
        obtain ⟨cb, hcb⟩ : ∃ b, confB x y = b := ⟨_, rfl⟩
        have hcf : ∀ (d : Nat) (os : Array Obj), Calls Try.prog 40 #[.agg #[.int .u8 x.kind, .int .i64 x.thread, .int .i64 x.id, .slice x.pa lx x.pc], .agg #[.int .u8 y.kind, .int .i64 y.thread, .int .i64 y.id, .slice y.pa ly y.pc]] (Go.Sort.grow (redrawn wr d) os) fun r w' => r = .returned (.bool cb) ∧ ∃ p : Regrown, w' = Go.Sort.grow (redrawn wr p.d) p.os := by
          intro d os
          have hW := below_regrown wr d os
          rw [← hcb]
          exact Calls.regrown_of (conflict_any x y lx ly _ hlx HLY.out ((okx.below hW).more hW.size) ((oky.below hW).more hW.size) (by rw [← hlx]; exact HP.out x (List.mem_of_getElem? hxm)) (by rw [← HLY.out]; exact HP.out y (List.mem_of_getElem? hyk)))
        have HCF := Lib.hid hcf
        have x0 := cell_regrown x0
        have x1 := cell_regrown x1
        have x2 := cell_regrown x2
        have x3 := cell_regrown x3
        have y0 := cell_regrown y0
        have y1 := cell_regrown y1
        have y2 := cell_regrown y2
        have y3 := cell_regrown y3
        have HCB := Lib.hid hcb
        have HX := Lib.hid hx
        have HXM := Lib.hid hxm
        have hmi : (m : Int) < (k : Int) := by omega
        have hm0 : (0 : Int) ≤ (m : Int) := by omega
        have hml : (m : Int) < (len : Int) := by omega
        have hk0 : (0 : Int) ≤ (k : Int) := by omega
        have hrs := rUp_succ L k m
        have HRS := Lib.hid hrs
        clear hcf hcb hx hxm okx oky hrd hyk hlx hrs hsz
        cases cb with
        | false =>
          have hrb : rB L m k = false := by unfold rB; rw [← HX.out, ← HY.out, HCB.out]; rfl
          have hrs : rUp L k (m + 1) = rUp L k m := by rw [HRS.out, hrb]; simp
          have HRZ := Lib.hid hrs
          clear hrb hrs
          go_wp2
          refine wp_region_quiet_below (by kernel_rfl) (by kernel_rfl) ?_
          repeat (first | go_big_quiet_step ((first | (go_at_call 40; exact HCF.out _ _))) | quiet_step ((first | (go_at_call 40; exact HCF.out _ _))))
          refine wpQuiet_nil ?_
          intro W2 hW2e
          obtain ⟨⟨dq, osq⟩, hW2⟩ := hW2e
          have hbl2 : Below wr.heap.size wr W2 := by rw [hW2]; exact below_regrown wr dq osq
          clear hW2 x0 x1 x2 x3 y0 y1 y2 y3
          have HBL2 := Lib.hid (HBL.out.trans (hbl2.mono HBL.out.size))
          have HOWN2 := Lib.hid (own_below HOWN.out hbl2)
          clear hbl2
          go_wp2
          go_roundw
          case rel => exact ⟨m + 1, by omega, by go_num, by rw [HRZ.out]; exact HOWN2.out, HBL2.out, by rw [HRZ.out]; exact HNL.out⟩
          case measure => simp [intOf] <;> omega
        | true =>
          obtain ⟨ab, hab⟩ : ∃ b, ahB L m k = b := ⟨_, rfl⟩
          have hah : ∀ (d : Nat) (os : Array Obj), Calls Try.prog 30 #[.pointer (some ⟨gd, 0, none⟩), .slice (some ⟨b, off, none⟩) len c, .int .i64 m, .int .i64 k] (Go.Sort.grow (redrawn wr d) os) fun r w' => r = .returned (.bool ab) ∧ ∃ p : Regrown, w' = Go.Sort.grow (redrawn wr p.d) p.os := by
            intro d os
            have hW := below_regrown wr d os
            have hbW := HBL.out.trans (hW.mono HBL.out.size)
            have h := dahead_any (B := B) (N := N) (some ⟨b, off, none⟩) len c L HL.out ((HRD.out.below hbW).more hbW.size) m k (by omega) HXM.out (HK.out m (by omega)) (HK.out k (Nat.le_refl _)) (HD.out.below hbW) HK9.out
            rw [show decide (atZ (kc L m) x.thread ≤ atZ (kc L k) x.thread) = ab from by rw [← hab, HX.out]; rfl] at h
            refine Calls.regrown_of (h.mono ?_)
            rintro r w' ⟨rfl, nd, rfl⟩
            exact ⟨rfl, below_drewN (Below.refl _ _) nd⟩
          have hrb : rB L m k = !ab := by unfold rB; rw [← HX.out, ← HY.out, HCB.out, hab]; rfl
          have HAH := Lib.hid hah
          have HRB := Lib.hid hrb
          clear hah hrb hab
          cases ab with
          | true =>
            have hrs : rUp L k (m + 1) = rUp L k m := by rw [HRS.out, HRB.out]; simp
            have HRZ := Lib.hid hrs
            clear hrs
            go_wp2
            refine wp_region_quiet_below (by kernel_rfl) (by kernel_rfl) ?_
            repeat (first | go_big_quiet_step ((first | (go_at_call 40; exact HCF.out _ _) | (go_at_call 30; exact HAH.out _ _))) | quiet_step ((first | (go_at_call 40; exact HCF.out _ _) | (go_at_call 30; exact HAH.out _ _))))
            refine wpQuiet_nil ?_
            intro W2 hW2e
            obtain ⟨⟨dq, osq⟩, hW2⟩ := hW2e
            have hbl2 : Below wr.heap.size wr W2 := by rw [hW2]; exact below_regrown wr dq osq
            clear hW2 x0 x1 x2 x3 y0 y1 y2 y3
            have HBL2 := Lib.hid (HBL.out.trans (hbl2.mono HBL.out.size))
            have HOWN2 := Lib.hid (own_below HOWN.out hbl2)
            clear hbl2
            go_wp2
            go_roundw
            case rel => exact ⟨m + 1, by omega, by go_num, by rw [HRZ.out]; exact HOWN2.out, HBL2.out, by rw [HRZ.out]; exact HNL.out⟩
            case measure => simp [intOf] <;> omega
          | false =>
            have hrs : rUp L k (m + 1) = rUp L k m ++ [((k : Int), (m : Int))] := by rw [HRS.out, HRB.out]; simp
            have HRZ := Lib.hid hrs
            obtain ⟨i0, hi0, hz0, hz1, hz2⟩ := info_parts info36
            have hrl := rUp_len L k m
            clear hrs
            go_wp2
            refine wp_region_quiet_below (by kernel_rfl) (by kernel_rfl) ?_
            repeat (first | go_big_quiet_step ((first | (go_at_call 40; exact HCF.out _ _) | (go_at_call 30; exact HAH.out _ _))) | quiet_step ((first | (go_at_call 40; exact HCF.out _ _) | (go_at_call 30; exact HAH.out _ _))))
            refine wpQuiet_nil ?_
            intro W2 hW2e
            obtain ⟨⟨dq, osq⟩, hW2⟩ := hW2e
            have hbl2 : Below wr.heap.size wr W2 := by rw [hW2]; exact below_regrown wr dq osq
            clear hW2 x0 x1 x2 x3 y0 y1 y2 y3
            obtain ⟨w3, hw3⟩ : ∃ w3, w3 = W2 := ⟨_, rfl⟩
            rw [← hw3] at hbl2 ⊢
            clear hw3
            have hbl3 : Below w.heap.size w w3 := HBL.out.trans (hbl2.mono HBL.out.size)
            have hown3 := (own_below HOWN.out hbl2).alloc (.cells #[.int .i64 k, .int .i64 m] 36)
            have hpr := Rd.pair w3 k m 36
            clear hbl2
            have HBL3 := Lib.hid hbl3
            have hsz3 := hbl3.size
            have HPR := Lib.hid hpr
            have HO3 := Lib.hid hown3
            clear hpr hown3 hbl3 HAH
            go_wp2_with (at_builtin; (refine wpList_append_rd _ rfl _ _ 30 rfl w.heap.size 36 i0 (.agg #[.int .i64 0, .int .i64 0]) 2 16 Try.underlying30 hi0 hz0 hz1 hz2 rfl (by decide) _ (rUp L k m).length ((rUp L k m).flatMap pairC) rfl HO3.out (w3.heap.size + 1) _ 1 _ pairC pairC_len pairC_one [((k : Int), (m : Int))] rfl rfl HPR.out ?c3 ?c4 ?c5 ?_))
            case c3 => unfold maxLen; omega
            case c4 => omega
            case c5 => first | omega | (simp; omega)
            intro v' w4 hown4 hg4 hx4
            have hbl4 : Below w.heap.size w w4 := (HBL3.out.alloc HBL3.out.size _).grown hg4 (by simp; omega) (fun q e => (HO3.out.lt q e).1)
            have hown5 : w4.ownsRow w.heap.size 36 2 v' (rUp L k (m + 1)).length ((rUp L k (m + 1)).flatMap pairC) := by
              rw [HRZ.out, List.length_append, List.flatMap_append]
              simpa using hown4
            obtain ⟨g', cap', rfl⟩ := own_succ hown4
            have HB4 := Lib.hid hbl4
            have HO5 := Lib.hid hown5
            clear hown4 hown5 hbl4 hg4 hx4
            go_wp2
            go_ret
            refine ⟨_, rfl, ?_, HB4.out⟩
            have e : (rUp L k k).take 1 = rUp L k (m + 1) := by
              obtain ⟨l, hl⟩ := rUp_pre L k (show m + 1 ≤ k by omega)
              rw [hl, HRZ.out, HNL.out]; rfl
            rw [e]
            have h := HO5.out
            have e2 : (rUp L k (m + 1)).length = (rUp L k m).length + 1 := by rw [HRZ.out]; simp
            rw [e2] at h ⊢
            exact h
      · obtain rfl : m = k := by omega
        go_wp2
        go_ret
        refine ⟨_, rfl, ?_, HBL.out⟩
        have h := HOWN.out
        rw [HNL.out] at h ⊢
        exact h
end Go.Proofs.Ytpcjcmbhoglnfaa
