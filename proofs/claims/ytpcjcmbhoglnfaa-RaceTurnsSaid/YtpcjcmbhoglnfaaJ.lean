/- Race: contracts of First, All, Ahead. -/
import Derived.Test.YtpcjcmbhoglnfaaI
namespace Go.Proofs.Ytpcjcmbhoglnfaa
open Go.RowKit Go.ChangeMaps Go.MapKept
set_option linter.unusedVariables false
set_option linter.unusedSimpArgs false

theorem all_any {w : World} (A : Option Addr) (len c : Nat) (L : List Ev) (h : EvRow w A len c L) :
    Calls Try.prog 13 #[.slice A len c] w (FindP w (findL L false) (errL L)) := by
  have HF := Lib.hid (find_false A len c L h)
  clear h
  go_enter Try.func13, Try.ntmps13
  go_wp2_with fail
  refine HF.out.mono ?_
  rintro r w' ⟨v, rfl, hown, hb⟩
  go_wp2
  go_ret2
  exact ⟨v, rfl, hown, hb⟩
/-- what First tells -/
def firstAt (L : List Ev) : Int := ((findL L false).head?.map (·.1)).getD 0
def firstWith (L : List Ev) : Int := ((findL L false).head?.map (·.2)).getD 0
def firstIs (L : List Ev) : Bool := (findL L false).head?.isSome
theorem findL_one (L : List Ev) : findL L true = (findL L false).take 1 := by
  unfold findL
  split
  · rfl
  · rfl
set_option maxRecDepth 100000 in
set_option maxHeartbeats 3200000 in
theorem first_any {w : World} (A : Option Addr) (len c : Nat) (L : List Ev) (h : EvRow w A len c L) :
    Calls Try.prog 12 #[.slice A len c] w fun r w' => r = .returned (.tuple #[.int .i64 (firstAt L), .int .i64 (firstWith L), .bool (firstIs L), .int .i64 (errL L)]) ∧ Below w.heap.size w w' := by
  have HF := Lib.hid (find_true A len c L h)
  clear h
  cases hl : findL L false with
  | nil =>
    have e1 : findL L true = [] := by rw [findL_one, hl]; rfl
    have ea : firstAt L = 0 := by unfold firstAt; rw [hl]; rfl
    have ew : firstWith L = 0 := by unfold firstWith; rw [hl]; rfl
    have ei : firstIs L = false := by unfold firstIs; rw [hl]; rfl
    rw [ea, ew, ei]
    rw [e1] at HF
    clear ea ew ei e1 hl
    go_enter Try.func12, Try.ntmps12
    go_wp2_with fail
    refine HF.out.mono ?_
    rintro r w' ⟨v, rfl, hown, hb⟩
    obtain ⟨A2, c2, rfl⟩ := own_slice hown
    clear hown
    go_wp2
    exact bodyPost_ret (v := .tuple #[.int .i64 0, .int .i64 0, .bool false, .int .i64 (errL L)]) (by simp [results, Try.f12, go_sem]) rfl ⟨rfl, hb⟩
  | cons p l =>
    have e1 : findL L true = [p] := by rw [findL_one, hl]; rfl
    have ea : firstAt L = p.1 := by unfold firstAt; rw [hl]; rfl
    have ew : firstWith L = p.2 := by unfold firstWith; rw [hl]; rfl
    have ei : firstIs L = true := by unfold firstIs; rw [hl]; rfl
    have e0 : errL L = 0 := by
      unfold errL
      cases hm : mayB L with
      | true => rfl
      | false => unfold findL at hl; rw [hm] at hl; cases hl
    rw [ea, ew, ei, e0]
    rw [e1, e0] at HF
    clear ea ew ei e1 e0 hl
    go_enter Try.func12, Try.ntmps12
    go_wp2_with fail
    refine HF.out.mono ?_
    rintro r w' ⟨v, rfl, hown, hb⟩
    obtain ⟨g, c2, rfl⟩ := own_succ (k := 0) hown
    have c0 : w'.cell? ⟨g, 0, none⟩ = some (.int .i64 p.1) := hown.cellAt 0 (by decide)
    have c1 : w'.cell? ⟨g, 1, none⟩ = some (.int .i64 p.2) := hown.cellAt 1 (by decide)
    clear hown
    go_wp2
    go_quiet (fail)
    go_wp2
    exact bodyPost_ret (v := .tuple #[.int .i64 p.1, .int .i64 p.2, .bool true, .int .i64 0]) (by simp [results, Try.f12, go_sem]) rfl ⟨rfl, below_drewN hb _⟩

/-! ### Ahead -/
def aheadF (L : List Ev) (i k : Int) : Bool := decide (0 ≤ i) && decide (i < k) && decide (k < L.length) && mayB L && ahB L i.toNat k.toNat
set_option maxRecDepth 100000 in
set_option maxHeartbeats 6400000 in
theorem ahead_yes {w : World} (A : Option Addr) (len c : Nat) (L : List Ev) (h : EvRow w A len c L) (i k : Nat) (hik : i < k) (hk : k < len) (hm : mayB L = true) (b : Bool) (hb : ahB L i k = b) :
    Calls Try.prog 17 #[.slice A len c, .int .i64 i, .int .i64 k] w fun r w' => r = .returned (.bool b) ∧ Below w.heap.size w w' := by
  have HR := Lib.hid h
  have hN := h.N
  have hcap := h.cap
  have HMAY := Lib.hid (may_any (c := c) true h.len (by omega) h.rd h.ok hm)
  simp only [if_true] at HMAY
  have HM := Lib.hid hm
  have HB := Lib.hid hb
  have e1 : (0 : Int) ≤ (i : Int) := by omega
  have e2 : decide ((i : Int) < 0) = false := by simp
  have e3 : decide ((k : Int) ≤ (i : Int)) = false := by simp; omega
  have e4 : decide ((len : Int) ≤ (k : Int)) = false := by simp; omega
  have e5 : (k : Int) + 1 ≤ (c : Int) := by omega
  have e6 : (0 : Int) ≤ (k : Int) + 1 := by omega
  have e7 : (k : Int) + 1 ≤ (len : Int) := by omega
  clear h hm hb
  go_enter Try.func17, Try.ntmps17
  go_wp2_with fail
  refine HMAY.out.mono ?_
  rintro r w1 ⟨rfl, hb1⟩
  have HB1 := Lib.hid hb1
  clear hb1 HMAY
  go_wp2_with fail
  refine (start_any w1).mono ?_
  rintro r w2 ⟨gd, rfl, hds, hb2⟩
  have HDS := Lib.hid hds
  have HB2 := Lib.hid (HB1.out.trans (hb2.mono HB1.out.size))
  have HSZ := Lib.hid HB1.out.size
  clear hds hb2
  obtain ⟨B, hB⟩ : ∃ B, B = w1.heap.size := ⟨_, rfl⟩
  rw [← hB] at HDS HSZ
  clear hB HB1
  go_wp2
  go_loopw [34] (fun j wr => ∃ m : Nat, m ≤ k + 1 ∧ j = .int .i64 m ∧ DS wr B gd m (detL (L.take m)) ∧ Below w.heap.size w wr) (fun j _ => k + 1 - (intOf j).toNat)
  case atStart => exact ⟨0, by omega, rfl, HDS.out, HB2.out⟩
  case round =>
    obtain ⟨m, hm, rfl, hds, hbl⟩ := hrel
    have HD := Lib.hid hds
    have HBL := Lib.hid hbl
    clear hds hbl
    by_cases hlt : m < k + 1
    · have hml : m < L.length := by rw [HR.out.len]; omega
      have hxm := at_evAt hml
      have hrow := HR.out.below HBL.out
      obtain ⟨b', off, rfl, hb, x0, x1, x2, x3⟩ := hrow.rd.ev hxm
      obtain ⟨x, hx⟩ : ∃ x, x = evAt L m := ⟨_, rfl⟩
      rw [← hx] at x0 x1 x2 x3 hxm
      obtain ⟨lx, hlx⟩ : ∃ q, x.path.length = q := ⟨_, rfl⟩
      rw [hlx] at x3
      have hok := hrow.ok x (List.mem_of_getElem? hxm)
      obtain ⟨hfit, hdok, hnext⟩ := det_fit HM.out (by rw [HR.out.len]; omega) hxm hok.wi
      have hwb : Below wr.heap.size wr (wr.alloc (.cells #[.int .u8 x.kind, .int .i64 x.thread, .int .i64 x.id, .slice x.pa lx x.pc] 26)) := (Below.refl _ wr).alloc (Nat.le_refl _) _
      have hdo := ddoes_any x lx hfit (HD.out.below hwb) hdok
      have HDO := Lib.hid hdo
      have HWB := Lib.hid hwb
      have HNX := Lib.hid hnext
      have hmi : (m : Int) < (k : Int) + 1 := by omega
      have hm0 : (0 : Int) ≤ (m : Int) := by omega
      clear hfit hdok hnext hdo hwb hxm hok hrow hlx hx
      go_wp2_with fail
      refine HDO.out.mono ?_
      rintro r w3 ⟨rfl, hd3, hk3, hb3⟩
      have hBw := HSZ.out
      have hbl3 : Below w.heap.size w w3 := (HBL.out.trans (HWB.out.mono HBL.out.size)).trans (hb3.mono hBw)
      rw [← HNX.out] at hd3
      have HD3 := Lib.hid hd3
      have HBL3 := Lib.hid hbl3
      clear hd3 hk3 hb3 hbl3 x0 x1 x2 x3 HDO hBw
      go_wp2
      go_roundw
      case rel => exact ⟨m + 1, by omega, by go_num, HD3.out, HBL3.out⟩
      case measure => simp [intOf] <;> omega
    · obtain rfl : m = k + 1 := by omega
      have hr3 := HR.out.below HBL.out
      have hah := dahead_any A len c L HR.out.len hr3.rd i k (by omega) (at_evAt (by rw [HR.out.len]; omega)) (kc_at (n := k + 1) (by omega) (by rw [HR.out.len]; omega)) (kc_at (n := k + 1) (by omega) (by rw [HR.out.len]; omega)) HD.out (by rw [detL_len, List.length_take]; omega)
      rw [show decide (atZ (kc L i) (evAt L i).thread ≤ atZ (kc L k) (evAt L i).thread) = b from by rw [← HB.out]; rfl] at hah
      have HAH := Lib.hid hah
      clear hr3 hah
      go_wp2_with fail
      refine HAH.out.mono ?_
      rintro r w3 ⟨rfl, nd, rfl⟩
      go_wp2
      go_ret
      exact ⟨rfl, below_drewN HBL.out nd⟩
end Go.Proofs.Ytpcjcmbhoglnfaa
