/- Race: the walk of TopRaces. -/
import Derived.Test.YtpcjcmbhoglnfaaP
import Derived.ChangeKeysEq
namespace Go.Proofs.Ytpcjcmbhoglnfaa
open Go.RowKit
set_option linter.unusedVariables false
set_option linter.unusedSimpArgs false

def hd1 (l : List PR) : Int := (l.head?.map (·.1)).getD 0
def hd2 (l : List PR) : Int := (l.head?.map (·.2)).getD 0
def preL (L : List Ev) (k m : Nat) : List PR := allUp L k ++ rUp L k m
theorem hd1_app {l : List PR} {p : PR} (h : l ≠ []) : hd1 (l ++ [p]) = hd1 l := by cases l with | nil => exact absurd rfl h | cons a l => rfl
theorem hd2_app {l : List PR} {p : PR} (h : l ≠ []) : hd2 (l ++ [p]) = hd2 l := by cases l with | nil => exact absurd rfl h | cons a l => rfl
theorem preL_zero (L : List Ev) (k : Nat) : preL L k 0 = allUp L k := by simp [preL, rUp]
theorem preL_all (L : List Ev) (k : Nat) : preL L k k = allUp L (k + 1) := by rw [allUp_succ]; rfl
theorem preL_no {L : List Ev} {k m : Nat} (h : rB L m k = false) : preL L k (m + 1) = preL L k m := by unfold preL; rw [rUp_succ, h]; simp
theorem preL_yes {L : List Ev} {k m : Nat} (h : rB L m k = true) : preL L k (m + 1) = preL L k m ++ [((k : Int), (m : Int))] := by unfold preL; rw [rUp_succ, h]; simp
theorem preL_pre {L : List Ev} {k m n : Nat} (hm : m ≤ k) (hk : k < n) : ∃ l, allUp L n = preL L k m ++ l := by
  obtain ⟨l1, h1⟩ := rUp_pre L k hm
  obtain ⟨l2, h2⟩ := allUp_pre L (m := k + 1) (n := n) hk
  exact ⟨l1 ++ l2, by rw [h2, allUp_succ, h1, preL, List.append_assoc, List.append_assoc, List.append_assoc]⟩
theorem preL_at {L : List Ev} {k m n : Nat} (hm : m < k) (hk : k < n) (h : rB L m k = true) : (allUp L n)[(preL L k m).length]? = some ((k : Int), (m : Int)) := by
  obtain ⟨l, hl⟩ := preL_pre (L := L) (m := m + 1) hm hk
  rw [hl, preL_yes h, List.append_assoc, List.getElem?_append_right (Nat.le_refl _)]
  simp
theorem good_at {L : List Ev} (h : mayB L = true) {k : Nat} (hk : k < L.length) : (evAt L k).kind = 3 → (evAt L k).path = [] := by
  obtain ⟨E, hE⟩ := mayB_run h (n := k)
  exact (doesF_good (mayB_step h (at_evAt hk) hE).1).free
theorem own_pos {w : World} {B e s n c : Nat} {A : Option Addr} {xs : List Value} (h : w.ownsRow B e s (.slice A n c) n xs) (hn : 0 < n) : ∃ g, A = some ⟨g, 0, none⟩ := by
  rcases h.2 with ⟨_, h0⟩ | ⟨g, cap, _, e1, _⟩
  · omega
  · cases e1; exact ⟨g, rfl⟩
theorem pair_at {w : World} {B g c n : Nat} {R : List PR} (h : w.ownsRow B 36 2 (.slice (some ⟨g, 0, none⟩) n c) n (R.flatMap pairC)) {i : Nat} {p : PR} (hi : R[i]? = some p) (hn : i < n) : w.cell? ⟨g, i * 2, none⟩ = some (.int .i64 p.1) ∧ w.cell? ⟨g, i * 2 + 1, none⟩ = some (.int .i64 p.2) := by
  have h1 := h.cellAt (i * 2) (by omega)
  have h2 := h.cellAt (i * 2 + 1) (by omega)
  exact ⟨h1.trans (flat_at9 pairC_len hi (j := 0) (u := .int .i64 p.1) rfl), h2.trans (flat_at9 pairC_len hi (j := 1) (u := .int .i64 p.2) rfl)⟩
theorem und36 : Try.prog.underlying 36 = some (.array 2 3) := by kernel_rfl
theorem pair_same (a b : Int) (w : World) : (Op.equalIn 10000 36 (.agg #[.int .i64 a, .int .i64 b]) (.agg #[.int .i64 a, .int .i64 b])).run Try.prog w = .ok true w := by
  obtain ⟨i0, hi0, hz0, hz1, hz2⟩ := info_parts info3
  rw [show (10000 : Nat) = 9999 + 1 from rfl, run_equalIn_array w 9999 _ _ und36 hi0]
  have h1 : Try.prog.cellsOf 3 = 1 := by kernel_rfl
  have h2 : Try.prog.underlying 3 = some (.int .i64) := by kernel_rfl
  rw [h1]
  simp [Op.eqItems, List.range_succ, part, h2, run_equalIn_int _ _ _ _ _ _ _ h2]
theorem short_row (w : World) (A : Option Addr) (ln c : Nat) (L : List Ev) (hlen : L.length = ln) (rd : Rd w w.heap.size 4 evC A L) (ok : ∀ x ∈ L, EvOk w w.heap.size x) (hc : ln ≤ c) (hN : ln ≤ 80) (h : ∀ (q : Nat) (x : Ev), q < ln → L[q]? = some x → x.path.length ≤ 50) : EvRow w A ln c L :=
  ⟨hlen, by omega, rd, ok, fun x hx => by
    obtain ⟨q, hq⟩ := List.getElem?_of_mem hx
    have := h q x (by rw [← hlen]; exact (List.getElem?_eq_some_iff.1 hq).1) hq
    omega, hc⟩

set_option maxRecDepth 100000 in
set_option maxHeartbeats 12800000 in
theorem topRaces_short (w : World) (A : Option Addr) (len c : Nat) (L : List Ev) (hlen : L.length = len) (rd : Rd w w.heap.size 4 evC A L) (ok : ∀ x ∈ L, EvOk w w.heap.size x) (hc : len ≤ c) :
    Calls Try.prog 3 #[.slice A len c] w fun r w' => r = .returned (.bool true) ∧ Below w.heap.size w w' := by
  have HRD := Lib.hid rd
  have HOK := Lib.hid ok
  have HL := Lib.hid hlen
  have HC := Lib.hid hc
  clear rd ok hlen hc
  go_enter Try.func3, Try.ntmps3
  go_wp2_with fail
  refine (races_any w).mono ?_
  rintro r w1 ⟨rfl, hb1⟩
  have HB1 := Lib.hid hb1
  clear hb1
  by_cases h80 : 80 < len
  · have d80 : (80 : Int) < (len : Int) := by omega
    go_wp2
    go_ret
    exact ⟨rfl, HB1.out⟩
  have d80 : ¬ (80 : Int) < (len : Int) := by omega
  go_wp2
  go_loop [3] (fun i => ∃ k : Nat, k ≤ len ∧ i = .int .i64 k ∧ ∀ (q : Nat) (x : Ev), q < k → L[q]? = some x → x.path.length ≤ 50) (fun i => len - (intOf i).toNat)
  case atStart => exact ⟨0, by omega, rfl, fun q x hq => by omega⟩
  case round =>
    obtain ⟨k, hk, rfl, hall⟩ := hrel
    have HA := Lib.hid hall
    clear hall
    by_cases hlt : k < len
    · have hxk := at_evAt (L := L) (i := k) (by rw [HL.out]; exact hlt)
      obtain ⟨b, off, rfl, hb, x0, x1, x2, x3⟩ := (HRD.out.below HB1.out).ev hxk
      obtain ⟨x, hx⟩ : ∃ x, x = evAt L k := ⟨_, rfl⟩
      rw [← hx] at x3 hxk
      obtain ⟨lx, hlx⟩ : ∃ q, x.path.length = q := ⟨_, rfl⟩
      rw [hlx] at x3
      have e1 : (k : Int) < (len : Int) := by omega
      have e2 : (0 : Int) ≤ (k : Int) := by omega
      clear x0 x1 x2 hx
      by_cases h50 : 50 < lx
      · have d50 : (50 : Int) < (lx : Int) := by omega
        clear hxk hlx
        go_wp2
        go_ret
        exact ⟨rfl, HB1.out⟩
      · have d50 : ¬ (50 : Int) < (lx : Int) := by omega
        have hnx : ∀ (q : Nat) (z : Ev), q < k + 1 → L[q]? = some z → z.path.length ≤ 50 := by
          intro q z hq hz
          rcases Nat.lt_or_ge q k with h1 | h1
          · exact HA.out q z h1 hz
          · obtain rfl : q = k := by omega
            rw [hxk] at hz; cases hz; omega
        have HN := Lib.hid hnx
        clear hnx hxk hlx
        go_wp2
        go_round
        case rel => exact ⟨k + 1, by omega, by go_num, HN.out⟩
        case measure => simp [intOf] <;> omega
    · obtain rfl : k = len := by omega
      have hrow := (short_row w A k c L HL.out HRD.out HOK.out HC.out (by omega) HA.out)
      have HR := Lib.hid hrow
      have HF := Lib.hid (first_any A k c L (hrow.below HB1.out))
      clear hrow HA HRD HOK
      go_wp2_with fail
      refine HF.out.mono ?_
      rintro r w2 ⟨rfl, hb2⟩
      have HB2 := Lib.hid (HB1.out.trans (hb2.mono HB1.out.size))
      clear hb2 HF HB1
      have HG := Lib.hid (all_any A k c L (HR.out.below HB2.out))
      go_wp2_with fail
      refine HG.out.mono ?_
      rintro r w3 ⟨v, rfl, hown, hb3⟩
      obtain ⟨A2, c2, rfl⟩ := own_slice hown
      have HB3 := Lib.hid (HB2.out.trans (hb3.mono HB2.out.size))
      have HO := Lib.hid hown
      obtain ⟨B, hB⟩ : ∃ B, B = w2.heap.size := ⟨_, rfl⟩
      rw [← hB] at HO
      clear hb3 HG HB2 hown hB
      obtain ⟨mb, hmb⟩ : ∃ b, mayB L = b := ⟨_, rfl⟩
      have hr3 := HR.out.below HB3.out
      have HMAY := Lib.hid (may_any (c := c) mb HL.out (by omega) hr3.rd hr3.ok hmb)
      have HM := Lib.hid hmb
      clear hmb hr3
      cases mb with
      | false =>
        simp only [Bool.false_eq_true, if_false] at HMAY
        have f0 : findL L false = [] := by unfold findL; rw [HM.out]; rfl
        have f1 : firstAt L = 0 := by unfold firstAt; rw [f0]; rfl
        have f2 : firstWith L = 0 := by unfold firstWith; rw [f0]; rfl
        have f3 : firstIs L = false := by unfold firstIs; rw [f0]; rfl
        have f4 : errL L = 250 := by unfold errL; rw [HM.out]; rfl
        rw [f0, f1, f2, f3, f4]
        clear f0 f1 f2 f3 f4 HO
        go_wp2_with fail
        refine HMAY.out.mono ?_
        rintro r w4 ⟨rfl, hb4⟩
        have HB4 := Lib.hid (HB3.out.trans (hb4.mono HB3.out.size))
        clear hb4
        go_wp2
        go_ret
        exact ⟨rfl, HB4.out⟩
      | true =>
        simp only [if_true] at HMAY
        have f0 : findL L false = allUp L k := by unfold findL; rw [HM.out, HL.out]; rfl
        have f1 : firstAt L = hd1 (allUp L k) := by unfold firstAt; rw [f0]; rfl
        have f2 : firstWith L = hd2 (allUp L k) := by unfold firstWith; rw [f0]; rfl
        have f3 : firstIs L = decide ((0 : Int) < ((allUp L k).length : Int)) := by unfold firstIs; rw [f0]; cases allUp L k <;> simp
        have f4 : errL L = 0 := by unfold errL; rw [HM.out]; rfl
        rw [f0] at HO
        rw [f0, f1, f2, f3, f4]
        obtain ⟨rl, hrl⟩ : ∃ rl, rl = (allUp L k).length := ⟨_, rfl⟩
        rw [← hrl] at HO ⊢
        have hrl9 := allUp_len L k
        rw [← hrl] at hrl9
        have HRL := Lib.hid hrl
        have hrl8 : rl ≤ 6400 := Nat.le_trans hrl9 (Nat.le_trans (Nat.mul_le_mul (show k ≤ 80 by omega) (show k ≤ 80 by omega)) (by omega))
        clear f0 f1 f2 f3 f4 hrl hrl9
        go_wp2_with fail
        refine HMAY.out.mono ?_
        rintro r w4 ⟨rfl, hb4⟩
        have HB4 := Lib.hid (HB3.out.trans (hb4.mono HB3.out.size))
        have HO4 := Lib.hid (own_below HO.out hb4)
        clear hb4 HB3 HO HMAY
        obtain ⟨a1, ha1⟩ : ∃ a, a = hd1 (allUp L k) := ⟨_, rfl⟩
        obtain ⟨a2, ha2⟩ : ∃ a, a = hd2 (allUp L k) := ⟨_, rfl⟩
        rw [← ha1, ← ha2]
        have HA1 := Lib.hid ha1
        have HA2 := Lib.hid ha2
        clear ha1 ha2
        go_wp2
        go_loopw [10, 11, 12, 13] (fun n a b i wr => ∃ j : Nat, j ≤ k ∧ i = .int .i64 j ∧ n = .int .i64 ((allUp L j).length : Nat) ∧ a = .int .i64 (hd1 (allUp L j)) ∧ b = .int .i64 (hd2 (allUp L j)) ∧ wr.ownsRow B 36 2 (.slice A2 rl c2) rl ((allUp L k).flatMap pairC) ∧ Below w.heap.size w wr) (fun _ _ _ i _ => k - (intOf i).toNat)
        case atStart => exact ⟨0, by omega, rfl, rfl, rfl, rfl, HO4.out, HB4.out⟩
        case round =>
          obtain ⟨j, hj, rfl, rfl, rfl, rfl, hown, hbl⟩ := hrel
          have HOW := Lib.hid hown
          have HBL := Lib.hid hbl
          clear hown hbl
          by_cases hjk : j < k
          · have e1 : (j : Int) < (k : Int) := by omega
            rw [← preL_zero L j]
            go_wp2
            go_loopw [10, 11, 12, 14] (fun n a b i wq => ∃ m : Nat, m ≤ j ∧ i = .int .i64 m ∧ n = .int .i64 ((preL L j m).length : Nat) ∧ a = .int .i64 (hd1 (preL L j m)) ∧ b = .int .i64 (hd2 (preL L j m)) ∧ wq.ownsRow B 36 2 (.slice A2 rl c2) rl ((allUp L k).flatMap pairC) ∧ Below w.heap.size w wq) (fun _ _ _ i _ => j - (intOf i).toNat)
            case atStart => exact ⟨0, by omega, rfl, rfl, rfl, rfl, HOW.out, HBL.out⟩
            case round =>
              obtain ⟨m, hm, rfl, rfl, rfl, rfl, hown, hbl⟩ := hrel
              clear HOW HBL
              have HOW := Lib.hid hown
              have HBL := Lib.hid hbl
              clear hown hbl
              obtain ⟨n, hn⟩ : ∃ n, n = (preL L j m).length := ⟨_, rfl⟩
              obtain ⟨h1, hh1⟩ : ∃ n, n = hd1 (preL L j m) := ⟨_, rfl⟩
              obtain ⟨h2, hh2⟩ : ∃ n, n = hd2 (preL L j m) := ⟨_, rfl⟩
              rw [← hn, ← hh1, ← hh2]
              have HNN := Lib.hid hn
              have HH1 := Lib.hid hh1
              have HH2 := Lib.hid hh2
              clear hn hh1 hh2
              by_cases hlt : m < j
              · have hrow := HR.out.below HBL.out
                have hxm := at_evAt (L := L) (i := m) (by rw [HL.out]; omega)
                have hyj := at_evAt (L := L) (i := j) (by rw [HL.out]; omega)
                have hcf : tchB (evAt L m) (evAt L j) = confB (evAt L m) (evAt L j) := tch_conf (good_at HM.out (by rw [HL.out]; omega)) (good_at HM.out (by rw [HL.out]; omega))
                obtain ⟨b, off, rfl, _, x0, x1, x2, x3⟩ := hrow.rd.ev hxm
                obtain ⟨b', off', eA, _, y0, y1, y2, y3⟩ := hrow.rd.ev hyj
                cases eA
                obtain ⟨x, hx⟩ : ∃ x, x = evAt L m := ⟨_, rfl⟩
                obtain ⟨y, hy⟩ : ∃ y, y = evAt L j := ⟨_, rfl⟩
                obtain ⟨lx, hlx⟩ : ∃ q, x.path.length = q := ⟨_, rfl⟩
                obtain ⟨ly, hly⟩ : ∃ q, y.path.length = q := ⟨_, rfl⟩
                rw [← hx] at hxm x0 x1 x2 x3 hcf
                rw [← hy] at hyj y0 y1 y2 y3 hcf
                rw [hlx] at x3
                rw [hly] at y3
                obtain ⟨cb, hcb⟩ : ∃ q, confB x y = q := ⟨_, rfl⟩
                have htc : ∀ (d : Nat) (os : Array Obj), Calls Try.prog 15 #[.agg #[.int .u8 x.kind, .int .i64 x.thread, .int .i64 x.id, .slice x.pa lx x.pc], .agg #[.int .u8 y.kind, .int .i64 y.thread, .int .i64 y.id, .slice y.pa ly y.pc]] (Go.Sort.grow (redrawn wr d) os) fun r w' => r = .returned (.bool cb) ∧ ∃ p : Regrown, w' = Go.Sort.grow (redrawn wr p.d) p.os := by
                  intro d os
                  have hW := hrow.below (below_regrown wr d os)
                  have h := touches_any x y lx ly _ hlx hly (hW.ok x (List.mem_of_getElem? hxm)) (hW.ok y (List.mem_of_getElem? hyj)) (by rw [← hlx]; exact hW.hp x (List.mem_of_getElem? hxm)) (by rw [← hly]; exact hW.hp y (List.mem_of_getElem? hyj))
                  rw [hcf, hcb] at h
                  exact Calls.regrown_of h
                obtain ⟨ab, hab⟩ : ∃ q, ahB L m j = q := ⟨_, rfl⟩
                have hre : ∀ (d : Nat) (os : Array Obj), Calls Try.prog 16 #[.slice (some ⟨b, off, none⟩) k c, .int .i64 m, .int .i64 j] (Go.Sort.grow (redrawn wr d) os) fun r w' => r = .returned (.bool ab) ∧ ∃ p : Regrown, w' = Go.Sort.grow (redrawn wr p.d) p.os := by
                  intro d os
                  have hW := hrow.below (below_regrown wr d os)
                  exact Calls.regrown_of (reaches_any _ k c L hW m j hlt hjk ab (by rw [← hab]; exact ahB_iff HM.out (by rw [HL.out]; omega) hlt (by rw [HL.out]; exact hjk)))
                have hrb : rB L m j = (cb && !ab) := by unfold rB; rw [← hx, ← hy, hcb, hab]
                have x0 := cell_regrown x0
                have x1 := cell_regrown x1
                have x2 := cell_regrown x2
                have x3 := cell_regrown x3
                have y0 := cell_regrown y0
                have y1 := cell_regrown y1
                have y2 := cell_regrown y2
                have y3 := cell_regrown y3
                have HTC := Lib.hid htc
                have HRE := Lib.hid hre
                have HRB := Lib.hid hrb
                have HAB := Lib.hid hab
                have HROW := Lib.hid hrow
                have d1 : (m : Int) < (j : Int) := by omega
                have d2 : (m : Int) < (k : Int) := by omega
                have d3 : (0 : Int) ≤ (m : Int) := by omega
                have d4 : (0 : Int) ≤ (j : Int) := by omega
                clear htc hre hrb hab hcb hcf hlx hly hx hy hxm hyj hrow
                cases cb with
                | false =>
                  have hpn := preL_no (L := L) (k := j) (m := m) (by rw [HRB.out]; rfl)
                  have HPN := Lib.hid hpn
                  clear hpn
                  go_wp2
                  refine wp_region_quiet_below (by kernel_rfl) (by kernel_rfl) ?_
                  repeat (first | go_big_quiet_step ((first | (go_at_call 15; exact HTC.out _ _) | (go_at_call 16; exact HRE.out _ _))) | quiet_step ((first | (go_at_call 15; exact HTC.out _ _) | (go_at_call 16; exact HRE.out _ _))))
                  refine wpQuiet_nil ?_
                  intro W2 hW2e
                  obtain ⟨⟨dq, osq⟩, hW2⟩ := hW2e
                  have hbl2 : Below wr.heap.size wr W2 := by rw [hW2]; exact below_regrown wr dq osq
                  clear hW2 x0 x1 x2 x3 y0 y1 y2 y3
                  have HBL2 := Lib.hid (HBL.out.trans (hbl2.mono HBL.out.size))
                  have HOW2 := Lib.hid (own_below HOW.out hbl2)
                  clear hbl2
                  go_wp2
                  go_roundw
                  case rel => exact ⟨m + 1, by omega, by go_num, by rw [HPN.out, HNN.out], by rw [HPN.out, HH1.out], by rw [HPN.out, HH2.out], HOW2.out, HBL2.out⟩
                  case measure => simp [intOf] <;> omega
                | true =>
                  cases ab with
                  | true =>
                    have hpn := preL_no (L := L) (k := j) (m := m) (by rw [HRB.out]; rfl)
                    have HPN := Lib.hid hpn
                    clear hpn
                    go_wp2
                    refine wp_region_quiet_below (by kernel_rfl) (by kernel_rfl) ?_
                    repeat (first | go_big_quiet_step ((first | (go_at_call 15; exact HTC.out _ _) | (go_at_call 16; exact HRE.out _ _))) | quiet_step ((first | (go_at_call 15; exact HTC.out _ _) | (go_at_call 16; exact HRE.out _ _))))
                    refine wpQuiet_nil ?_
                    intro W2 hW2e
                    obtain ⟨⟨dq, osq⟩, hW2⟩ := hW2e
                    have hbl2 : Below wr.heap.size wr W2 := by rw [hW2]; exact below_regrown wr dq osq
                    clear hW2 x0 x1 x2 x3 y0 y1 y2 y3
                    have HBL2 := Lib.hid (HBL.out.trans (hbl2.mono HBL.out.size))
                    have HOW2 := Lib.hid (own_below HOW.out hbl2)
                    clear hbl2
                    go_wp2
                    go_roundw
                    case rel => exact ⟨m + 1, by omega, by go_num, by rw [HPN.out, HNN.out], by rw [HPN.out, HH1.out], by rw [HPN.out, HH2.out], HOW2.out, HBL2.out⟩
                    case measure => simp [intOf] <;> omega
                  | false =>
                    have hpn := preL_yes (L := L) (k := j) (m := m) (by rw [HRB.out]; rfl)
                    have hat := preL_at (L := L) (n := k) hlt hjk (by rw [HRB.out]; rfl)
                    rw [← HNN.out] at hat
                    have hnr : n < rl := by rw [HRL.out]; exact (List.getElem?_eq_some_iff.1 hat).1
                    obtain ⟨g, rfl⟩ := own_pos HOW.out (by omega)
                    have HPN := Lib.hid hpn
                    have HAT := Lib.hid hat
                    have q1 : (n : Int) < (rl : Int) := by omega
                    have q2 : ¬ (rl : Int) ≤ (n : Int) := by omega
                    have q3 : (0 : Int) ≤ (n : Int) := by omega
                    clear hpn hat
                    go_wp2
                    refine wp_region_quiet_below (by kernel_rfl) (by kernel_rfl) ?_
                    repeat (first | go_big_quiet_step ((first | (go_at_call 15; exact HTC.out _ _) | (go_at_call 16; exact HRE.out _ _))) | quiet_step ((first | (go_at_call 15; exact HTC.out _ _) | (go_at_call 16; exact HRE.out _ _))))
                    refine wpQuiet_nil ?_
                    intro W2 hW2e
                    obtain ⟨⟨dq, osq⟩, hW2⟩ := hW2e
                    have hbl2 : Below wr.heap.size wr W2 := by rw [hW2]; exact below_regrown wr dq osq
                    clear hW2 x0 x1 x2 x3 y0 y1 y2 y3
                    obtain ⟨w5, hw5⟩ : ∃ w5, w5 = W2 := ⟨_, rfl⟩
                    rw [← hw5] at hbl2 ⊢
                    clear hw5
                    have HBL2 := Lib.hid (HBL.out.trans (hbl2.mono HBL.out.size))
                    have HOW2 := Lib.hid (own_below HOW.out hbl2)
                    clear hbl2
                    obtain ⟨p1, p2⟩ := pair_at HOW2.out HAT.out hnr
                    have HAH := Lib.hid (ahead_yes _ k c L (HR.out.below HBL2.out) m j hlt hjk HM.out false HAB.out)
                    have hps := fun w => pair_same (j : Int) (m : Int) w
                    go_wp2_with fail
                    refine HAH.out.mono ?_
                    rintro r w6 ⟨rfl, hb6⟩
                    have HBL3 := Lib.hid (HBL2.out.trans (hb6.mono HBL2.out.size))
                    have HOW3 := Lib.hid (own_below HOW2.out hb6)
                    clear hb6 p1 p2 HAH
                    by_cases hn0 : n = 0
                    · have hnil : preL L j m = [] := List.eq_nil_of_length_eq_zero (by rw [← HNN.out]; exact hn0)
                      have HNIL := Lib.hid hnil
                      have z0 : (n : Int) = 0 := by omega
                      clear hnil
                      go_wp2
                      go_roundw
                      case rel => exact ⟨m + 1, by omega, by go_num, by rw [HPN.out, List.length_append, ← HNN.out]; go_num, by rw [HPN.out, HNIL.out]; rfl, by rw [HPN.out, HNIL.out]; rfl, HOW3.out, HBL3.out⟩
                      case measure => simp [intOf] <;> omega
                    · have hnn : preL L j m ≠ [] := by intro e; apply hn0; rw [HNN.out, e]; rfl
                      have HNIL := Lib.hid hnn
                      have z0 : ¬ (n : Int) = 0 := by omega
                      clear hnn
                      go_wp2
                      go_roundw
                      case rel => exact ⟨m + 1, by omega, by go_num, by rw [HPN.out, List.length_append, ← HNN.out]; go_num, by rw [HPN.out, hd1_app HNIL.out, HH1.out], by rw [HPN.out, hd2_app HNIL.out, HH2.out], HOW3.out, HBL3.out⟩
                      case measure => simp [intOf] <;> omega
              · obtain rfl : m = j := by omega
                have hpa := preL_all L m
                have HPA := Lib.hid hpa
                clear hpa
                go_wp2
                go_roundw
                case rel => exact ⟨m + 1, by omega, by go_num, by rw [← HPA.out, HNN.out], by rw [← HPA.out, HH1.out], by rw [← HPA.out, HH2.out], HOW.out, HBL.out⟩
                case measure => simp [intOf] <;> omega
          · obtain rfl : j = k := by omega
            rw [← HRL.out, ← HA1.out, ← HA2.out]
            go_wp2
            go_ret
            exact ⟨by simp, HBL.out⟩
end Go.Proofs.Ytpcjcmbhoglnfaa
