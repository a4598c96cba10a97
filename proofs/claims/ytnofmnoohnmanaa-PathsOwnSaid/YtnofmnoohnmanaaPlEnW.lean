/- PathsEnough: the walk. -/
import Derived.Test.YtnofmnoohnmanaaPlLeW
import Derived.Deep.DeepCutAuto
namespace Go.Proofs.Ytnofmnoohnmanaa
open Go.RowKit
set_option linter.unusedVariables false
set_option linter.unusedSimpArgs false

def anyTo (K : List PKey) (p : PKey) (k : Nat) : Bool := (K.take k).any (fun x => meetB x p)
theorem anyTo_succ {K : List PKey} {p : PKey} {k : Nat} {x : PKey} (h : K[k]? = some x) : anyTo K p (k + 1) = (anyTo K p k || meetB x p) := by
  unfold anyTo
  rw [List.take_add_one, h, List.any_append]; simp
theorem anyTo_all {K : List PKey} {p : PKey} {k : Nat} (h : K.length ≤ k) : anyTo K p k = K.any (fun x => meetB x p) := by
  unfold anyTo; rw [List.take_of_length_le h]

set_option maxHeartbeats 12800000 in
set_option maxRecDepth 100000 in
theorem pathsEnough_walk (A0 : Option Addr) (c0 : Nat) (L0 : List Pl) (x1 : Pl) (w : World) (rd0 : Rd w w.heap.size 2 plC A0 L0) (g0 : ∀ x ∈ L0, PlOk w w.heap.size x) (hc0 : L0.length ≤ c0) (hm0 : c0 ≤ maxLen) (g1 : PlOk w w.heap.size x1) :
    Calls Try.prog 8 #[.slice A0 L0.length c0, .agg #[.string x1.name, .slice x1.pa x1.path.length x1.pc]] w fun r w' => r = .returned (.bool true) ∧ Below w.heap.size w w' := by
  obtain ⟨W0, hW0⟩ : ∃ W0, W0 = w.alloc (.cells #[.string x1.name, .slice x1.pa x1.path.length x1.pc] 24) := ⟨_, rfl⟩
  have hb0 : Below w.heap.size w W0 := by rw [hW0]; exact (Below.refl _ _).alloc (Nat.le_refl _) _
  have hk0 : Blk W0 w.heap.size 24 #[.string x1.name, .slice x1.pa x1.path.length x1.pc] := by rw [hW0]; exact Blk.new _ _ _
  obtain ⟨mb, hmb⟩ : ∃ b, manyB L0 = b := ⟨_, rfl⟩
  obtain ⟨lb, hlb⟩ : ∃ b, longB x1 = b := ⟨_, rfl⟩
  have hx0 := g1.next hb0
  have HM := Lib.hid (many_any A0 _ c0 L0 W0 rfl ((rd0.below hb0).more hb0.size) (fun x hx => (g0 x hx).next hb0) hc0 hm0 mb hmb)
  have HX0 := Lib.hid hx0
  have HL := Lib.hid (fun W (h : Below W0.heap.size W0 W) => long_bool x1 hlb W (hx0.next h))
  have HK0 := Lib.hid hk0
  have KB := Lib.hid hb0
  have HW := Lib.hid hW0
  obtain ⟨n0, hn0⟩ : ∃ n, L0.length = n := ⟨_, rfl⟩
  obtain ⟨l1, hl1⟩ : ∃ n, x1.path.length = n := ⟨_, rfl⟩
  have HL1 := Lib.hid hl1
  cases mb with
  | true =>
    clear rd0 g0 g1 hmb hlb hb0 hk0 hx0
    rw [hn0] at HM ⊢
    clear hn0 hl1
    go_enter Try.func8, Try.ntmps8
    go_upto_region 1 with fail
    rw [← HW.out]
    clear hW0 HW
    go_wp2_with fail
    refine HM.out.mono ?_
    rintro r w1 ⟨rfl, h1⟩
    have K1 := Lib.hid (KB.out.trans (h1.mono KB.out.size))
    clear h1
    go_wp2_with fail
    refine (awake_yes _).mono ?_
    rintro r w2 ⟨rfl, h2⟩
    have K2 := Lib.hid (K1.out.trans (h2.mono K1.out.size))
    clear h2
    go_wp2
    go_ret
    exact ⟨rfl, K2.out⟩
  | false =>
    obtain ⟨h40, hlong⟩ := manyB_no hmb
    have H0 := Lib.hid ((PlRow.mk hn0 rd0 g0 (by rw [← hn0]; exact hc0) (by omega)).below hb0)
    have HP := Lib.hid (show ∀ x ∈ L0, x.path.length ≤ 1000000 from fun x hx => Nat.le_trans (longB_no (hlong x hx)).1 (by omega))
    rw [hn0] at HM h40 ⊢
    rw [hl1] at HL hk0 ⊢
    have HN0 := Lib.hid (show (L0.map Pl.key).length = n0 by rw [List.length_map, hn0])
    obtain ⟨K, hK⟩ : ∃ K, K = L0.map Pl.key := ⟨_, rfl⟩
    rw [← hK] at HN0
    have HKK := Lib.hid hK
    have HK1 := Lib.hid hk0
    clear rd0 g0 g1 hmb hb0 hk0 hx0 hlong hn0 hK hlb hc0
    go_enter Try.func8, Try.ntmps8
    go_upto_region 1 with fail
    rw [show w.alloc (.cells #[.string x1.name, .slice x1.pa l1 x1.pc] 24) = W0 by rw [HW.out, hl1]]
    clear hW0 HW hl1
    go_wp2_with fail
    refine HM.out.mono ?_
    rintro r w1 ⟨rfl, h1⟩
    have HLc := Lib.hid (HL.out w1 h1)
    have B1 := Lib.hid h1
    have hk := HK1.out.below h1 HK1.out.lt
    have d0 := bx0 hk
    have d1 := bx1 hk
    clear h1 hk
    go_wp2_with fail
    refine HLc.out.mono ?_
    rintro r w2 ⟨rfl, h2⟩
    have B2 := Lib.hid (B1.out.trans (h2.mono B1.out.size))
    clear h2 d0 d1 HLc
    cases lb with
    | true =>
      go_wp2_with fail
      refine (awake_yes _).mono ?_
      rintro r w3 ⟨rfl, h3⟩
      have B3 := Lib.hid (B2.out.trans (h3.mono B2.out.size))
      clear h3
      go_wp2
      go_ret
      exact ⟨rfl, KB.out.trans (B3.out.mono KB.out.size)⟩
    | false =>
      have HC := Lib.hid (least_any A0 n0 c0 L0 w2 (H0.out.below B2.out) (by omega) HP.out)
      go_wp2_with fail
      refine HC.out.mono ?_
      rintro r w3 ⟨v3, rfl, hl3, h3⟩
      obtain ⟨A, n, c, O, rfl, hrow, hkey⟩ := rows_of (len := n0) hl3 (Below.refl _ _) (by rw [← HKK.out, HN0.out]; exact Nat.le_refl _) (by omega)
      rw [← HKK.out] at hkey
      have B3 := Lib.hid (B2.out.trans (h3.mono B2.out.size))
      have HR0 := Lib.hid (H0.out.below B3.out)
      have HR := Lib.hid hrow
      have hnb := hrow.bg
      obtain ⟨M, hM⟩ : ∃ M, M = O.map Pl.key := ⟨_, rfl⟩
      have HMK := Lib.hid hM
      have HME := Lib.hid (show M = leastP K K from hM.trans hkey)
      have HMN := Lib.hid (show M.length = n by rw [hM, List.length_map, hrow.ln])
      have HX3 := Lib.hid (HX0.out.next B3.out)
      have HK3 := Lib.hid (HK1.out.below B3.out HK1.out.lt)
      clear hl3 hrow hkey h3 hM HC
      go_wp2
      go_loopw [6, 8] (fun a i wr => ∃ k : Nat, k ≤ n0 ∧ i = .int .i64 k ∧ a = .bool (anyTo K x1.key k) ∧ Below w3.heap.size w3 wr) (fun _ i _ => n0 - (intOf i).toNat)
      case atStart => exact ⟨0, by omega, rfl, by simp [anyTo], Below.refl _ _⟩
      case round =>
        obtain ⟨k, hk, rfl, rfl, hbl⟩ := hrel
        have HB := Lib.hid hbl
        obtain ⟨bd, hbd⟩ : ∃ b, b = anyTo K x1.key k := ⟨_, rfl⟩
        have HBD := Lib.hid hbd
        rw [← hbd]
        have hkb := HK3.out.below hbl HK3.out.lt
        have d0 := bx0 hkb
        have d1 := bx1 hkb
        clear hbl hbd hkb
        by_cases hlt : k < n0
        · have hki : (k : Int) < (n0 : Int) := by omega
          obtain ⟨x, hx⟩ : ∃ x, L0[k]? = some x := ⟨_, List.getElem?_eq_getElem (by rw [HR0.out.ln]; exact hlt)⟩
          have hkx : K[k]? = some x.key := by rw [HKK.out, List.getElem?_map, hx]; rfl
          have HSC := Lib.hid (anyTo_succ (p := x1.key) hkx)
          have hrow := HR0.out.below HB.out
          have hmx := hrow.ok x (List.mem_of_getElem? hx)
          obtain ⟨b, off, hA, hb, y0, y1⟩ := hrow.rd.pl hx
          subst hA
          have hki0 : (0 : Int) ≤ (k : Int) := by omega
          obtain ⟨mb, hmb⟩ : ∃ m, meetB x.key x1.key = m := ⟨_, rfl⟩
          have HMT := Lib.hid (fun W (h : Below wr.heap.size wr W) => meets_bool x x1 hmb W (hmx.next h) ((HX3.out.next HB.out).next h))
          have HMB := Lib.hid hmb
          clear hrow hmx hx hkx hmb
          obtain ⟨lx, hlx⟩ : ∃ n, x.path.length = n := ⟨_, rfl⟩
          rw [HL1.out] at HMT
          rw [hlx] at y1 HMT
          clear hlx
          cases bd
          · have HNX := Lib.hid (show anyTo K x1.key (k + 1) = mb by rw [HSC.out, ← HBD.out, HMB.out]; rfl)
            have d0 := cell_regrown d0
            have d1 := cell_regrown d1
            have y0 := cell_regrown y0
            have y1 := cell_regrown y1
            go_wp2_with fail
            refine wp_region_quiet_below (by kernel_rfl) (by kernel_rfl) ?_
            repeat (first | go_big_quiet_step ((first | ((with_reducible refine Calls.regrown_of (HMT.out _ ?_)); exact (below_regrown wr _ _)))) | quiet_step ((first | ((with_reducible refine Calls.regrown_of (HMT.out _ ?_)); exact (below_regrown wr _ _)))))
            refine wpQuiet_nil ?_
            intro W2 hW2e
            obtain ⟨⟨dq, osq⟩, hW2⟩ := hW2e
            have hbl2 : Below w3.heap.size w3 W2 := by rw [hW2]; exact HB.out.trans ((below_regrown wr dq osq).mono HB.out.size)
            have HBL2 := Lib.hid hbl2
            clear hW2 hbl2
            go_wp2
            go_roundw
            case rel => exact ⟨k + 1, by omega, by go_num, by rw [HNX.out], HBL2.out⟩
            case measure => simp [intOf] <;> omega
          · have HNX := Lib.hid (show anyTo K x1.key (k + 1) = true by rw [HSC.out, ← HBD.out]; rfl)
            go_wp2_with fail
            go_quiet (fail)
            go_wp2
            go_roundw
            case rel => exact ⟨k + 1, by omega, by go_num, by rw [HNX.out], below_drewN HB.out _⟩
            case measure => simp [intOf] <;> omega
          
        · obtain rfl : k = n0 := by omega
          have HBD2 := Lib.hid (show bd = K.any (fun x => meetB x x1.key) by rw [HBD.out]; exact anyTo_all (by rw [HN0.out]; exact Nat.le_refl _))
          have HBo := HB
          clear d0 d1
          go_wp2
          go_loopw [7, 9] (fun a i wr => ∃ q : Nat, q ≤ n ∧ i = .int .i64 q ∧ a = .bool (anyTo M x1.key q) ∧ Below w3.heap.size w3 wr) (fun _ i _ => n - (intOf i).toNat)
          case atStart => exact ⟨0, by omega, rfl, by simp [anyTo], HBo.out⟩
          case round =>
            obtain ⟨q, hq, rfl, rfl, hbl⟩ := hrel
            have HB := Lib.hid hbl
            obtain ⟨be, hbe⟩ : ∃ b, b = anyTo M x1.key q := ⟨_, rfl⟩
            have HBE := Lib.hid hbe
            rw [← hbe]
            have hkb := HK3.out.below hbl HK3.out.lt
            have d0 := bx0 hkb
            have d1 := bx1 hkb
            clear hbl hbe hkb
            by_cases hlt : q < n
            · have hki : (q : Int) < (n : Int) := by omega
              obtain ⟨x, hx⟩ : ∃ x, O[q]? = some x := ⟨_, List.getElem?_eq_getElem (by rw [HR.out.ln]; exact hlt)⟩
              have hkx : M[q]? = some x.key := by rw [HMK.out, List.getElem?_map, hx]; rfl
              have HSC := Lib.hid (anyTo_succ (p := x1.key) hkx)
              have hrow := HR.out.below HB.out
              have hmx := hrow.ok x (List.mem_of_getElem? hx)
              obtain ⟨b, off, hA, hb, y0, y1⟩ := hrow.rd.pl hx
              subst hA
              have hki0 : (0 : Int) ≤ (q : Int) := by omega
              obtain ⟨mb, hmb⟩ : ∃ m, meetB x.key x1.key = m := ⟨_, rfl⟩
              have HMT := Lib.hid (fun W (h : Below wr.heap.size wr W) => meets_bool x x1 hmb W (hmx.next h) ((HX3.out.next HB.out).next h))
              have HMB := Lib.hid hmb
              have HXO := Lib.hid hx
              clear hrow hmx hx hkx hmb
              obtain ⟨lx, hlx⟩ : ∃ n, x.path.length = n := ⟨_, rfl⟩
              rw [HL1.out] at HMT
              rw [hlx] at y1 HMT
              have HLX := Lib.hid hlx
              clear hlx
              cases be
              · have HNX := Lib.hid (show anyTo M x1.key (q + 1) = mb by rw [HSC.out, ← HBE.out, HMB.out]; rfl)
                have d0 := cell_regrown d0
                have d1 := cell_regrown d1
                have y0 := cell_regrown y0
                have y1 := cell_regrown y1
                go_wp2_with fail
                refine wp_region_quiet_below (by kernel_rfl) (by kernel_rfl) ?_
                repeat (first | go_big_quiet_step ((first | ((with_reducible refine Calls.regrown_of (HMT.out _ ?_)); exact (below_regrown wr _ _)))) | quiet_step ((first | ((with_reducible refine Calls.regrown_of (HMT.out _ ?_)); exact (below_regrown wr _ _)))))
                refine wpQuiet_nil ?_
                intro W2 hW2e
                obtain ⟨⟨dq, osq⟩, hW2⟩ := hW2e
                have hbl2 : Below w3.heap.size w3 W2 := by rw [hW2]; exact HB.out.trans ((below_regrown wr dq osq).mono HB.out.size)
                have HBL2 := Lib.hid hbl2
                clear hW2 hbl2
                go_wp2
                go_loopw [10] (fun i wr => ∃ j : Nat, j ≤ q ∧ i = .int .i64 j ∧ Below w3.heap.size w3 wr) (fun i _ => q - (intOf i).toNat)
                case atStart => exact ⟨0, by omega, rfl, HBL2.out⟩
                case round =>
                  obtain ⟨j, hj, rfl, hbj⟩ := hrel
                  have HB := Lib.hid hbj
                  clear hbj
                  by_cases hjq : j < q
                  · obtain ⟨y, hy⟩ : ∃ y, O[j]? = some y := ⟨_, List.getElem?_eq_getElem (by rw [HR.out.ln]; omega)⟩
                    have hji : (j : Int) < (q : Int) := by omega
                    have hjn : (j : Int) < (n : Int) := by omega
                    have hj0 : (0 : Int) ≤ (j : Int) := by omega
                    have hrow := HR.out.below HB.out
                    obtain ⟨b, off, hA, hb, x0', x1'⟩ := hrow.rd.pl HXO.out
                    obtain ⟨b', off', hA', hb', y0, y1⟩ := hrow.rd.pl hy
                    rw [hA'] at hA
                    cases hA
                    cases hA'
                    have hap : meetB x.key y.key = false := least_apart (L := K) (i := q) (k := j) (by rw [← HME.out, HMK.out, List.getElem?_map, HXO.out]; rfl) (by rw [← HME.out, HMK.out, List.getElem?_map, hy]; rfl) (by omega)
                    have hmx := hrow.ok x (List.mem_of_getElem? HXO.out)
                    have hmy := hrow.ok y (List.mem_of_getElem? hy)
                    have HMT := Lib.hid (fun W (h : Below wr.heap.size wr W) => meets_bool x y hap W (hmx.next h) (hmy.next h))
                    obtain ⟨ly, hly⟩ : ∃ n, y.path.length = n := ⟨_, rfl⟩
                    rw [HLX.out] at HMT x1'
                    rw [hly] at HMT y1
                    have x0' := cell_regrown x0'
                    have x1' := cell_regrown x1'
                    have y0 := cell_regrown y0
                    have y1 := cell_regrown y1
                    clear hap hrow hy hmx hmy hly
                    go_wp2_with fail
                    refine wp_region_quiet_below (by kernel_rfl) (by kernel_rfl) ?_
                    repeat (first | go_big_quiet_step ((first | ((with_reducible refine Calls.regrown_of (HMT.out _ ?_)); exact (below_regrown wr _ _)))) | quiet_step ((first | ((with_reducible refine Calls.regrown_of (HMT.out _ ?_)); exact (below_regrown wr _ _)))))
                    refine wpQuiet_nil ?_
                    intro W2 hW2e
                    obtain ⟨⟨dq, osq⟩, hW2⟩ := hW2e
                    have hbl2 : Below w3.heap.size w3 W2 := by rw [hW2]; exact HB.out.trans ((below_regrown wr dq osq).mono HB.out.size)
                    have HBL2 := Lib.hid hbl2
                    clear hW2 hbl2
                    go_wp2
                    go_roundw
                    case rel => exact ⟨j + 1, by omega, by go_num, HBL2.out⟩
                    case measure => simp [intOf] <;> omega
                  · obtain rfl : j = q := by omega
                    go_wp2
                    go_roundw
                    case rel => exact ⟨j + 1, by omega, by go_num, by rw [HNX.out], HB.out⟩
                    case measure => simp [intOf] <;> omega
              · have HNX := Lib.hid (show anyTo M x1.key (q + 1) = true by rw [HSC.out, ← HBE.out]; rfl)
                go_wp2_with fail
                go_quiet (fail)
                go_wp2
                go_loopw [10] (fun i wr => ∃ j : Nat, j ≤ q ∧ i = .int .i64 j ∧ Below w3.heap.size w3 wr) (fun i _ => q - (intOf i).toNat)
                case atStart => exact ⟨0, by omega, rfl, below_drewN HB.out _⟩
                case round =>
                  obtain ⟨j, hj, rfl, hbj⟩ := hrel
                  have HB := Lib.hid hbj
                  clear hbj
                  by_cases hjq : j < q
                  · obtain ⟨y, hy⟩ : ∃ y, O[j]? = some y := ⟨_, List.getElem?_eq_getElem (by rw [HR.out.ln]; omega)⟩
                    have hji : (j : Int) < (q : Int) := by omega
                    have hjn : (j : Int) < (n : Int) := by omega
                    have hj0 : (0 : Int) ≤ (j : Int) := by omega
                    have hrow := HR.out.below HB.out
                    obtain ⟨b, off, hA, hb, x0', x1'⟩ := hrow.rd.pl HXO.out
                    obtain ⟨b', off', hA', hb', y0, y1⟩ := hrow.rd.pl hy
                    rw [hA'] at hA
                    cases hA
                    cases hA'
                    have hap : meetB x.key y.key = false := least_apart (L := K) (i := q) (k := j) (by rw [← HME.out, HMK.out, List.getElem?_map, HXO.out]; rfl) (by rw [← HME.out, HMK.out, List.getElem?_map, hy]; rfl) (by omega)
                    have hmx := hrow.ok x (List.mem_of_getElem? HXO.out)
                    have hmy := hrow.ok y (List.mem_of_getElem? hy)
                    have HMT := Lib.hid (fun W (h : Below wr.heap.size wr W) => meets_bool x y hap W (hmx.next h) (hmy.next h))
                    obtain ⟨ly, hly⟩ : ∃ n, y.path.length = n := ⟨_, rfl⟩
                    rw [HLX.out] at HMT x1'
                    rw [hly] at HMT y1
                    have x0' := cell_regrown x0'
                    have x1' := cell_regrown x1'
                    have y0 := cell_regrown y0
                    have y1 := cell_regrown y1
                    clear hap hrow hy hmx hmy hly
                    go_wp2_with fail
                    refine wp_region_quiet_below (by kernel_rfl) (by kernel_rfl) ?_
                    repeat (first | go_big_quiet_step ((first | ((with_reducible refine Calls.regrown_of (HMT.out _ ?_)); exact (below_regrown wr _ _)))) | quiet_step ((first | ((with_reducible refine Calls.regrown_of (HMT.out _ ?_)); exact (below_regrown wr _ _)))))
                    refine wpQuiet_nil ?_
                    intro W2 hW2e
                    obtain ⟨⟨dq, osq⟩, hW2⟩ := hW2e
                    have hbl2 : Below w3.heap.size w3 W2 := by rw [hW2]; exact HB.out.trans ((below_regrown wr dq osq).mono HB.out.size)
                    have HBL2 := Lib.hid hbl2
                    clear hW2 hbl2
                    go_wp2
                    go_roundw
                    case rel => exact ⟨j + 1, by omega, by go_num, HBL2.out⟩
                    case measure => simp [intOf] <;> omega
                  · obtain rfl : j = q := by omega
                    go_wp2
                    go_roundw
                    case rel => exact ⟨j + 1, by omega, by go_num, by rw [HNX.out], HB.out⟩
                    case measure => simp [intOf] <;> omega
              
            · obtain rfl : q = n := by omega
              have hee : be = bd := by
                rw [HBE.out, HBD2.out, anyTo_all (by rw [HMN.out]; exact Nat.le_refl _), HME.out]
                exact (least_enough K x1.key).symm
              have hbb : (bd == bd) = true := by simp
              subst hee
              clear d0 d1
              go_wp2_with fail
              refine (awake_yes _).mono ?_
              rintro r wz ⟨rfl, hz⟩
              have HZ := Lib.hid (HB.out.trans (hz.mono HB.out.size))
              clear hz
              go_wp2
              go_ret
              exact ⟨rfl, KB.out.trans ((B3.out.trans (HZ.out.mono B3.out.size)).mono KB.out.size)⟩
end Go.Proofs.Ytnofmnoohnmanaa

