/- Race: the contract of the document's All. -/
import Derived.Test.YtpcjcmbhoglnfaaCf
import Derived.Test.YtpcjcmbhoglnfaaOr
import Derived.Test.YtpcjcmbhoglnfaaSa
namespace Go.Proofs.Ytpcjcmbhoglnfaa
open Go.RowKit Go.ChangeMaps Go.MapKept
set_option linter.unusedVariables false
set_option linter.unusedSimpArgs false

theorem preL_len (L : List Ev) (k m : Nat) (hk : k ≤ 120) (hm : m ≤ k) : (preL L k m).length ≤ 14640 := by
  unfold preL
  rw [List.length_append]
  have h1 := allUp_len L k
  have h2 := rUp_len L k m
  have h3 : k * k ≤ 120 * 120 := Nat.mul_le_mul hk hk
  omega
set_option maxHeartbeats 12800000 in
set_option maxRecDepth 100000 in
theorem refAll_any {w : World} (A : Option Addr) (len c : Nat) (L : List Ev) (h : EvRow w A len c L) (hm : mayB L = true) (h120 : len ≤ 120) :
    Calls Try.prog 22 #[.slice A len c] w fun r w' => ∃ v, r = .returned v ∧ w'.ownsRow w.heap.size 36 2 v (allUp L len).length ((allUp L len).flatMap pairC) ∧ Below w.heap.size w w' := by
  obtain ⟨i0, hi0, hz0, hz1, hz2⟩ := info_parts info36
  have HR := Lib.hid h
  have HMY := Lib.hid hm
  clear h hm
  go_enter Try.func22, Try.ntmps22
  go_wp2_with fail
  refine (order_any A len c L HR.out HMY.out).mono ?_
  rintro r w1 ⟨Ao, co, rfl, hout, hb1⟩
  rw [HR.out.len] at hout ⊢
  have HOUT := Lib.hid hout
  have HB1 := Lib.hid hb1
  clear hout hb1
  go_wp2
  go_loopw [4, 5] (fun v i wr => ∃ k : Nat, k ≤ len ∧ i = .int .i64 k ∧ wr.ownsRow w1.heap.size 36 2 v (allUp L k).length ((allUp L k).flatMap pairC) ∧ Below w1.heap.size w1 wr) (fun _ i _ => len - (intOf i).toNat)
  case atStart => exact ⟨0, by omega, rfl, World.ownsRow_nil _ _ _ _, Below.refl _ _⟩
  case round =>
    obtain ⟨k, hk, rfl, hown, hbl⟩ := hrel
    have HBK := Lib.hid hbl
    obtain ⟨Av, cv, rfl⟩ := own_slice hown
    have HOK := Lib.hid (show wr.ownsRow w1.heap.size 36 2 (.slice Av (preL L k 0).length cv) (preL L k 0).length ((preL L k 0).flatMap pairC) by rw [preL_zero]; exact hown)
    clear hown hbl
    by_cases hlt : k < len
    · have hki : (k : Int) < (len : Int) := by omega
      rw [← preL_zero]
      go_wp2
      go_loopw [4, 6] (fun v i wr => ∃ m : Nat, m ≤ k ∧ i = .int .i64 m ∧ wr.ownsRow w1.heap.size 36 2 v (preL L k m).length ((preL L k m).flatMap pairC) ∧ Below w1.heap.size w1 wr) (fun _ i _ => k - (intOf i).toNat)
      case atStart => exact ⟨0, by omega, rfl, HOK.out, HBK.out⟩
      case round =>
        obtain ⟨m, hmk, rfl, hown, hbl⟩ := hrel
        have HBL := Lib.hid hbl
        have HOWN := Lib.hid hown
        obtain ⟨Aw, cw, rfl⟩ := own_slice hown
        have hpl := preL_len L k m (by omega) hmk
        clear hown hbl
        by_cases hmlt : m < k
        · have hrow := HR.out.below (HB1.out.trans (HBL.out.mono HB1.out.size))
          have hmx := at_evAt (L := L) (i := m) (by rw [HR.out.len]; omega)
          have hmy := at_evAt (L := L) (i := k) (by rw [HR.out.len]; omega)
          have okx := hrow.ok _ (List.mem_of_getElem? hmx)
          have oky := hrow.ok _ (List.mem_of_getElem? hmy)
          have ppx := hrow.hp _ (List.mem_of_getElem? hmx)
          have ppy := hrow.hp _ (List.mem_of_getElem? hmy)
          obtain ⟨bb, off, rfl, _, x0, x1, x2, x3⟩ := hrow.rd.ev hmx
          obtain ⟨b', off', eA, _, y0, y1, y2, y3⟩ := hrow.rd.ev hmy
          cases eA
          obtain ⟨go, gr, c3, eO, o1, o2⟩ := (HOUT.out.below HBL.out).at_ hlt hmlt
          subst eO
          obtain ⟨ab, hab⟩ : ∃ b, ahB L m k = b := ⟨_, rfl⟩
          rw [show ahN L m k = ab by unfold ahN; rw [hab, decide_eq_true hmlt]; rfl] at o2
          obtain ⟨cb, hcb⟩ : ∃ b, confB (evAt L m) (evAt L k) = b := ⟨_, rfl⟩
          have HRB := Lib.hid (show rB L m k = (cb && !ab) by unfold rB; rw [hcb, hab])
          obtain ⟨x, hx⟩ : ∃ x, x = evAt L m := ⟨_, rfl⟩
          obtain ⟨y, hy⟩ : ∃ y, y = evAt L k := ⟨_, rfl⟩
          rw [← hx] at x0 x1 x2 x3 okx ppx hcb
          rw [← hy] at y0 y1 y2 y3 oky ppy hcb
          obtain ⟨lx, hlx⟩ : ∃ q, x.path.length = q := ⟨_, rfl⟩
          obtain ⟨ly, hly⟩ : ∃ q, y.path.length = q := ⟨_, rfl⟩
          have HCF := Lib.hid (fun (d : Nat) (os : Array Obj) => Calls.regrown_of (rconf_any x y lx ly (Go.Sort.grow (redrawn wr d) os) hlx hly (by omega) (by omega) ((okx.below (below_regrown wr d os)).more (below_regrown wr d os).size) ((oky.below (below_regrown wr d os)).more (below_regrown wr d os).size) cb hcb))
          rw [hlx] at x3
          rw [hly] at y3
          have x0 := cell_regrown x0
          have x1 := cell_regrown x1
          have x2 := cell_regrown x2
          have x3 := cell_regrown x3
          have y0 := cell_regrown y0
          have y1 := cell_regrown y1
          have y2 := cell_regrown y2
          have y3 := cell_regrown y3
          have o1 := cell_regrown o1
          have o2 := cell_regrown o2
          have hmi : (m : Int) < (k : Int) := by omega
          have hm0 : (0 : Int) ≤ (m : Int) := by omega
          have hml : (m : Int) < (len : Int) := by omega
          have hk0 : (0 : Int) ≤ (k : Int) := by omega
          clear hrow hmx hmy okx oky ppx ppy hab hcb hx hy hlx hly
          cases cb
          · have HRZ := Lib.hid (preL_no (L := L) (k := k) (m := m) (by rw [HRB.out]; rfl))
            go_wp2
            refine wp_region_quiet_below (by kernel_rfl) (by kernel_rfl) ?_
            repeat (first | go_big_quiet_step ((first | (go_at_call 32; exact HCF.out _ _))) | quiet_step ((first | (go_at_call 32; exact HCF.out _ _))))
            refine wpQuiet_nil ?_
            intro W2 hW2e
            obtain ⟨⟨dq, osq⟩, hW2⟩ := hW2e
            have hbl2 : Below wr.heap.size wr W2 := by rw [hW2]; exact below_regrown wr dq osq
            clear hW2 x0 x1 x2 x3 y0 y1 y2 y3 o1 o2
            have HBL2 := Lib.hid (HBL.out.trans (hbl2.mono HBL.out.size))
            have HOWN2 := Lib.hid (own_below HOWN.out hbl2)
            clear hbl2
            go_wp2
            go_roundw
            case rel => exact ⟨m + 1, by omega, by go_num, by rw [HRZ.out]; exact HOWN2.out, HBL2.out⟩
            case measure => simp [intOf] <;> omega
          · cases ab
            · have HRZ := Lib.hid (preL_yes (L := L) (k := k) (m := m) (by rw [HRB.out]; rfl))
              go_wp2
              refine wp_region_quiet_below (by kernel_rfl) (by kernel_rfl) ?_
              repeat (first | go_big_quiet_step ((first | (go_at_call 32; exact HCF.out _ _))) | quiet_step ((first | (go_at_call 32; exact HCF.out _ _))))
              refine wpQuiet_nil ?_
              intro W2 hW2e
              obtain ⟨⟨dq, osq⟩, hW2⟩ := hW2e
              have hbl2 : Below wr.heap.size wr W2 := by rw [hW2]; exact below_regrown wr dq osq
              clear hW2 x0 x1 x2 x3 y0 y1 y2 y3 o1 o2
              obtain ⟨w3, hw3⟩ : ∃ w3, w3 = W2 := ⟨_, rfl⟩
              rw [← hw3] at hbl2 ⊢
              clear hw3
              have HBL3 := Lib.hid (HBL.out.trans (hbl2.mono HBL.out.size))
              have hsz3 := HBL3.out.size
              have HPR := Lib.hid (Rd.pair w3 k m 36)
              have HO3 := Lib.hid ((own_below HOWN.out hbl2).alloc (.cells #[.int .i64 k, .int .i64 m] 36))
              clear hbl2
              go_wp2_with (at_builtin; (refine wpList_append_rd _ rfl _ _ 30 rfl w1.heap.size 36 i0 (.agg #[.int .i64 0, .int .i64 0]) 2 16 Try.underlying30 hi0 hz0 hz1 hz2 rfl (by decide) _ (preL L k m).length ((preL L k m).flatMap pairC) rfl HO3.out (w3.heap.size + 1) _ 1 _ pairC pairC_len pairC_one [((k : Int), (m : Int))] rfl rfl HPR.out ?c3 ?c4 ?c5 ?_))
              case c3 => unfold maxLen; omega
              case c4 => omega
              case c5 => first | omega | (simp; omega)
              intro v' w4 hown4 hg4 hx4
              have HB4 := Lib.hid ((HBL3.out.alloc HBL3.out.size (.cells #[.int .i64 k, .int .i64 m] 36)).grown hg4 (by have := HBL3.out.size; simp; omega) (fun q e => (HO3.out.lt q e).1))
              have HO5 := Lib.hid (show w4.ownsRow w1.heap.size 36 2 v' (preL L k (m + 1)).length ((preL L k (m + 1)).flatMap pairC) by
                rw [HRZ.out, List.length_append, List.flatMap_append]
                simpa using hown4)
              clear hown4 hg4 hx4
              go_wp2
              go_roundw
              case rel => exact ⟨m + 1, by omega, by go_num, HO5.out, HB4.out⟩
              case measure => simp [intOf] <;> omega
            · have HRZ := Lib.hid (preL_no (L := L) (k := k) (m := m) (by rw [HRB.out]; rfl))
              go_wp2
              refine wp_region_quiet_below (by kernel_rfl) (by kernel_rfl) ?_
              repeat (first | go_big_quiet_step ((first | (go_at_call 32; exact HCF.out _ _))) | quiet_step ((first | (go_at_call 32; exact HCF.out _ _))))
              refine wpQuiet_nil ?_
              intro W2 hW2e
              obtain ⟨⟨dq, osq⟩, hW2⟩ := hW2e
              have hbl2 : Below wr.heap.size wr W2 := by rw [hW2]; exact below_regrown wr dq osq
              clear hW2 x0 x1 x2 x3 y0 y1 y2 y3 o1 o2
              have HBL2 := Lib.hid (HBL.out.trans (hbl2.mono HBL.out.size))
              have HOWN2 := Lib.hid (own_below HOWN.out hbl2)
              clear hbl2
              go_wp2
              go_roundw
              case rel => exact ⟨m + 1, by omega, by go_num, by rw [HRZ.out]; exact HOWN2.out, HBL2.out⟩
              case measure => simp [intOf] <;> omega
        · obtain rfl : m = k := by omega
          have HZ := Lib.hid (show wr.ownsRow w1.heap.size 36 2 (.slice Aw (preL L m m).length cw) (allUp L (m + 1)).length ((allUp L (m + 1)).flatMap pairC) by rw [← preL_all]; exact HOWN.out)
          have hnm : ¬ (m : Int) < (m : Int) := by omega
          go_wp2
          go_roundw
          case rel => exact ⟨m + 1, by omega, by go_num, HZ.out, HBL.out⟩
          case measure => simp [intOf] <;> omega
    · obtain rfl : k = len := by omega
      have HF := Lib.hid (show wr.ownsRow w1.heap.size 36 2 (.slice Av (allUp L k).length cv) (allUp L k).length ((allUp L k).flatMap pairC) by rw [← preL_zero]; exact HOK.out)
      have hnk : ¬ (k : Int) < (k : Int) := by omega
      have HBF := Lib.hid (HB1.out.trans (HBK.out.mono HB1.out.size))
      go_wp2
      go_ret
      exact ⟨_, rfl, own_mono HF.out HB1.out.size, HBF.out⟩
end Go.Proofs.Ytpcjcmbhoglnfaa

