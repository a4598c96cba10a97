/- Threads: the document's Waits. -/
import Derived.Test.YtnhhinlhfaapcaaRs
namespace Go.Proofs.Ytnhhinlhfaapcaa
open Go.RowKit
set_option linter.unusedVariables false
set_option linter.unusedSimpArgs false

def rWaits (R : RTab) (n : Int) : Bool := (rMem R n).any fun m => !(R.th m).ended
theorem rMem_lt {R : RTab} {n : Int} {m : Nat} (h : m ∈ rMem R n) : m < R.n := by
  unfold rMem at h
  split at h
  · cases h
  · unfold rmk at h
    exact List.mem_range.1 (List.mem_filter.1 h).1
theorem rMem_len (R : RTab) (n : Int) : (rMem R n).length ≤ R.n := by
  unfold rMem
  split
  · exact Nat.zero_le _
  · exact rmk_len _ _ _
set_option maxRecDepth 100000 in
set_option maxHeartbeats 6400000 in
theorem r_waits (g B : Nat) (O : Nat → Value) (R : RTab) (n : Int) (w : World) (h : RTabO w B g O R) (hN : R.n ≤ 1000) (hop : ∀ i, i < R.n → (R.th i).opn.length ≤ 1000000) : Calls Try.prog 36 #[.pointer (some ⟨g, 0, none⟩), .int .i64 n] w fun r w' => r = .returned (.bool (rWaits R n)) ∧ Below w.heap.size w w' := by
  have HM := Lib.hid (r_members g B O R n w h hN hop)
  go_enter Try.func36, Try.ntmps36
  go_wp2_with fail
  refine HM.out.mono ?_
  rintro r w1 ⟨v, rfl, ho, hB⟩
  obtain ⟨ml, hml⟩ : ∃ m, rMem R n = m := ⟨_, rfl⟩
  have hlt := fun m (hm : m ∈ rMem R n) => rMem_lt hm
  have hlen := rMem_len R n
  rw [hml] at ho hlt hlen
  obtain ⟨nm, hnm⟩ : ∃ m, ml.length = m := ⟨_, rfl⟩
  rw [hnm] at ho hlen
  obtain ⟨Av, cv, rfl⟩ := own_slice ho
  have HO := Lib.hid ho
  have HB := Lib.hid hB
  have HX := Lib.hid (h.below hB)
  have HNM := Lib.hid hnm
  have HLT := Lib.hid hlt
  have HML := Lib.hid (show rWaits R n = ml.any fun m => !(R.th m).ended by unfold rWaits; rw [hml])
  clear ho hB h hml hnm hlt
  go_wp2
  go_loopw [6] (fun q wr => ∃ k : Nat, k ≤ nm ∧ q = .int .i64 k ∧ ((ml.take k).any fun m => !(R.th m).ended) = false ∧ Below w1.heap.size w1 wr) (fun q _ => nm - (intOf q).toNat)
  case atStart => exact ⟨0, by omega, rfl, rfl, Below.refl _ _⟩
  case round =>
    obtain ⟨k, hk, rfl, hno, hBr⟩ := hrel
    have HNO := Lib.hid hno
    have HBR := Lib.hid hBr
    by_cases hl : k < nm
    · have hlI : (k : Int) < (nm : Int) := by omega
      have hk0 : (0 : Int) ≤ (k : Int) := by omega
      obtain ⟨x, hx⟩ : ∃ x, ml[k]? = some x := ⟨_, List.getElem?_eq_getElem (by rw [HNM.out]; exact hl)⟩
      have hxn := HLT.out x (List.mem_of_getElem? hx)
      obtain ⟨gm, rfl⟩ : ∃ gm, Av = some ⟨gm, 0, none⟩ := by
        rcases HO.out.2 with ⟨h1, h2⟩ | ⟨gm, cap, cur, h1, _⟩
        · omega
        · rw [Value.slice.injEq] at h1; exact ⟨gm, h1.1⟩
      have hcx : wr.cell? ⟨gm, k, none⟩ = some (.int .i64 x) := by
        have h := (own_below HO.out hBr).cellAt k (by omega)
        rw [List.getElem?_map, hx] at h
        exact h
      obtain ⟨v, hxr⟩ := HX.out.below hBr
      obtain ⟨gl, cl, rfl⟩ := hxr.l
      have c0 := hxr.box
      have e2 := (hxr.cells hxn).2.2.1
      have hxI : (x : Int) < (R.n : Int) := by omega
      have hx0 : (0 : Int) ≤ (x : Int) := by omega
      obtain ⟨xe, hxe⟩ : ∃ b, (R.th x).ended = b := ⟨_, rfl⟩
      rw [hxe] at e2
      have HSN := Lib.hid (any_take_snoc (f := fun m => !(R.th m).ended) hx)
      have HXE := Lib.hid hxe
      have HXM := Lib.hid (List.mem_of_getElem? hx)
      clear hx hxe hxr hno hBr hxn
      cases xe
      · have HV := Lib.hid (show rWaits R n = true by rw [HML.out, List.any_eq_true]; exact ⟨x, HXM.out, by rw [HXE.out]; rfl⟩)
        go_upto_region 5 with fail
        go_still (by kernel_rfl)
        change Exit.then _ _ _ _ wr.drew
        go_wp2
        go_ret
        exact ⟨by rw [HV.out]; rfl, (HB.out.trans (HBR.out.mono HB.out.size)).drew⟩
      · go_upto_region 5 with fail
        go_still (by kernel_rfl)
        change Exit.then _ _ _ _ wr.drew
        go_wp2
        go_roundw
        case rel => exact ⟨k + 1, by omega, by go_num, by rw [HSN.out, HNO.out]; show (false || !(R.th x).ended) = false; rw [HXE.out]; rfl, HBR.out.drew⟩
        case measure => simp [intOf] <;> omega
    · obtain rfl : nm = k := by omega
      have HV := Lib.hid (show rWaits R n = false by rw [HML.out, ← HNO.out, List.take_of_length_le (by rw [HNM.out]; exact Nat.le_refl _)])
      clear hno hBr
      go_wp2
      go_ret
      exact ⟨by rw [HV.out]; rfl, HB.out.trans (HBR.out.mono HB.out.size)⟩
end Go.Proofs.Ytnhhinlhfaapcaa
