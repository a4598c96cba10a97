/- Sets: contracts of picked, Common, Minus, Within. -/
import Derived.Test.YtfdgbegoaaihoaaSeB
import Derived.WalkMore
import Derived.Deep.LoopGhost
namespace Go.Proofs.Ytfdgbegoaaihoaa
open Go.RowKit
set_option linter.unusedVariables false
set_option linter.unusedSimpArgs false

theorem rd_one {α : Type} {W : World} {g : Nat} {e : TypeId} {size : Nat} {cells : α → List Value} {x : α} (hlen : ∀ x, (cells x).length = size) {cs : Array Value} (h : Blk W g e cs) (hcs : cs.toList = cells x) : Rd W W.heap.size size cells (some ⟨g, 0, none⟩) [x] := by
  refine .inr ⟨g, 0, rfl, h.lt, fun i y hy j u hu => ?_⟩
  rcases i with _ | i
  · simp at hy
    subst hy
    rw [h.cell, ← Array.getElem?_toList, hcs, Nat.zero_mul, Nat.zero_add]
    exact hu
  · simp at hy
def pickTo (u : List Bs) (b : List Bs) (is : Bool) (k : Nat) : List Bs := (u.take k).filter fun x => hasS b x == is
theorem pickTo_len (u b : List Bs) (is : Bool) (k : Nat) : (pickTo u b is k).length ≤ k := by
  unfold pickTo
  exact Nat.le_trans (List.length_filter_le _ _) (by simp; omega)
theorem pickTo_yes {u b : List Bs} {is : Bool} {k : Nat} {x : Bs} (hx : u[k]? = some x) (h : hasS b x = is) : pickTo u b is (k + 1) = pickTo u b is k ++ [x] := by
  unfold pickTo
  rw [List.take_add_one, hx, List.filter_append]
  simp [h]
theorem pickTo_no {u b : List Bs} {is : Bool} {k : Nat} {x : Bs} (hx : u[k]? = some x) (h : hasS b x = !is) : pickTo u b is (k + 1) = pickTo u b is k := by
  unfold pickTo
  rw [List.take_add_one, hx, List.filter_append]
  simp [h]
theorem pickTo_all {a b : List Bs} {is : Bool} {k : Nat} (hk : (setS a).length ≤ k) : pickTo (setS a) b is k = pickS a b is := by
  unfold pickTo pickS
  rw [List.take_of_length_le hk]
/-- all names of v below place i are lower than those of u from place k on -/
def Low (v u : List Bs) (i k : Nat) : Prop := ∀ (j p : Nat) (z x : Bs), j < i → v[j]? = some z → k ≤ p → u[p]? = some x → z < x
theorem low_next {v u : List Bs} {i k : Nat} {x : Bs} (hu : Rise u) (hx : u[k]? = some x) (h : ∀ j z, j < i → v[j]? = some z → z < x) : Low v u i (k + 1) := by
  intro j p z y hj hz hp hy
  obtain ⟨l1, e1⟩ := List.getElem?_eq_some_iff.1 hx
  obtain ⟨l2, e2⟩ := List.getElem?_eq_some_iff.1 hy
  have := List.pairwise_iff_getElem.1 hu k p l1 l2 (by omega)
  rw [e1, e2] at this
  exact List.lt_trans (h j z hj hz) this

set_option maxHeartbeats 6400000 in
theorem picked_any (x y : Nm) (n m : Nat) (is : Bool) (w : World) (hx : NmOk w x n) (hy : NmOk w y m) (hn : n ≤ 400000) (hm : m ≤ 400000) :
    Calls Try.prog 29 #[.slice x.pa n x.pc, .slice y.pa m y.pc, .bool is] w (NmMade w (pickS x.row y.row is)) := by
  obtain ⟨i0, hi0, hz0, hz1, hz2⟩ := info_parts infoS
  have HE := Lib.hid (of_any x n w hx (by omega))
  have HY := Lib.hid hy
  have hm6 : m ≤ 1000000 := by omega
  have HLx := Lib.hid hx.ln
  have HLy := Lib.hid hy.ln
  clear hx hy
  go_enter Try.func29, Try.ntmps29
  go_wp2_with fail
  go_step3
  go_wp2_with fail
  refine HE.out.mono ?_
  rintro r w1 ⟨u, nu, rfl, hu, ho, hb1⟩
  have HS := Lib.hid (of_any y m w1 (HY.out.next hb1) hm6)
  have HB1 := Lib.hid hb1
  have HO := Lib.hid ho
  have HU := Lib.hid hu
  clear hu ho
  go_wp2_with fail
  refine HS.out.mono ?_
  rintro r w2 ⟨v, nv, rfl, hv, ho2, hb2⟩
  have HB2 := Lib.hid (HB1.out.trans (hb2.mono HB1.out.size))
  have hok1 := (HO.out.next hb2).ok
  have hok2 := ho2.ok
  obtain ⟨Au, cu, U⟩ := u
  obtain ⟨Av, cv, V⟩ := v
  have HU2 := Lib.hid (show Rd w2 w2.heap.size 1 sC Au U from hok1.rd)
  have HV2 := Lib.hid (show Rd w2 w2.heap.size 1 sC Av V from hok2.rd)
  have HUL := Lib.hid (show U.length = nu from hok1.ln)
  have HVL := Lib.hid (show V.length = nv from hok2.ln)
  have HV := Lib.hid (show V = setS y.row from hv)
  have HU := Lib.hid (show U = setS x.row from HU.out)
  have hnu : nu ≤ 400000 := by
    have h1 := HUL.out
    rw [HU.out] at h1
    have h2 := setS_len x.row
    rw [HLx.out] at h2
    omega
  have hnv : nv ≤ 400000 := by
    have h1 := HVL.out
    rw [HV.out] at h1
    have h2 := setS_len y.row
    rw [HLy.out] at h2
    omega
  have HRu := Lib.hid (show Rise U by rw [HU.out]; exact setS_rise _)
  have HRv := Lib.hid (show Rise V by rw [HV.out]; exact setS_rise _)
  have HHs := Lib.hid (show ∀ z, hasS V z = hasS y.row z from fun z => by rw [HV.out]; exact hasS_set _ _)
  clear hv ho2 hb1 hb2 HO hm6 HS hok1 hok2
  dsimp only at *
  go_wp2
  go_step3
  go_wp2
  go_loopg [7, 8, 17] nu (fun g o iv kv wr => ∃ (k i : Nat) (A0 : Option Addr) (c0 : Nat), k + g = nu ∧ i ≤ nv ∧ kv = .int .i64 k ∧ iv = .int .i64 i ∧ Low V U i k ∧ o = .slice A0 (pickTo U y.row is k).length c0 ∧ wr.ownsRow w2.heap.size 9 1 (.slice A0 (pickTo U y.row is k).length c0) (pickTo U y.row is k).length ((pickTo U y.row is k).flatMap sC) ∧ Below w2.heap.size w2 wr)
  case atStart => exact ⟨0, 0, none, 0, by omega, by omega, rfl, rfl, fun j p z x hj => by omega, rfl, World.ownsRow_nil _ _ _ _, Below.refl _ _⟩
  case round =>
    obtain ⟨W, hW⟩ : ∃ W, W = wr := ⟨_, rfl⟩
    subst hW
    obtain ⟨k, i1, A0, c0, hk, hi1, rfl, rfl, hlow, hoe, hown, hbl⟩ := hrel
    subst hoe
    have HL := Lib.hid hlow
    have HO := Lib.hid hown
    have HB := Lib.hid hbl
    have hpl := pickTo_len U y.row is k
    have hsw : w2.heap.size ≤ W.heap.size := hbl.size
    clear hlow hown hbl
    rcases gk with _ | g
    case succ =>
      have hlt : k < nu := by omega
      obtain ⟨b, off, s, hs, hA, hb, hc⟩ := ((HU2.out.below HB.out).more HB.out.size).str (k := k) (by rw [HUL.out]; exact hlt)
      have hki : (k : Int) < (nu : Int) := by omega
      have HSK := Lib.hid hs
      subst hA
      clear hs
      go_wp2
      go_loopg [7, 8] (nv - i1) (fun h o2 iv wq => ∃ i : Nat, o2 = .slice A0 (pickTo U y.row is k).length c0 ∧ i + h = nv ∧ iv = .int .i64 i ∧ (∀ (j : Nat) (z : Bs), j < i → V[j]? = some z → z < s) ∧ wq = W)
      case atStart => exact ⟨i1, rfl, by omega, rfl, fun j z hj hz => HL.out j k z s hj hz (Nat.le_refl _) HSK.out, rfl⟩
      case round =>
        obtain ⟨i, hoe2, hi, rfl, hlo, hwe⟩ := hrel
        subst hoe2
        have hwe' := hwe.symm
        subst hwe'
        clear hwe
        have HLo := Lib.hid hlo
        have HNx := Lib.hid (low_next HRu.out HSK.out hlo)
        clear hlo
        rcases gk with _ | h
        case succ =>
          have hlt2 : i < nv := by omega
          obtain ⟨b2, off2, t, ht, hA2, hb2, hc2⟩ := ((HV2.out.below HB.out).more HB.out.size).str (k := i) (by rw [HVL.out]; exact hlt2)
          have hii : (i : Int) < (nv : Int) := by omega
          have HTI := Lib.hid ht
          subst hA2
          clear ht
          rcases lt_three t s with hts | hts | hts
          · have e1 : Op.bytesLess (enc t).toList (enc s).toList = true := by rw [enc_lt, decide_eq_true hts]
            have HN := Lib.hid (show ∀ (j : Nat) (z : Bs), j < i + 1 → V[j]? = some z → z < s by
              intro j z hj hz
              rcases Nat.lt_or_ge j i with h1 | h1
              · exact HLo.out j z h1 hz
              · obtain rfl : j = i := by omega
                rw [HTI.out] at hz; cases hz; exact hts)
            clear hts
            go_wp2
            go_roundg h
            case rel => exact ⟨i + 1, rfl, by omega, by go_num, HN.out, rfl⟩
            case measure => omega
          · subst hts
            have e1 : Op.bytesLess (enc t).toList (enc t).toList = false := by rw [enc_lt]; exact decide_eq_false (List.lt_irrefl t)
            have e2 : ((enc t).toList == (enc t).toList) = true := by rw [enc_eq]; exact decide_eq_true rfl
            have HH := Lib.hid (show hasS y.row t = true by rw [← HHs.out, hasS_iff]; exact List.mem_of_getElem? HTI.out)
            cases is
            · have HP := Lib.hid (pickTo_no (is := false) HSK.out HH.out)
              clear hpl
              go_wp2
              go_roundg g
              case rel => exact ⟨k + 1, i, A0, c0, by omega, by omega, by go_num, rfl, HNx.out, by rw [HP.out], by rw [HP.out]; exact HO.out, HB.out⟩
              case measure => omega
            · have HP := Lib.hid (pickTo_yes (is := true) HSK.out HH.out)
              obtain ⟨q, hq⟩ : ∃ q, (pickTo U y.row true k).length = q := ⟨_, rfl⟩
              have HQ := Lib.hid hq
              rw [hq] at hpl HO
              have HR := Lib.hid (rd_one (cells := sC) (x := t) sC_len (Blk.new W 9 #[.string (enc t)]) rfl)
              rw [hq]
              clear hq
              go_wp2_with (at_builtin; refine wpList_append_rd _ rfl _ _ 22 rfl w2.heap.size 9 i0 (.string ByteArray.empty) 1 16 Try.underlying22 hi0 hz0 hz1 hz2 rfl (by decide) _ q _ rfl (own_below HO.out ((Below.refl _ _).alloc (Nat.le_refl _) _)) _ _ 1 1 sC sC_len sC_one [t] rfl rfl HR.out (by unfold maxLen; omega) (by omega) (by simp; omega) ?_; intro v2 w3 hown2 hg2 _)
              have HB3 := Lib.hid ((HB.out.alloc HB.out.size (.cells #[.string (enc t)] 9)).grown hg2 (by simp; have := HB.out.size; omega) (fun g hg => (HO.out.lt g hg).1))
              have HL3 := Lib.hid (show (pickTo U y.row true (k + 1)).length = q + 1 by rw [HP.out, List.length_append, HQ.out]; rfl)
              have HO3 := Lib.hid (show w3.ownsRow w2.heap.size 9 1 v2 (pickTo U y.row true (k + 1)).length ((pickTo U y.row true (k + 1)).flatMap sC) by rw [HP.out, List.flatMap_append, List.length_append, HQ.out]; simpa using hown2)
              obtain ⟨A3, c3, rfl⟩ := own_slice HO3.out
              clear hown2 hg2 hpl
              go_wp2
              go_roundg g
              case rel => exact ⟨k + 1, i, A3, c3, by omega, by omega, by go_num, rfl, HNx.out, rfl, HO3.out, HB3.out⟩
              case measure => omega
          · have e1 : Op.bytesLess (enc t).toList (enc s).toList = false := by rw [enc_lt]; exact decide_eq_false (fun h => List.lt_irrefl t (List.lt_trans h hts))
            have e2 : ((enc t).toList == (enc s).toList) = false := by rw [enc_eq]; exact decide_eq_false (lt_ne hts).symm
            have HH := Lib.hid (show hasS y.row s = false by
              rw [← HHs.out, ← Bool.not_eq_true, hasS_iff]
              exact merge_skip HRv.out HLo.out HTI.out hts)
            clear hts
            cases is
            · have HP := Lib.hid (pickTo_yes (is := false) HSK.out HH.out)
              obtain ⟨q, hq⟩ : ∃ q, (pickTo U y.row false k).length = q := ⟨_, rfl⟩
              have HQ := Lib.hid hq
              rw [hq] at hpl HO
              have HR := Lib.hid (rd_one (cells := sC) (x := s) sC_len (Blk.new W 9 #[.string (enc s)]) rfl)
              rw [hq]
              clear hq
              go_wp2_with (at_builtin; refine wpList_append_rd _ rfl _ _ 22 rfl w2.heap.size 9 i0 (.string ByteArray.empty) 1 16 Try.underlying22 hi0 hz0 hz1 hz2 rfl (by decide) _ q _ rfl (own_below HO.out ((Below.refl _ _).alloc (Nat.le_refl _) _)) _ _ 1 1 sC sC_len sC_one [s] rfl rfl HR.out (by unfold maxLen; omega) (by omega) (by simp; omega) ?_; intro v2 w3 hown2 hg2 _)
              have HB3 := Lib.hid ((HB.out.alloc HB.out.size (.cells #[.string (enc s)] 9)).grown hg2 (by simp; have := HB.out.size; omega) (fun g hg => (HO.out.lt g hg).1))
              have HL3 := Lib.hid (show (pickTo U y.row false (k + 1)).length = q + 1 by rw [HP.out, List.length_append, HQ.out]; rfl)
              have HO3 := Lib.hid (show w3.ownsRow w2.heap.size 9 1 v2 (pickTo U y.row false (k + 1)).length ((pickTo U y.row false (k + 1)).flatMap sC) by rw [HP.out, List.flatMap_append, List.length_append, HQ.out]; simpa using hown2)
              obtain ⟨A3, c3, rfl⟩ := own_slice HO3.out
              clear hown2 hg2 hpl
              go_wp2
              go_roundg g
              case rel => exact ⟨k + 1, i, A3, c3, by omega, by omega, by go_num, rfl, HNx.out, rfl, HO3.out, HB3.out⟩
              case measure => omega
            · have HP := Lib.hid (pickTo_no (is := true) HSK.out HH.out)
              clear hpl
              go_wp2
              go_roundg g
              case rel => exact ⟨k + 1, i, A0, c0, by omega, by omega, by go_num, rfl, HNx.out, by rw [HP.out], by rw [HP.out]; exact HO.out, HB.out⟩
              case measure => omega
        case zero =>
          obtain rfl : i = nv := by omega
          have hii : ¬ (i : Int) < (i : Int) := by omega
          have HH := Lib.hid (show hasS y.row s = false by
            rw [← HHs.out, ← Bool.not_eq_true, hasS_iff]
            exact merge_end (by rw [HVL.out]; exact HLo.out))
          cases is
          · have HP := Lib.hid (pickTo_yes (is := false) HSK.out HH.out)
            obtain ⟨q, hq⟩ : ∃ q, (pickTo U y.row false k).length = q := ⟨_, rfl⟩
            have HQ := Lib.hid hq
            rw [hq] at hpl HO
            have HR := Lib.hid (rd_one (cells := sC) (x := s) sC_len (Blk.new W 9 #[.string (enc s)]) rfl)
            rw [hq]
            clear hq
            go_wp2_with (at_builtin; refine wpList_append_rd _ rfl _ _ 22 rfl w2.heap.size 9 i0 (.string ByteArray.empty) 1 16 Try.underlying22 hi0 hz0 hz1 hz2 rfl (by decide) _ q _ rfl (own_below HO.out ((Below.refl _ _).alloc (Nat.le_refl _) _)) _ _ 1 1 sC sC_len sC_one [s] rfl rfl HR.out (by unfold maxLen; omega) (by omega) (by simp; omega) ?_; intro v2 w3 hown2 hg2 _)
            have HB3 := Lib.hid ((HB.out.alloc HB.out.size (.cells #[.string (enc s)] 9)).grown hg2 (by simp; have := HB.out.size; omega) (fun g hg => (HO.out.lt g hg).1))
            have HL3 := Lib.hid (show (pickTo U y.row false (k + 1)).length = q + 1 by rw [HP.out, List.length_append, HQ.out]; rfl)
            have HO3 := Lib.hid (show w3.ownsRow w2.heap.size 9 1 v2 (pickTo U y.row false (k + 1)).length ((pickTo U y.row false (k + 1)).flatMap sC) by rw [HP.out, List.flatMap_append, List.length_append, HQ.out]; simpa using hown2)
            obtain ⟨A3, c3, rfl⟩ := own_slice HO3.out
            clear hown2 hg2 hpl
            go_wp2
            go_roundg g
            case rel => exact ⟨k + 1, i, A3, c3, by omega, by omega, by go_num, rfl, HNx.out, rfl, HO3.out, HB3.out⟩
            case measure => omega
          · have HP := Lib.hid (pickTo_no (is := true) HSK.out HH.out)
            clear hpl
            go_wp2
            go_roundg g
            case rel => exact ⟨k + 1, i, A0, c0, by omega, by omega, by go_num, rfl, HNx.out, by rw [HP.out], by rw [HP.out]; exact HO.out, HB.out⟩
            case measure => omega
    case zero =>
      obtain rfl : k = nu := by omega
      have hki : ¬ (k : Int) < (k : Int) := by omega
      obtain ⟨z, hz, hzr, hzo⟩ := NmOwn.of HO.out
      have HF := Lib.hid (show NmMade w (pickS x.row y.row is) (.returned (.slice A0 (pickTo U y.row is k).length c0)) W from ⟨z, _, by rw [hz], by
        rw [hzr, HU.out]; exact pickTo_all (by rw [← HU.out, HUL.out]; exact Nat.le_refl _), hzo.less HB2.out.size, HB2.out.trans (HB.out.mono HB2.out.size)⟩)
      clear hpl hz hzr hzo
      go_wp2
      try rw [Exit.noGoto_ret]
      go_ret
      exact HF.out

end Go.Proofs.Ytfdgbegoaaihoaa
