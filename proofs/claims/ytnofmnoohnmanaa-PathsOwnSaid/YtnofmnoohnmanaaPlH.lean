/- Places: the contract of the document's Least. -/
import Derived.Test.YtnofmnoohnmanaaPlG
namespace Go.Proofs.Ytnofmnoohnmanaa
open Go.RowKit
set_option linter.unusedVariables false
set_option linter.unusedSimpArgs false

def spoils (q p : PKey) (k i : Nat) : Bool := begB q p && (!sameB q p || decide (k < i))
def leastTo (L : List PKey) (i : Nat) (p : PKey) (n : Nat) : Bool := (List.range n).all fun k => !(match L[k]? with | some q => spoils q p k i | none => false)
theorem leastTo_all (L : List PKey) (i : Nat) (p : PKey) : leastTo L i p L.length = isLeast L i p := rfl
theorem leastTo_succ {L : List PKey} {i : Nat} {p q : PKey} {n : Nat} (h : L[n]? = some q) : leastTo L i p (n + 1) = (leastTo L i p n && !spoils q p n i) := by
  unfold leastTo
  rw [List.range_succ, List.all_append]
  simp [h]
structure LeastRAt (w : World) (L : List Pl) (n : Nat) (v : Value) (wr : World) : Prop where
  ex : ∃ O : List Pl, wr.ownsRow w.heap.size 24 2 v O.length (O.flatMap plC) ∧ (∀ y ∈ O, y ∈ L) ∧ O.map Pl.key = leastR (L.map Pl.key) n ∧ O.length ≤ n

set_option maxHeartbeats 6400000 in
theorem rleast_any (A : Option Addr) (len c : Nat) (L : List Pl) (w : World) (h : PlRow w A len c L) (h40 : len ≤ 1000) :
    Calls Try.prog 25 #[.slice A len c] w fun r w' => ∃ v, r = .returned v ∧ LeastRAt w L len v w' ∧ Below w.heap.size w w' := by
  obtain ⟨i0, hi0, hz0, hz1, hz2⟩ := info_parts infoP
  have H := Lib.hid h
  clear h
  go_enter Try.func25, Try.ntmps25
  go_wp2
  go_loopw [3, 4] (fun v i wr => ∃ k : Nat, k ≤ len ∧ i = .int .i64 k ∧ LeastRAt w L k v wr ∧ Below w.heap.size w wr) (fun _ i _ => len - (intOf i).toNat)
  case atStart => exact ⟨0, by omega, rfl, ⟨[], World.ownsRow_nil _ _ _ _, by simp, by simp [leastR], by simp⟩, Below.refl _ _⟩
  case round =>
    obtain ⟨i, hi, rfl, ⟨O, hown, hsub, hkey, hOl⟩, hbl⟩ := hrel
    obtain ⟨wo, rfl⟩ : ∃ wo : World, wo = wr := ⟨_, rfl⟩
    have HB := Lib.hid hbl
    have HSUB := Lib.hid hsub
    have HK := Lib.hid hkey
    have HO := Lib.hid hown
    clear hbl hsub hkey hown
    by_cases hlt : i < len
    · obtain ⟨x, hx⟩ : ∃ x, L[i]? = some x := ⟨_, List.getElem?_eq_getElem (by rw [H.out.ln]; exact hlt)⟩
      have hkx : (L.map Pl.key)[i]? = some x.key := by rw [List.getElem?_map, hx]; rfl
      have hmem := List.mem_of_getElem? hx
      have HX := Lib.hid hx
      have HKX := Lib.hid hkx
      have hki : (i : Int) < (len : Int) := by omega
      have hk0 : (0 : Int) ≤ (i : Int) := by omega
      clear hx hkx
      go_wp2
      go_loopw [5, 6] (fun l k wr => ∃ n : Nat, n ≤ len ∧ k = .int .i64 n ∧ l = .bool (leastTo (L.map Pl.key) i x.key n) ∧ Below wo.heap.size wo wr) (fun _ k _ => len - (intOf k).toNat)
      case atStart => exact ⟨0, by omega, rfl, rfl, Below.refl _ _⟩
      case round =>
        obtain ⟨k, hk, rfl, rfl, hbi⟩ := hrel
        have HBI := Lib.hid hbi
        have HBW := Lib.hid (HB.out.trans (hbi.mono HB.out.size))
        clear hbi
        obtain ⟨lt, hlt'⟩ : ∃ b, b = leastTo (L.map Pl.key) i x.key k := ⟨_, rfl⟩
        have HLT := Lib.hid hlt'
        rw [← hlt']
        clear hlt'
        by_cases hlk : k < len
        · obtain ⟨q, hq⟩ : ∃ q, L[k]? = some q := ⟨_, List.getElem?_eq_getElem (by rw [H.out.ln]; exact hlk)⟩
          have hkq : (L.map Pl.key)[k]? = some q.key := by rw [List.getElem?_map, hq]; rfl
          have HLS := Lib.hid (leastTo_succ (i := i) (p := x.key) hkq)
          have hmq := List.mem_of_getElem? hq
          have hkk : (k : Int) < (len : Int) := by omega
          have hkk0 : (0 : Int) ≤ (k : Int) := by omega
          have hrow := H.out.below HBW.out
          obtain ⟨b, off, hA, hb, c0, c1⟩ := hrow.rd.pl hq
          obtain ⟨b', off', hA', hb', c2, c3⟩ := hrow.rd.pl HX.out
          subst hA
          cases hA'
          obtain ⟨bb, hbb⟩ : ∃ bb, begB q.key x.key = bb := ⟨_, rfl⟩
          obtain ⟨sb, hsb⟩ : ∃ sb, sameB q.key x.key = sb := ⟨_, rfl⟩
          have hcc1 : ∀ (d : Nat) (os : Array Obj), Calls Try.prog 15 #[.agg #[.string q.name, .slice q.pa q.path.length q.pc], .agg #[.string x.name, .slice x.pa x.path.length x.pc]] (Go.Sort.grow (redrawn wr d) os) fun r w' => r = .returned (.bool bb) ∧ ∃ p : Regrown, w' = Go.Sort.grow (redrawn wr p.d) p.os := by
            intro d os
            have hb := HBW.out.trans ((below_regrown wr d os).mono HBW.out.size)
            exact Calls.regrown_of (rbeg_bool q x hbb _ ((H.out.below hb).ok q hmq) ((H.out.below hb).ok x hmem))
          have hcc2 : ∀ (d : Nat) (os : Array Obj), Calls Try.prog 13 #[.agg #[.string q.name, .slice q.pa q.path.length q.pc], .agg #[.string x.name, .slice x.pa x.path.length x.pc]] (Go.Sort.grow (redrawn wr d) os) fun r w' => r = .returned (.bool sb) ∧ ∃ p : Regrown, w' = Go.Sort.grow (redrawn wr p.d) p.os := by
            intro d os
            have hb := HBW.out.trans ((below_regrown wr d os).mono HBW.out.size)
            exact Calls.regrown_of (rsame_bool q x hsb _ ((H.out.below hb).ok q hmq) ((H.out.below hb).ok x hmem))
          have HC1 := Lib.hid hcc1
          have HC2 := Lib.hid hcc2
          have HSP := Lib.hid (show spoils q.key x.key k i = (bb && (!sb || decide (k < i))) by unfold spoils; rw [hbb, hsb])
          obtain ⟨lx, hlx⟩ : ∃ n, x.path.length = n := ⟨_, rfl⟩
          obtain ⟨lq, hlq⟩ : ∃ n, q.path.length = n := ⟨_, rfl⟩
          rw [hlx] at c3 HC1 HC2
          rw [hlq] at c1 HC1 HC2
          have c0 := cell_regrown c0
          have c1 := cell_regrown c1
          have c2 := cell_regrown c2
          have c3 := cell_regrown c3
          clear hcc1 hcc2 hbb hsb hlx hlq hrow hq hkq
          cases bb
          · have HN := Lib.hid (show leastTo (L.map Pl.key) i x.key (k + 1) = lt by rw [HLS.out, HSP.out, ← HLT.out]; simp)
            clear HSP HLS
            go_wp2_with fail
            refine wp_region_quiet_below (by kernel_rfl) (by kernel_rfl) ?_
            repeat (first | go_big_quiet_step ((first | (go_at_call 15; exact HC1.out _ _) | (go_at_call 13; exact HC2.out _ _))) | quiet_step ((first | (go_at_call 15; exact HC1.out _ _) | (go_at_call 13; exact HC2.out _ _))))
            refine wpQuiet_nil ?_
            intro W2 hW2e
            obtain ⟨⟨dq, osq⟩, hW2⟩ := hW2e
            have hbl2 : Below wo.heap.size wo W2 := by rw [hW2]; exact HBI.out.trans ((below_regrown wr dq osq).mono HBI.out.size)
            have HBL2 := Lib.hid hbl2
            clear hW2 hbl2
            go_wp2
            go_roundw
            case rel => exact ⟨k + 1, by omega, by go_num, by rw [HN.out], HBL2.out⟩
            case measure => simp [intOf] <;> omega
          · cases sb
            · have HN := Lib.hid (show leastTo (L.map Pl.key) i x.key (k + 1) = false by rw [HLS.out, HSP.out]; simp)
              clear HSP HLS
              go_wp2_with fail
              refine wp_region_quiet_below (by kernel_rfl) (by kernel_rfl) ?_
              repeat (first | go_big_quiet_step ((first | (go_at_call 15; exact HC1.out _ _) | (go_at_call 13; exact HC2.out _ _))) | quiet_step ((first | (go_at_call 15; exact HC1.out _ _) | (go_at_call 13; exact HC2.out _ _))))
              refine wpQuiet_nil ?_
              intro W2 hW2e
              obtain ⟨⟨dq, osq⟩, hW2⟩ := hW2e
              have hbl2 : Below wo.heap.size wo W2 := by rw [hW2]; exact HBI.out.trans ((below_regrown wr dq osq).mono HBI.out.size)
              have HBL2 := Lib.hid hbl2
              clear hW2 hbl2
              go_wp2
              go_roundw
              case rel => exact ⟨k + 1, by omega, by go_num, by rw [HN.out], HBL2.out⟩
              case measure => simp [intOf] <;> omega
            · by_cases hki2 : k < i
              · have dk : (k : Int) < (i : Int) := by omega
                have HN := Lib.hid (show leastTo (L.map Pl.key) i x.key (k + 1) = false by rw [HLS.out, HSP.out, decide_eq_true hki2]; simp)
                clear HSP HLS
                go_wp2_with fail
                refine wp_region_quiet_below (by kernel_rfl) (by kernel_rfl) ?_
                repeat (first | go_big_quiet_step ((first | (go_at_call 15; exact HC1.out _ _) | (go_at_call 13; exact HC2.out _ _))) | quiet_step ((first | (go_at_call 15; exact HC1.out _ _) | (go_at_call 13; exact HC2.out _ _))))
                refine wpQuiet_nil ?_
                intro W2 hW2e
                obtain ⟨⟨dq, osq⟩, hW2⟩ := hW2e
                have hbl2 : Below wo.heap.size wo W2 := by rw [hW2]; exact HBI.out.trans ((below_regrown wr dq osq).mono HBI.out.size)
                have HBL2 := Lib.hid hbl2
                clear hW2 hbl2
                go_wp2
                go_roundw
                case rel => exact ⟨k + 1, by omega, by go_num, by rw [HN.out], HBL2.out⟩
                case measure => simp [intOf] <;> omega
              · have dk : ¬ (k : Int) < (i : Int) := by omega
                have HN := Lib.hid (show leastTo (L.map Pl.key) i x.key (k + 1) = lt by rw [HLS.out, HSP.out, decide_eq_false hki2, ← HLT.out]; simp)
                clear HSP HLS
                go_wp2_with fail
                refine wp_region_quiet_below (by kernel_rfl) (by kernel_rfl) ?_
                repeat (first | go_big_quiet_step ((first | (go_at_call 15; exact HC1.out _ _) | (go_at_call 13; exact HC2.out _ _))) | quiet_step ((first | (go_at_call 15; exact HC1.out _ _) | (go_at_call 13; exact HC2.out _ _))))
                refine wpQuiet_nil ?_
                intro W2 hW2e
                obtain ⟨⟨dq, osq⟩, hW2⟩ := hW2e
                have hbl2 : Below wo.heap.size wo W2 := by rw [hW2]; exact HBI.out.trans ((below_regrown wr dq osq).mono HBI.out.size)
                have HBL2 := Lib.hid hbl2
                clear hW2 hbl2
                go_wp2
                go_roundw
                case rel => exact ⟨k + 1, by omega, by go_num, by rw [HN.out], HBL2.out⟩
                case measure => simp [intOf] <;> omega
        · obtain rfl : k = len := by omega
          have HLR := Lib.hid (leastR_succ HKX.out)
          have HIS := Lib.hid (show isLeast (L.map Pl.key) i x.key = lt by rw [← leastTo_all, List.length_map, H.out.ln]; exact HLT.out.symm)
          have hrow := H.out.below HBW.out
          obtain ⟨b', off', hA', hb', c2, c3⟩ := hrow.rd.pl HX.out
          subst hA'
          have ho2 := own_below HO.out HBI.out
          obtain ⟨lx, hlx⟩ : ∃ n, x.path.length = n := ⟨_, rfl⟩
          have HLX := Lib.hid hlx
          rw [hlx] at c3
          have HO2 := Lib.hid ho2
          clear hrow hlx ho2
          cases lt
          · have HL5 := Lib.hid (show LeastRAt w L (i + 1) _ wr from ⟨O, HO2.out, HSUB.out, by rw [HK.out, HLR.out, HIS.out]; rfl, by omega⟩)
            go_wp2
            go_roundw
            case rel => exact ⟨i + 1, by omega, by go_num, HL5.out, HBW.out⟩
            case measure => simp [intOf] <;> omega
          · have hr1 := rd_one (cells := plC) (x := x) plC_len (Blk.new wr 24 #[.string x.name, .slice x.pa lx x.pc]) (by rw [← HLX.out]; rfl)
            have HR1 := Lib.hid hr1
            clear hr1
            go_wp2_with (at_builtin; refine wpList_append_rd _ rfl _ _ 30 rfl w.heap.size 24 i0 (.agg #[.string ByteArray.empty, .slice none 0 0]) 2 40 Try.underlying30 hi0 hz0 hz1 hz2 rfl (by decide) _ O.length _ rfl (HO2.out.alloc _) _ _ 1 1 plC plC_len plC_one [x] rfl rfl HR1.out (by unfold maxLen; omega) (by omega) (by have := HBW.out.size; simp; omega) ?_; intro v5 w5 hown5 hg5 _)
            have hb5 : Below wr.heap.size wr (wr.alloc (.cells #[.string x.name, .slice x.pa lx x.pc] 24)) := (Below.refl _ _).alloc (Nat.le_refl _) _
            have HB5 := Lib.hid ((HBW.out.trans (hb5.mono HBW.out.size)).grown hg5 (by have := HBW.out.size; simp; omega) (fun q hq => (HO2.out.lt q hq).1))
            have HL5 := Lib.hid (show LeastRAt w L (i + 1) v5 w5 from ⟨O ++ [x], by rw [List.length_append, List.flatMap_append]; simpa using hown5, by
              intro z hz
              rcases List.mem_append.1 hz with hz | hz
              · exact HSUB.out z hz
              · rw [List.mem_singleton.1 hz]; exact hmem, by
              rw [List.map_append, HK.out, HLR.out, HIS.out]; rfl, by rw [List.length_append]; simp; omega⟩)
            clear hown5 hg5 hb5
            go_wp2
            go_roundw
            case rel => exact ⟨i + 1, by omega, by go_num, HL5.out, HB5.out⟩
            case measure => simp [intOf] <;> omega
    · obtain rfl : i = len := by omega
      have HL5 := Lib.hid (show LeastRAt w L i _ wo from ⟨O, HO.out, HSUB.out, HK.out, hOl⟩)
      go_wp2
      go_ret
      exact ⟨_, rfl, HL5.out, HB.out⟩
end Go.Proofs.Ytnofmnoohnmanaa
