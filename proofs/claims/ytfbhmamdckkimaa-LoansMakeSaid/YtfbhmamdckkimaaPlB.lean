/- Places: contracts of the document's Begins, Same, Meets, and of Long. -/
import Derived.Test.YtfbhmamdckkimaaPlA
namespace Go.Proofs.Ytfbhmamdckkimaa
open Go.RowKit
set_option linter.unusedVariables false
set_option linter.unusedSimpArgs false

theorem beg_get {p q : PKey} (hn : p.1 = q.1) (hl : p.2.length ≤ q.2.length) (h : p.2 = q.2.take p.2.length) : begB p q = true := by
  rw [beg_take hn, decide_eq_true_iff]; exact h
theorem blk_at {W : World} {g g' : Nat} {t : TypeId} {cs : Array Value} (h : Blk W g t cs) (e : g = g') : Blk W g' t cs := e ▸ h

set_option maxHeartbeats 1600000 in
theorem rbegins_any (x y : Pl) (w : World) (hx : PlOk w w.heap.size x) (hy : PlOk w w.heap.size y) :
    Calls Try.prog 44 #[.agg #[.string x.name, .slice x.pa x.path.length x.pc], .agg #[.string y.name, .slice y.pa y.path.length y.pc]] w fun r w' => r = .returned (.bool (begB x.key y.key)) ∧ Below w.heap.size w w' := by
  obtain ⟨lx, hlx⟩ : ∃ n, x.path.length = n := ⟨_, rfl⟩
  obtain ⟨ly, hly⟩ : ∃ n, y.path.length = n := ⟨_, rfl⟩
  have hmx : lx ≤ maxLen := by rw [← hlx]; exact Nat.le_trans hx.cap hx.big
  have hmy : ly ≤ maxLen := by rw [← hly]; exact Nat.le_trans hy.cap hy.big
  unfold maxLen at hmx hmy
  obtain ⟨W, hW⟩ : ∃ W, W = ((w.alloc (.cells #[.string x.name, .slice x.pa lx x.pc] 25)).alloc (.cells #[.string y.name, .slice y.pa ly y.pc] 25)) := ⟨_, rfl⟩
  have hb2 : Below w.heap.size w W := by rw [hW]; exact ((Below.refl _ _).alloc (Nat.le_refl _) _).alloc (by simp) _
  have hk1 : Blk W w.heap.size 25 #[.string x.name, .slice x.pa lx x.pc] := by rw [hW]; exact (Blk.new w _ _).alloc _
  have hk2 : Blk W (w.heap.size + 1) 25 #[.string y.name, .slice y.pa ly y.pc] := by rw [hW]; exact blk_at (Blk.new (w.alloc _) _ _) (by simp)
  have HB := Lib.hid hb2
  have HX := Lib.hid (hx.rd.below hb2)
  have HY := Lib.hid (hy.rd.below hb2)
  have HLX := Lib.hid hlx
  have HLY := Lib.hid hly
  have HW := Lib.hid hW
  have c0 := hk1.cell 0
  have c1 := hk1.cell 1
  have c2 := hk2.cell 0
  have c3 := hk2.cell 1
  have z1 := hk1.lt
  have z2 := hk2.lt
  simp at c0 c1 c2 c3
  rw [hlx, hly]
  clear hx hy hb2 hk1 hk2
  by_cases hn : x.name = y.name
  · have e : (x.name.toList == y.name.toList) = true := by rw [hn]; simp
    by_cases hle : lx ≤ ly
    · have d : ¬ ((ly : Int) < (lx : Int)) := by omega
      have HN := Lib.hid hn
      clear hn hlx hly
      go_enter Try.func44, Try.ntmps44
      go_wp2
      rw [← HW.out]
      clear hW
      go_loopw [5] (fun i wr => ∃ k : Nat, k ≤ lx ∧ i = .int .i64 k ∧ x.path.take k = y.path.take k ∧ ∃ n, wr = W.drewN n) (fun i _ => lx - (intOf i).toNat)
      case atStart => exact ⟨0, by omega, rfl, rfl, 0, rfl⟩
      case round =>
        obtain ⟨k, hk, rfl, hall, n, rfl⟩ := hrel
        have HA := Lib.hid hall
        clear hall
        by_cases hlt : k < lx
        · obtain ⟨b, off, s, hs, hpa, hb, hc⟩ := HX.out.str (k := k) (by rw [HLX.out]; exact hlt)
          obtain ⟨b', off', t, ht, hpb, hb', hc'⟩ := HY.out.str (k := k) (by rw [HLY.out]; omega)
          rw [hpa] at c1
          rw [hpb] at c3
          have hki : (k : Int) < (lx : Int) := by omega
          have hki2 : (k : Int) < (ly : Int) := by omega
          have hk0 : (0 : Int) ≤ (k : Int) := by omega
          by_cases hst : s.toList = t.toList
          · have e2 : (s.toList == t.toList) = true := by simpa using hst
            have hnx : x.path.take (k + 1) = y.path.take (k + 1) := by rw [List.take_add_one, List.take_add_one, HA.out, hs, ht, str_eq_of hst]
            have HN := Lib.hid hnx
            clear hnx hs ht hst hpa hpb
            go_wp2
            go_quiet (fail)
            go_wp2
            go_roundw
            case rel => exact ⟨k + 1, by omega, by go_num, HN.out, _, rfl⟩
            case measure => simp [intOf] <;> omega
          · have e2 : (s.toList == t.toList) = false := by simpa using hst
            have hno : begB x.key y.key = false := by
              rw [Bool.eq_false_iff]; intro hb
              obtain ⟨r, hr⟩ := (begB_iff.1 hb).2
              have : y.path[k]? = some s := by
                show y.key.2[k]? = some s
                rw [← hr, List.getElem?_append_left (by show k < x.path.length; rw [HLX.out]; exact hlt)]; exact hs
              rw [ht] at this; cases this; exact hst rfl
            have HN := Lib.hid hno
            clear hno hs ht hst hpa hpb
            go_wp2
            go_quiet (fail)
            go_wp2
            go_ret
            exact ⟨by rw [HN.out]; rfl, below_drewN (below_drewN HB.out _) _⟩
        · obtain rfl : k = lx := by omega
          have hyes : begB x.key y.key = true := by
            refine beg_get HN.out (by show x.path.length ≤ y.path.length; rw [HLX.out, HLY.out]; exact hle) ?_
            have := HA.out
            rw [List.take_of_length_le (by rw [HLX.out]; exact Nat.le_refl _)] at this
            show x.path = y.path.take x.path.length
            rw [HLX.out]; exact this
          have HYS := Lib.hid hyes
          clear hyes
          go_wp2
          go_ret
          exact ⟨by rw [HYS.out]; rfl, below_drewN HB.out _⟩
    · have HS := Lib.hid (show begB x.key y.key = false from beg_long (by show y.path.length < x.path.length; omega))
      have d : (ly : Int) < (lx : Int) := by omega
      clear hn hlx hly
      go_enter Try.func44, Try.ntmps44
      go_wp2
      rw [← HW.out]
      go_ret
      exact ⟨by rw [HS.out]; rfl, HB.out⟩
  · have HS := Lib.hid (show begB x.key y.key = false from beg_name hn)
    have e := tol_ne hn
    clear hn hlx hly
    go_enter Try.func44, Try.ntmps44
    go_wp2
    rw [← HW.out]
    go_ret
    exact ⟨by rw [HS.out]; rfl, HB.out⟩
theorem rbeg_bool (x y : Pl) {b : Bool} (hb : begB x.key y.key = b) (w : World) (hx : PlOk w w.heap.size x) (hy : PlOk w w.heap.size y) :
    Calls Try.prog 44 #[.agg #[.string x.name, .slice x.pa x.path.length x.pc], .agg #[.string y.name, .slice y.pa y.path.length y.pc]] w fun r w' => r = .returned (.bool b) ∧ Below w.heap.size w w' := by
  subst hb; exact rbegins_any x y w hx hy
set_option maxHeartbeats 800000 in
theorem rmeets_any (x y : Pl) (w : World) (hx : PlOk w w.heap.size x) (hy : PlOk w w.heap.size y) :
    Calls Try.prog 31 #[.agg #[.string x.name, .slice x.pa x.path.length x.pc], .agg #[.string y.name, .slice y.pa y.path.length y.pc]] w fun r w' => r = .returned (.bool (meetB x.key y.key)) ∧ Below w.heap.size w w' := by
  have hb2 : Below w.heap.size w ((w.alloc (.cells #[.string x.name, .slice x.pa x.path.length x.pc] 25)).alloc (.cells #[.string y.name, .slice y.pa y.path.length y.pc] 25)) := ((Below.refl _ _).alloc (Nat.le_refl _) _).alloc (by simp) _
  have hx2 := hx.next hb2
  have hy2 := hy.next hb2
  cases hb : begB x.key y.key
  · have HE1 := Lib.hid (rbeg_bool x y hb _ hx2 hy2)
    have HS := Lib.hid (show meetB x.key y.key = begB y.key x.key by unfold meetB; rw [hb]; rfl)
    obtain ⟨b2, hb2'⟩ : ∃ b, begB y.key x.key = b := ⟨_, rfl⟩
    rw [hb2'] at HS
    have HE2 := Lib.hid (fun W h1 h2 => rbeg_bool y x hb2' W h1 h2)
    obtain ⟨lx, hlx⟩ : ∃ n, x.path.length = n := ⟨_, rfl⟩
    obtain ⟨ly, hly⟩ : ∃ n, y.path.length = n := ⟨_, rfl⟩
    rw [hlx, hly] at HE1 HE2 ⊢
    rw [hlx, hly] at hb2 hx2 hy2
    have HB := Lib.hid hb2
    have HX := Lib.hid hx2
    have HY := Lib.hid hy2
    clear hx hy hb hlx hly hb2' hb2 hx2 hy2
    go_enter Try.func31, Try.ntmps31
    go_wp2_with fail
    refine HE1.out.mono ?_
    rintro r w' ⟨rfl, hb1⟩
    have HB1 := Lib.hid (HB.out.trans (hb1.mono HB.out.size))
    have HX1 := Lib.hid (HX.out.next hb1)
    have HY1 := Lib.hid (HY.out.next hb1)
    have hk := (Blk.new (w.alloc (.cells #[.string x.name, .slice x.pa lx x.pc] 25)) 25 #[.string y.name, .slice y.pa ly y.pc]).below hb1 (by simp)
    have hk0 := ((Blk.new w 25 #[.string x.name, .slice x.pa lx x.pc]).alloc (.cells #[.string y.name, .slice y.pa ly y.pc] 25)).below hb1 (by simp; omega)
    have c0 := hk.cell 0
    have c1 := hk.cell 1
    have c2 := hk0.cell 0
    have c3 := hk0.cell 1
    simp at c0 c1 c2 c3
    clear hb1 hk hk0
    go_wp2_with fail
    refine (HE2.out _ HY1.out HX1.out).mono ?_
    rintro r w2 ⟨rfl, hb2⟩
    have HB2 := Lib.hid (HB1.out.trans (hb2.mono HB1.out.size))
    clear hb2
    go_wp2
    go_ret
    exact ⟨by rw [HS.out]; rfl, HB2.out⟩
  · have HE1 := Lib.hid (rbeg_bool x y hb _ hx2 hy2)
    have HS := Lib.hid (show meetB x.key y.key = true by unfold meetB; rw [hb]; rfl)
    have HB := Lib.hid hb2
    clear hx hy hb hx2 hy2 hb2
    go_enter Try.func31, Try.ntmps31
    go_wp2_with fail
    refine HE1.out.mono ?_
    rintro r w' ⟨rfl, hb1⟩
    have HB1 := Lib.hid (HB.out.trans (hb1.mono HB.out.size))
    clear hb1
    go_wp2
    go_ret
    exact ⟨by rw [HS.out]; rfl, HB1.out⟩

set_option maxHeartbeats 800000 in
theorem rsame_any (x y : Pl) (w : World) (hx : PlOk w w.heap.size x) (hy : PlOk w w.heap.size y) :
    Calls Try.prog 37 #[.agg #[.string x.name, .slice x.pa x.path.length x.pc], .agg #[.string y.name, .slice y.pa y.path.length y.pc]] w fun r w' => r = .returned (.bool (sameB x.key y.key)) ∧ Below w.heap.size w w' := by
  have hb2 : Below w.heap.size w ((w.alloc (.cells #[.string x.name, .slice x.pa x.path.length x.pc] 25)).alloc (.cells #[.string y.name, .slice y.pa y.path.length y.pc] 25)) := ((Below.refl _ _).alloc (Nat.le_refl _) _).alloc (by simp) _
  by_cases hl : x.path.length = y.path.length
  · have hs : begB x.key y.key = sameB x.key y.key := by
      by_cases hn : x.name = y.name
      · exact begB_same_len hn hl
      · rw [beg_name hn, same_name hn]
    obtain ⟨b, hb⟩ : ∃ b, sameB x.key y.key = b := ⟨_, rfl⟩
    rw [hb] at hs ⊢
    have HE := Lib.hid (rbeg_bool x y hs _ (hx.next hb2) (hy.next hb2))
    have HB := Lib.hid hb2
    obtain ⟨lx, hlx⟩ : ∃ n, x.path.length = n := ⟨_, rfl⟩
    rw [hlx] at hl
    obtain ⟨ly, hly⟩ : ∃ n, y.path.length = n := ⟨_, rfl⟩
    rw [hly] at hl
    rw [hlx, hly] at HE HB ⊢
    clear hx hy hs hb hb2 hlx hly
    subst hl
    go_enter Try.func37, Try.ntmps37
    go_wp2_with fail
    refine HE.out.mono ?_
    rintro r w' ⟨rfl, hb1⟩
    have HB1 := Lib.hid (HB.out.trans (hb1.mono HB.out.size))
    clear hb1
    go_wp2
    go_ret
    exact ⟨rfl, HB1.out⟩
  · have HS := Lib.hid (show sameB x.key y.key = false from same_len hl)
    have HB := Lib.hid hb2
    have d : ((x.path.length : Int) == (y.path.length : Int)) = false := by rw [beq_eq_false_iff_ne]; omega
    clear hx hy hb2 hl
    go_enter Try.func37, Try.ntmps37
    go_wp2_with fail
    go_ret
    exact ⟨by rw [HS.out]; rfl, HB.out⟩

/-! ### is it longer than what is gone through? -/
def longB (x : Pl) : Bool := decide (100 < x.path.length) || decide (1000 < x.name.size) || x.path.any (fun s => decide (1000 < s.size))
theorem longB_no {x : Pl} (h : longB x = false) : x.path.length ≤ 100 ∧ x.name.size ≤ 1000 ∧ ∀ s ∈ x.path, s.size ≤ 1000 := by
  unfold longB at h
  rw [Bool.or_eq_false_iff, Bool.or_eq_false_iff, decide_eq_false_iff_not, decide_eq_false_iff_not, List.any_eq_false] at h
  refine ⟨by omega, by omega, fun s hs => ?_⟩
  have := h.2 s hs
  simp at this
  exact this
set_option maxHeartbeats 800000 in
theorem long_any (x : Pl) (w : World) (hx : PlOk w w.heap.size x) :
    Calls Try.prog 11 #[.agg #[.string x.name, .slice x.pa x.path.length x.pc]] w fun r w' => r = .returned (.bool (longB x)) ∧ Below w.heap.size w w' := by
  obtain ⟨lx, hlx⟩ : ∃ n, x.path.length = n := ⟨_, rfl⟩
  have hmx : lx ≤ maxLen := by rw [← hlx]; exact Nat.le_trans hx.cap hx.big
  have hmn := hx.wn
  have hmp := hx.wp
  unfold maxLen at hmx hmn
  obtain ⟨W, hW⟩ : ∃ W, W = (w.alloc (.cells #[.string x.name, .slice x.pa lx x.pc] 25)) := ⟨_, rfl⟩
  have hb2 : Below w.heap.size w W := by rw [hW]; exact (Below.refl _ _).alloc (Nat.le_refl _) _
  have hk1 : Blk W w.heap.size 25 #[.string x.name, .slice x.pa lx x.pc] := by rw [hW]; exact Blk.new w _ _
  have HB := Lib.hid hb2
  have HX := Lib.hid (hx.rd.below hb2)
  have HLX := Lib.hid hlx
  have HW := Lib.hid hW
  have HMP := Lib.hid hmp
  have c0 := hk1.cell 0
  have c1 := hk1.cell 1
  have z1 := hk1.lt
  simp at c0 c1
  rw [hlx]
  clear hx hb2 hk1 hmp
  by_cases h100 : 100 < lx
  · have HS := Lib.hid (show longB x = true by unfold longB; rw [hlx, decide_eq_true h100]; rfl)
    have d : (100 : Int) < (lx : Int) := by omega
    clear hlx h100
    go_enter Try.func11, Try.ntmps11
    go_wp2
    rw [← HW.out]
    go_ret
    exact ⟨by rw [HS.out]; rfl, HB.out⟩
  · have d : ¬ (100 : Int) < (lx : Int) := by omega
    by_cases hn : 1000 < x.name.size
    · have HS := Lib.hid (show longB x = true by unfold longB; rw [decide_eq_true hn]; simp)
      have d2 : (1000 : Int) < (x.name.size : Int) := by omega
      clear hlx h100 hn
      go_enter Try.func11, Try.ntmps11
      go_wp2
      rw [← HW.out]
      go_ret
      exact ⟨by rw [HS.out]; rfl, HB.out⟩
    · have d2 : ¬ (1000 : Int) < (x.name.size : Int) := by omega
      have H1 := Lib.hid (show longB x = x.path.any (fun s => decide (1000 < s.size)) by unfold longB; rw [hlx, decide_eq_false h100, decide_eq_false hn]; rfl)
      clear hlx h100 hn
      go_enter Try.func11, Try.ntmps11
      go_wp2
      rw [← HW.out]
      clear hW
      go_loop [3] (fun i => ∃ k : Nat, k ≤ lx ∧ i = .int .i64 k ∧ ∀ (q : Nat) (s : ByteArray), q < k → x.path[q]? = some s → s.size ≤ 1000) (fun i => lx - (intOf i).toNat)
      case atStart => exact ⟨0, by omega, rfl, fun q s hq => by omega⟩
      case round =>
        obtain ⟨k, hk, rfl, hall⟩ := hrel
        have HA := Lib.hid hall
        clear hall
        by_cases hlt : k < lx
        · obtain ⟨b, off, s, hs, hpa, hb, hc⟩ := HX.out.str (k := k) (by rw [HLX.out]; exact hlt)
          rw [hpa] at c1
          have hki : (k : Int) < (lx : Int) := by omega
          have hsm := HMP.out s (List.mem_of_getElem? hs)
          unfold maxLen at hsm
          by_cases hsz : 1000 < s.size
          · have d3 : (1000 : Int) < (s.size : Int) := by omega
            have HS := Lib.hid (show longB x = true by rw [H1.out, List.any_eq_true]; exact ⟨s, List.mem_of_getElem? hs, by simpa using hsz⟩)
            clear hs hpa hsz
            go_wp2
            go_ret
            exact ⟨by rw [HS.out]; rfl, HB.out⟩
          · have d3 : ¬ (1000 : Int) < (s.size : Int) := by omega
            have hnx : ∀ (q : Nat) (z : ByteArray), q < k + 1 → x.path[q]? = some z → z.size ≤ 1000 := by
              intro q z hq hz
              rcases Nat.lt_or_ge q k with h1 | h1
              · exact HA.out q z h1 hz
              · obtain rfl : q = k := by omega
                rw [hs] at hz; cases hz; omega
            have HN := Lib.hid hnx
            clear hnx hs hpa hsz
            go_wp2
            go_round
            case rel => exact ⟨k + 1, by omega, by go_num, HN.out⟩
            case measure => simp [intOf] <;> omega
        · obtain rfl : k = lx := by omega
          have HS := Lib.hid (show longB x = false by
            rw [H1.out, List.any_eq_false]
            intro s hs
            obtain ⟨q, hq⟩ := List.mem_iff_getElem?.1 hs
            have hql := (List.getElem?_eq_some_iff.1 hq).1
            have := HA.out q s (by rw [← HLX.out]; exact hql) hq
            simpa using this)
          go_wp2
          go_ret
          exact ⟨by rw [HS.out]; rfl, HB.out⟩
end Go.Proofs.Ytfbhmamdckkimaa
