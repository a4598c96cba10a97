/- Places: With as a new place; Many; SameAll; Least. -/
import Derived.Test.YtnofmnoohnmanaaPlD
import Derived.Deep.QuietTactic
namespace Go.Proofs.Ytnofmnoohnmanaa
open Go.RowKit
set_option linter.unusedVariables false
set_option linter.unusedSimpArgs false

/-- a new place is told -/
def PlNew (w : World) (nm : ByteArray) (L : List ByteArray) (r : Ending) (w' : World) : Prop :=
  ∃ y : Pl, r = .returned (.agg #[.string y.name, .slice y.pa y.path.length y.pc]) ∧ y.key = (nm, L) ∧ PlOk w' w'.heap.size y ∧
    w'.ownsRow w.heap.size 9 1 (.slice y.pa y.path.length y.pc) y.path.length (y.path.flatMap strC) ∧ Below w.heap.size w w'
theorem with_new (x : Pl) (S : List ByteArray) (A : Option Addr) (ls cs : Nat) (w : World) (hx : PlOk w w.heap.size x) (hl : x.path.length ≤ 1000000) (hls : S.length = ls) (hs : ls ≤ 1000000) (hr : Rd w w.heap.size 1 strC A S) (hS : ∀ s ∈ S, s.size ≤ maxLen) :
    Calls Try.prog 26 #[.agg #[.string x.name, .slice x.pa x.path.length x.pc], .slice A ls cs] w (PlNew w x.name (x.path ++ S)) := by
  refine (with_any x S A ls cs w hx hl hls hs hr).mono ?_
  rintro r w' ⟨v, rfl, hown, hb⟩
  obtain ⟨A2, c2, rfl, hrd, h1, h2⟩ := own_rd strC_len hown
  refine ⟨⟨x.name, A2, c2, x.path ++ S⟩, rfl, rfl, ⟨hrd, hx.wn, ?_, h1, h2⟩, hown, hb⟩
  intro s hs'
  rcases List.mem_append.1 hs' with h | h
  · exact hx.wp s h
  · exact hS s h

def manyB (L : List Pl) : Bool := decide (40 < L.length) || L.any longB
theorem manyB_no {L : List Pl} (h : manyB L = false) : L.length ≤ 40 ∧ ∀ x ∈ L, longB x = false := by
  unfold manyB at h
  rw [Bool.or_eq_false_iff, decide_eq_false_iff_not, List.any_eq_false] at h
  exact ⟨by omega, fun x hx => by simpa using h.2 x hx⟩
set_option maxHeartbeats 800000 in
theorem many_any (A : Option Addr) (len c : Nat) (L : List Pl) (w : World) (hln : L.length = len) (hrd : Rd w w.heap.size 2 plC A L) (hok : ∀ x ∈ L, PlOk w w.heap.size x) (hc : len ≤ c) (hm : c ≤ maxLen) (mb : Bool) (hmb : manyB L = mb) :
    Calls Try.prog 22 #[.slice A len c] w fun r w' => r = .returned (.bool mb) ∧ Below w.heap.size w w' := by
  have hm' : len ≤ 9223372036854775807 := by unfold maxLen at hm; omega
  by_cases h40 : 40 < len
  · have hmt : mb = true := by rw [← hmb]; unfold manyB; rw [hln, decide_eq_true h40]; rfl
    have d : (40 : Int) < (len : Int) := by omega
    subst hmt
    clear hln hrd hok hmb h40
    go_enter Try.func22, Try.ntmps22
    go_wp2
    go_ret
    exact ⟨rfl, Below.refl _ _⟩
  · have d : ¬ (40 : Int) < (len : Int) := by omega
    have H := Lib.hid (PlRow.mk hln hrd hok hc (by omega))
    have HM := Lib.hid (show L.any longB = mb by rw [← hmb]; unfold manyB; rw [hln, decide_eq_false h40]; rfl)
    clear hln hrd hok hmb h40
    go_enter Try.func22, Try.ntmps22
    go_wp2
    go_loopw [3] (fun i wr => ∃ k : Nat, k ≤ len ∧ i = .int .i64 k ∧ (∀ (q : Nat) (y : Pl), q < k → L[q]? = some y → longB y = false) ∧ Below w.heap.size w wr) (fun i _ => len - (intOf i).toNat)
    case atStart => exact ⟨0, by omega, rfl, fun q y hq => by omega, Below.refl _ _⟩
    case round =>
      obtain ⟨k, hk, rfl, hall, hbl⟩ := hrel
      have HA := Lib.hid hall
      have HB := Lib.hid hbl
      clear hall hbl
      by_cases hlt : k < len
      · obtain ⟨x, hx⟩ : ∃ x, L[k]? = some x := ⟨_, List.getElem?_eq_getElem (by rw [H.out.ln]; exact hlt)⟩
        obtain ⟨b, off, hA, hb, c0, c1⟩ := ((H.out.below HB.out).rd).pl hx
        subst hA
        have hki : (k : Int) < (len : Int) := by omega
        have hmem := List.mem_of_getElem? hx
        have hc0 := long_any x wr ((H.out.below HB.out).ok x hmem)
        obtain ⟨b, hpb⟩ : ∃ b, longB x = b := ⟨_, rfl⟩
        rw [hpb] at hc0
        have HC := Lib.hid hc0
        obtain ⟨lx, hlx⟩ : ∃ n, x.path.length = n := ⟨_, rfl⟩
        rw [hlx] at c1 HC
        clear hc0
        cases b
        · have hnx : ∀ (q : Nat) (z : Pl), q < k + 1 → L[q]? = some z → longB z = false := by
            intro q z hq hz
            rcases Nat.lt_or_ge q k with h1 | h1
            · exact HA.out q z h1 hz
            · obtain rfl : q = k := by omega
              rw [hx] at hz; cases hz; exact hpb
          have HN := Lib.hid hnx
          clear hnx hx hpb hmem hlx
          go_wp2_with fail
          refine HC.out.mono ?_
          rintro r w1 ⟨rfl, hb1⟩
          have HB1 := Lib.hid (HB.out.trans (hb1.mono HB.out.size))
          clear hb1
          go_wp2
          go_roundw
          case rel => exact ⟨k + 1, by omega, by go_num, HN.out, HB1.out⟩
          case measure => simp [intOf] <;> omega
        · have HN := Lib.hid (show mb = true by rw [← HM.out]; exact List.any_eq_true.2 ⟨x, hmem, hpb⟩)
          clear hx hpb hmem hlx
          go_wp2_with fail
          refine HC.out.mono ?_
          rintro r w1 ⟨rfl, hb1⟩
          have HB1 := Lib.hid (HB.out.trans (hb1.mono HB.out.size))
          clear hb1
          go_wp2
          go_ret
          exact ⟨by rw [HN.out]; rfl, HB1.out⟩
      · obtain rfl : k = len := by omega
        have HN := Lib.hid (show mb = false by
          rw [← HM.out, List.any_eq_false]
          intro x hx
          obtain ⟨q, hq⟩ := List.mem_iff_getElem?.1 hx
          rw [HA.out q x (by rw [← H.out.ln]; exact (List.getElem?_eq_some_iff.1 hq).1) hq]; simp)
        go_wp2
        go_ret
        exact ⟨by rw [HN.out]; rfl, HB.out⟩

/-! ### SameAll -/
theorem rsame_bool (x y : Pl) {b : Bool} (hb : sameB x.key y.key = b) (w : World) (hx : PlOk w w.heap.size x) (hy : PlOk w w.heap.size y) :
    Calls Try.prog 13 #[.agg #[.string x.name, .slice x.pa x.path.length x.pc], .agg #[.string y.name, .slice y.pa y.path.length y.pc]] w fun r w' => r = .returned (.bool b) ∧ Below w.heap.size w w' := by
  subst hb; exact rsame_any x y w hx hy
theorem same_bool (x y : Pl) {b : Bool} (hb : sameB x.key y.key = b) (w : World) (hx : PlOk w w.heap.size x) (hy : PlOk w w.heap.size y) :
    Calls Try.prog 12 #[.agg #[.string x.name, .slice x.pa x.path.length x.pc], .agg #[.string y.name, .slice y.pa y.path.length y.pc]] w fun r w' => r = .returned (.bool b) ∧ Below w.heap.size w w' := by
  subst hb; exact same_any x y w hx hy

set_option maxHeartbeats 1600000 in
theorem sameAll_any (A A' : Option Addr) (len c c' : Nat) (L M : List Pl) (w : World) (h : PlRow w A len c L) (h' : PlRow w A' len c' M) (he : L.map Pl.key = M.map Pl.key) :
    Calls Try.prog 23 #[.slice A len c, .slice A' len c'] w fun r w' => r = .returned (.bool true) ∧ Below w.heap.size w w' := by
  have H := Lib.hid h
  have H' := Lib.hid h'
  have HE := Lib.hid he
  have hN := h.bg
  clear h h' he
  go_enter Try.func23, Try.ntmps23
  go_wp2
  go_loopw [5] (fun i wr => ∃ k : Nat, k ≤ len ∧ i = .int .i64 k ∧ Below w.heap.size w wr) (fun i _ => len - (intOf i).toNat)
  case atStart => exact ⟨0, by omega, rfl, Below.refl _ _⟩
  case round =>
    obtain ⟨k, hk, rfl, hbl⟩ := hrel
    have HB := Lib.hid hbl
    clear hbl
    by_cases hlt : k < len
    · obtain ⟨x, hx⟩ : ∃ x, L[k]? = some x := ⟨_, List.getElem?_eq_getElem (by rw [H.out.ln]; exact hlt)⟩
      obtain ⟨y, hy⟩ : ∃ y, M[k]? = some y := ⟨_, List.getElem?_eq_getElem (by rw [H'.out.ln]; exact hlt)⟩
      obtain ⟨b, off, hA, hb, c0, c1⟩ := ((H.out.below HB.out).rd).pl hx
      obtain ⟨b', off', hA', hb', c2, c3⟩ := ((H'.out.below HB.out).rd).pl hy
      subst hA hA'
      have hki : (k : Int) < (len : Int) := by omega
      have hk0 : (0 : Int) ≤ (k : Int) := by omega
      have hkey : sameB x.key y.key = true := by
        rw [sameB_iff]
        have h1 : (L.map Pl.key)[k]? = some x.key := by rw [List.getElem?_map, hx]; rfl
        have h2 : (M.map Pl.key)[k]? = some y.key := by rw [List.getElem?_map, hy]; rfl
        rw [HE.out, h2] at h1
        exact (Option.some.inj h1).symm
      have hcc : ∀ (d : Nat) (os : Array Obj), Calls Try.prog 13 #[.agg #[.string x.name, .slice x.pa x.path.length x.pc], .agg #[.string y.name, .slice y.pa y.path.length y.pc]] (Go.Sort.grow (redrawn wr d) os) fun r w' => r = .returned (.bool true) ∧ ∃ p : Regrown, w' = Go.Sort.grow (redrawn wr p.d) p.os := by
        intro d os
        have hb := HB.out.trans ((below_regrown wr d os).mono HB.out.size)
        exact Calls.regrown_of (rsame_bool x y hkey _ ((H.out.below hb).ok x (List.mem_of_getElem? hx)) ((H'.out.below hb).ok y (List.mem_of_getElem? hy)))
      have HC := Lib.hid hcc
      obtain ⟨lx, hlx⟩ : ∃ n, x.path.length = n := ⟨_, rfl⟩
      obtain ⟨ly, hly⟩ : ∃ n, y.path.length = n := ⟨_, rfl⟩
      rw [hlx] at c1 HC
      rw [hly] at c3 HC
      have c0 := cell_regrown c0
      have c1 := cell_regrown c1
      have c2 := cell_regrown c2
      have c3 := cell_regrown c3
      clear hcc hkey hx hy hlx hly
      go_wp2_with fail
      refine wp_region_quiet_below (by kernel_rfl) (by kernel_rfl) ?_
      repeat (first | go_big_quiet_step ((go_at_call 13; exact HC.out _ _)) | quiet_step ((go_at_call 13; exact HC.out _ _)))
      refine wpQuiet_nil ?_
      intro W2 hW2e
      obtain ⟨⟨dq, osq⟩, hW2⟩ := hW2e
      have hbl2 : Below w.heap.size w W2 := by rw [hW2]; exact HB.out.trans ((below_regrown wr dq osq).mono HB.out.size)
      have HBL2 := Lib.hid hbl2
      clear hW2 hbl2
      go_wp2
      go_roundw
      case rel => exact ⟨k + 1, by omega, by go_num, HBL2.out⟩
      case measure => simp [intOf] <;> omega
    · obtain rfl : k = len := by omega
      go_wp2
      go_ret
      exact ⟨rfl, HB.out⟩
end Go.Proofs.Ytnofmnoohnmanaa
