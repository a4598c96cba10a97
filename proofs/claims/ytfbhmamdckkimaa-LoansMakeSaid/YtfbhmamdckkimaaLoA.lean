/- Loans: what a loan is in memory; Many; ContainsFunc at each kind of function. -/
import Derived.Test.YtfbhmamdckkimaaPlK
import Derived.Test.YtfbhmamdckkimaaLoL
namespace Go.Proofs.Ytfbhmamdckkimaa
open Go.RowKit
set_option linter.unusedVariables false
set_option linter.unusedSimpArgs false

structure Lo where
  pl : Pl
  alone : Bool
  till : Int
instance : Inhabited Lo := ⟨⟨default, false, 0⟩⟩
def Lo.key (x : Lo) : LKey := (x.pl.key, x.alone, x.till)
def loC (x : Lo) : List Value := [.string x.pl.name, .slice x.pl.pa x.pl.path.length x.pl.pc, .bool x.alone, .int .i64 x.till]
theorem loC_len (x : Lo) : (loC x).length = 4 := rfl
theorem loC_one (x : Lo) : ∀ u ∈ loC x, u.oneCell' = true := by
  intro u hu; simp [loC] at hu; rcases hu with rfl | rfl | rfl | rfl <;> rfl
structure LoOk (w : World) (x : Lo) : Prop where
  pl : PlOk w w.heap.size x.pl
  wt : (Lit.int .i64 x.till).wf = true
theorem LoOk.next {w w' : World} {x : Lo} (h : LoOk w x) (hb : Below w.heap.size w w') : LoOk w' x := ⟨h.pl.next hb, h.wt⟩
theorem Rd.lo {w : World} {B : Nat} {A : Option Addr} {L : List Lo} (h : Rd w B 4 loC A L) {k : Nat} {x : Lo} (hk : L[k]? = some x) :
    ∃ b off, A = some ⟨b, off, none⟩ ∧ b < B ∧ w.cell? ⟨b, off + k * 4, none⟩ = some (.string x.pl.name) ∧ w.cell? ⟨b, off + k * 4 + 1, none⟩ = some (.slice x.pl.pa x.pl.path.length x.pl.pc) ∧ w.cell? ⟨b, off + k * 4 + 2, none⟩ = some (.bool x.alone) ∧ w.cell? ⟨b, off + k * 4 + 3, none⟩ = some (.int .i64 x.till) := by
  obtain ⟨hl, e⟩ := List.getElem?_eq_some_iff.1 hk
  obtain ⟨b, off, hA, hb, hc⟩ := h.at_ hl
  rw [e] at hc
  exact ⟨b, off, hA, hb, by simpa using hc 0 _ rfl, by simpa using hc 1 _ rfl, by simpa using hc 2 _ rfl, by simpa using hc 3 _ rfl⟩
/-- a row of loans -/
structure LoRow (w : World) (A : Option Addr) (len c : Nat) (L : List Lo) : Prop where
  ln : L.length = len
  rd : Rd w w.heap.size 4 loC A L
  ok : ∀ x ∈ L, LoOk w x
  cp : len ≤ c
  bg : len ≤ 1000000
theorem LoRow.below {w w' : World} {A : Option Addr} {len c : Nat} {L : List Lo} (h : LoRow w A len c L) (hb : Below w.heap.size w w') : LoRow w' A len c L :=
  ⟨h.ln, (h.rd.below hb).more hb.size, fun x hx => (h.ok x hx).next hb, h.cp, h.bg⟩
def AnyAt (b : Bool) (w : World) (r : Ending) (w' : World) : Prop := (∃ z : Int, r = .returned (.int .i64 z) ∧ decide (0 ≤ z) = b) ∧ Below w.heap.size w w'
theorem bl0 {w : World} {g : Nat} {t : TypeId} {a b c d : Value} (h : Blk w g t #[a, b, c, d]) : w.cell? ⟨g, 0, none⟩ = some a := h.cell 0
theorem bl1 {w : World} {g : Nat} {t : TypeId} {a b c d : Value} (h : Blk w g t #[a, b, c, d]) : w.cell? ⟨g, 1, none⟩ = some b := h.cell 1
theorem bl2 {w : World} {g : Nat} {t : TypeId} {a b c d : Value} (h : Blk w g t #[a, b, c, d]) : w.cell? ⟨g, 2, none⟩ = some c := h.cell 2
theorem bl3 {w : World} {g : Nat} {t : TypeId} {a b c d : Value} (h : Blk w g t #[a, b, c, d]) : w.cell? ⟨g, 3, none⟩ = some d := h.cell 3
theorem bo0 {w : World} {g : Nat} {t : TypeId} {a : Value} (h : Blk w g t #[a]) : w.cell? ⟨g, 0, none⟩ = some a := h.cell 0

set_option maxHeartbeats 800000 in
theorem lidx_two (F : Nat) (v1 v2 : Value) (p : Lo → Bool) (A : Option Addr) (len c : Nat) (L : List Lo) (w : World) (h : LoRow w A len c L)
    (hE : ∀ (args : Array Value) (W : World), (callFunc F args).run Try.prog W = .ok (.enter F args) W) (hF : ∀ W, Below w.heap.size w W → ∀ x ∈ L, ∀ b, p x = b → Calls Try.prog F #[.agg #[.string x.pl.name, .slice x.pl.pa x.pl.path.length x.pl.pc, .bool x.alone, .int .i64 x.till], v1, v2] W fun r W' => r = .returned (.bool b) ∧ Below W.heap.size W W') :
    Calls Try.prog 43 #[.slice A len c, .func (.func F) #[] #[v1, v2]] w (AnyAt (L.any p) w) := by
  have HF := Lib.hid hF
  have H := Lib.hid h
  have hN := h.bg
  clear hF h
  go_enter Try.func43, Try.ntmps43
  go_wp2
  go_loopw [8] (fun i wr => ∃ k : Nat, k ≤ len ∧ i = .int .i64 k ∧ (∀ (q : Nat) (y : Lo), q < k → L[q]? = some y → p y = false) ∧ Below w.heap.size w wr) (fun i _ => len - (intOf i).toNat)
  case atStart => exact ⟨0, by omega, rfl, fun q y hq => by omega, Below.refl _ _⟩
  case round =>
    obtain ⟨k, hk, rfl, hall, hbl⟩ := hrel
    have HA := Lib.hid hall
    have HB := Lib.hid hbl
    clear hall hbl
    by_cases hlt : k < len
    · obtain ⟨x, hx⟩ : ∃ x, L[k]? = some x := ⟨_, List.getElem?_eq_getElem (by rw [H.out.ln]; exact hlt)⟩
      obtain ⟨b, off, hA, hb, c0, c1, c2, c3⟩ := ((H.out.below HB.out).rd).lo hx
      subst hA
      have hki : (k : Int) < (len : Int) := by omega
      have hmem := List.mem_of_getElem? hx
      obtain ⟨b, hpb⟩ : ∃ b, p x = b := ⟨_, rfl⟩
      have HC := Lib.hid (HF.out wr HB.out x hmem b hpb)
      obtain ⟨lx, hlx⟩ : ∃ n, x.pl.path.length = n := ⟨_, rfl⟩
      rw [hlx] at c1 HC
      cases b
      · have hnx : ∀ (q : Nat) (z : Lo), q < k + 1 → L[q]? = some z → p z = false := by
          intro q z hq hz
          rcases Nat.lt_or_ge q k with h1 | h1
          · exact HA.out q z h1 hz
          · obtain rfl : q = k := by omega
            rw [hx] at hz; cases hz; exact hpb
        have HN := Lib.hid hnx
        clear hnx hx hpb hmem hlx
        go_wp2_with fail
        refine HC.out.mono ?_
        rintro r w1 ⟨rfl, hb1⟩
        have HB1 := Lib.hid (HB.out.trans (hb1.mono HB.out.size))
        clear hb1
        go_wp2
        go_roundw
        case rel => exact ⟨k + 1, by omega, by go_num, HN.out, HB1.out⟩
        case measure => simp [intOf] <;> omega
      · have HN := Lib.hid (show L.any p = true from List.any_eq_true.2 ⟨x, hmem, hpb⟩)
        clear hx hpb hmem hlx
        go_wp2_with fail
        refine HC.out.mono ?_
        rintro r w1 ⟨rfl, hb1⟩
        have HB1 := Lib.hid (HB.out.trans (hb1.mono HB.out.size))
        clear hb1
        go_wp2
        go_ret
        exact ⟨⟨_, rfl, by rw [HN.out]; simp⟩, HB1.out⟩
    · obtain rfl : k = len := by omega
      have HN := Lib.hid (show L.any p = false by
        rw [List.any_eq_false]
        intro x hx
        obtain ⟨q, hq⟩ := List.mem_iff_getElem?.1 hx
        rw [HA.out q x (by rw [← H.out.ln]; exact (List.getElem?_eq_some_iff.1 hq).1) hq]; simp)
      go_wp2
      go_ret
      exact ⟨⟨_, rfl, by rw [HN.out]; rfl⟩, HB.out⟩
theorem lhas_two (F : Nat) (v1 v2 : Value) (p : Lo → Bool) (A : Option Addr) (len c : Nat) (L : List Lo) (w : World) (h : LoRow w A len c L) (b : Bool) (hb : L.any p = b)
    (hE : ∀ (args : Array Value) (W : World), (callFunc F args).run Try.prog W = .ok (.enter F args) W) (hF : ∀ W, Below w.heap.size w W → ∀ x ∈ L, ∀ b, p x = b → Calls Try.prog F #[.agg #[.string x.pl.name, .slice x.pl.pa x.pl.path.length x.pl.pc, .bool x.alone, .int .i64 x.till], v1, v2] W fun r W' => r = .returned (.bool b) ∧ Below W.heap.size W W') :
    Calls Try.prog 30 #[.slice A len c, .func (.func F) #[] #[v1, v2]] w fun r w' => r = .returned (.bool b) ∧ Below w.heap.size w w' := by
  have HI := Lib.hid (lidx_two F v1 v2 p A len c L w h hE hF)
  rw [hb] at HI
  clear h hE hF hb
  go_enter Try.func30, Try.ntmps30
  go_wp2_with fail
  refine HI.out.mono ?_
  rintro r w1 ⟨⟨z, rfl, hz⟩, hb1⟩
  have HZ := Lib.hid hz
  have HB1 := Lib.hid hb1
  clear hz hb1
  go_wp2
  go_ret
  exact ⟨by rw [← HZ.out]; rfl, HB1.out⟩

set_option maxHeartbeats 800000 in
theorem lidx_cap (F : Nat) (v1 : Value) (p : Lo → Bool) (A : Option Addr) (len c : Nat) (L : List Lo) (w : World) (h : LoRow w A len c L)
    (hE : ∀ (args : Array Value) (W : World), (callFunc F args).run Try.prog W = .ok (.enter F args) W) (hF : ∀ W, Below w.heap.size w W → ∀ x ∈ L, ∀ b, p x = b → Calls Try.prog F #[.agg #[.string x.pl.name, .slice x.pl.pa x.pl.path.length x.pl.pc, .bool x.alone, .int .i64 x.till], v1] W fun r W' => r = .returned (.bool b) ∧ Below W.heap.size W W') :
    Calls Try.prog 43 #[.slice A len c, .func (.func F) #[] #[v1]] w (AnyAt (L.any p) w) := by
  have HF := Lib.hid hF
  have H := Lib.hid h
  have hN := h.bg
  clear hF h
  go_enter Try.func43, Try.ntmps43
  go_wp2
  go_loopw [8] (fun i wr => ∃ k : Nat, k ≤ len ∧ i = .int .i64 k ∧ (∀ (q : Nat) (y : Lo), q < k → L[q]? = some y → p y = false) ∧ Below w.heap.size w wr) (fun i _ => len - (intOf i).toNat)
  case atStart => exact ⟨0, by omega, rfl, fun q y hq => by omega, Below.refl _ _⟩
  case round =>
    obtain ⟨k, hk, rfl, hall, hbl⟩ := hrel
    have HA := Lib.hid hall
    have HB := Lib.hid hbl
    clear hall hbl
    by_cases hlt : k < len
    · obtain ⟨x, hx⟩ : ∃ x, L[k]? = some x := ⟨_, List.getElem?_eq_getElem (by rw [H.out.ln]; exact hlt)⟩
      obtain ⟨b, off, hA, hb, c0, c1, c2, c3⟩ := ((H.out.below HB.out).rd).lo hx
      subst hA
      have hki : (k : Int) < (len : Int) := by omega
      have hmem := List.mem_of_getElem? hx
      obtain ⟨b, hpb⟩ : ∃ b, p x = b := ⟨_, rfl⟩
      have HC := Lib.hid (HF.out wr HB.out x hmem b hpb)
      obtain ⟨lx, hlx⟩ : ∃ n, x.pl.path.length = n := ⟨_, rfl⟩
      rw [hlx] at c1 HC
      cases b
      · have hnx : ∀ (q : Nat) (z : Lo), q < k + 1 → L[q]? = some z → p z = false := by
          intro q z hq hz
          rcases Nat.lt_or_ge q k with h1 | h1
          · exact HA.out q z h1 hz
          · obtain rfl : q = k := by omega
            rw [hx] at hz; cases hz; exact hpb
        have HN := Lib.hid hnx
        clear hnx hx hpb hmem hlx
        go_wp2_with fail
        refine HC.out.mono ?_
        rintro r w1 ⟨rfl, hb1⟩
        have HB1 := Lib.hid (HB.out.trans (hb1.mono HB.out.size))
        clear hb1
        go_wp2
        go_roundw
        case rel => exact ⟨k + 1, by omega, by go_num, HN.out, HB1.out⟩
        case measure => simp [intOf] <;> omega
      · have HN := Lib.hid (show L.any p = true from List.any_eq_true.2 ⟨x, hmem, hpb⟩)
        clear hx hpb hmem hlx
        go_wp2_with fail
        refine HC.out.mono ?_
        rintro r w1 ⟨rfl, hb1⟩
        have HB1 := Lib.hid (HB.out.trans (hb1.mono HB.out.size))
        clear hb1
        go_wp2
        go_ret
        exact ⟨⟨_, rfl, by rw [HN.out]; simp⟩, HB1.out⟩
    · obtain rfl : k = len := by omega
      have HN := Lib.hid (show L.any p = false by
        rw [List.any_eq_false]
        intro x hx
        obtain ⟨q, hq⟩ := List.mem_iff_getElem?.1 hx
        rw [HA.out q x (by rw [← H.out.ln]; exact (List.getElem?_eq_some_iff.1 hq).1) hq]; simp)
      go_wp2
      go_ret
      exact ⟨⟨_, rfl, by rw [HN.out]; rfl⟩, HB.out⟩
theorem lhas_cap (F : Nat) (v1 : Value) (p : Lo → Bool) (A : Option Addr) (len c : Nat) (L : List Lo) (w : World) (h : LoRow w A len c L) (b : Bool) (hb : L.any p = b)
    (hE : ∀ (args : Array Value) (W : World), (callFunc F args).run Try.prog W = .ok (.enter F args) W) (hF : ∀ W, Below w.heap.size w W → ∀ x ∈ L, ∀ b, p x = b → Calls Try.prog F #[.agg #[.string x.pl.name, .slice x.pl.pa x.pl.path.length x.pl.pc, .bool x.alone, .int .i64 x.till], v1] W fun r W' => r = .returned (.bool b) ∧ Below W.heap.size W W') :
    Calls Try.prog 30 #[.slice A len c, .func (.func F) #[] #[v1]] w fun r w' => r = .returned (.bool b) ∧ Below w.heap.size w w' := by
  have HI := Lib.hid (lidx_cap F v1 p A len c L w h hE hF)
  rw [hb] at HI
  clear h hE hF hb
  go_enter Try.func30, Try.ntmps30
  go_wp2_with fail
  refine HI.out.mono ?_
  rintro r w1 ⟨⟨z, rfl, hz⟩, hb1⟩
  have HZ := Lib.hid hz
  have HB1 := Lib.hid hb1
  clear hz hb1
  go_wp2
  go_ret
  exact ⟨by rw [← HZ.out]; rfl, HB1.out⟩

set_option maxHeartbeats 800000 in
theorem lidx_rec (F : Nat) (v1 : Value) (p : Lo → Bool) (A : Option Addr) (len c : Nat) (L : List Lo) (w : World) (h : LoRow w A len c L)
    (hE : ∀ (args : Array Value) (W : World), (callFunc F args).run Try.prog W = .ok (.enter F args) W) (hF : ∀ W, Below w.heap.size w W → ∀ x ∈ L, ∀ b, p x = b → Calls Try.prog F #[v1, .agg #[.string x.pl.name, .slice x.pl.pa x.pl.path.length x.pl.pc, .bool x.alone, .int .i64 x.till]] W fun r W' => r = .returned (.bool b) ∧ Below W.heap.size W W') :
    Calls Try.prog 43 #[.slice A len c, .func (.func F) #[v1] #[]] w (AnyAt (L.any p) w) := by
  have HF := Lib.hid hF
  have H := Lib.hid h
  have hN := h.bg
  clear hF h
  go_enter Try.func43, Try.ntmps43
  go_wp2
  go_loopw [8] (fun i wr => ∃ k : Nat, k ≤ len ∧ i = .int .i64 k ∧ (∀ (q : Nat) (y : Lo), q < k → L[q]? = some y → p y = false) ∧ Below w.heap.size w wr) (fun i _ => len - (intOf i).toNat)
  case atStart => exact ⟨0, by omega, rfl, fun q y hq => by omega, Below.refl _ _⟩
  case round =>
    obtain ⟨k, hk, rfl, hall, hbl⟩ := hrel
    have HA := Lib.hid hall
    have HB := Lib.hid hbl
    clear hall hbl
    by_cases hlt : k < len
    · obtain ⟨x, hx⟩ : ∃ x, L[k]? = some x := ⟨_, List.getElem?_eq_getElem (by rw [H.out.ln]; exact hlt)⟩
      obtain ⟨b, off, hA, hb, c0, c1, c2, c3⟩ := ((H.out.below HB.out).rd).lo hx
      subst hA
      have hki : (k : Int) < (len : Int) := by omega
      have hmem := List.mem_of_getElem? hx
      obtain ⟨b, hpb⟩ : ∃ b, p x = b := ⟨_, rfl⟩
      have HC := Lib.hid (HF.out wr HB.out x hmem b hpb)
      obtain ⟨lx, hlx⟩ : ∃ n, x.pl.path.length = n := ⟨_, rfl⟩
      rw [hlx] at c1 HC
      cases b
      · have hnx : ∀ (q : Nat) (z : Lo), q < k + 1 → L[q]? = some z → p z = false := by
          intro q z hq hz
          rcases Nat.lt_or_ge q k with h1 | h1
          · exact HA.out q z h1 hz
          · obtain rfl : q = k := by omega
            rw [hx] at hz; cases hz; exact hpb
        have HN := Lib.hid hnx
        clear hnx hx hpb hmem hlx
        go_wp2_with fail
        refine HC.out.mono ?_
        rintro r w1 ⟨rfl, hb1⟩
        have HB1 := Lib.hid (HB.out.trans (hb1.mono HB.out.size))
        clear hb1
        go_wp2
        go_roundw
        case rel => exact ⟨k + 1, by omega, by go_num, HN.out, HB1.out⟩
        case measure => simp [intOf] <;> omega
      · have HN := Lib.hid (show L.any p = true from List.any_eq_true.2 ⟨x, hmem, hpb⟩)
        clear hx hpb hmem hlx
        go_wp2_with fail
        refine HC.out.mono ?_
        rintro r w1 ⟨rfl, hb1⟩
        have HB1 := Lib.hid (HB.out.trans (hb1.mono HB.out.size))
        clear hb1
        go_wp2
        go_ret
        exact ⟨⟨_, rfl, by rw [HN.out]; simp⟩, HB1.out⟩
    · obtain rfl : k = len := by omega
      have HN := Lib.hid (show L.any p = false by
        rw [List.any_eq_false]
        intro x hx
        obtain ⟨q, hq⟩ := List.mem_iff_getElem?.1 hx
        rw [HA.out q x (by rw [← H.out.ln]; exact (List.getElem?_eq_some_iff.1 hq).1) hq]; simp)
      go_wp2
      go_ret
      exact ⟨⟨_, rfl, by rw [HN.out]; rfl⟩, HB.out⟩
theorem lhas_rec (F : Nat) (v1 : Value) (p : Lo → Bool) (A : Option Addr) (len c : Nat) (L : List Lo) (w : World) (h : LoRow w A len c L) (b : Bool) (hb : L.any p = b)
    (hE : ∀ (args : Array Value) (W : World), (callFunc F args).run Try.prog W = .ok (.enter F args) W) (hF : ∀ W, Below w.heap.size w W → ∀ x ∈ L, ∀ b, p x = b → Calls Try.prog F #[v1, .agg #[.string x.pl.name, .slice x.pl.pa x.pl.path.length x.pl.pc, .bool x.alone, .int .i64 x.till]] W fun r W' => r = .returned (.bool b) ∧ Below W.heap.size W W') :
    Calls Try.prog 30 #[.slice A len c, .func (.func F) #[v1] #[]] w fun r w' => r = .returned (.bool b) ∧ Below w.heap.size w w' := by
  have HI := Lib.hid (lidx_rec F v1 p A len c L w h hE hF)
  rw [hb] at HI
  clear h hE hF hb
  go_enter Try.func30, Try.ntmps30
  go_wp2_with fail
  refine HI.out.mono ?_
  rintro r w1 ⟨⟨z, rfl, hz⟩, hb1⟩
  have HZ := Lib.hid hz
  have HB1 := Lib.hid hb1
  clear hz hb1
  go_wp2
  go_ret
  exact ⟨by rw [← HZ.out]; rfl, HB1.out⟩

def manyB (L : List Lo) : Bool := decide (40 < L.length) || L.any (fun x => longB x.pl)
theorem manyB_no {L : List Lo} (h : manyB L = false) : L.length ≤ 40 ∧ ∀ x ∈ L, longB x.pl = false := by
  unfold manyB at h
  rw [Bool.or_eq_false_iff, decide_eq_false_iff_not, List.any_eq_false] at h
  exact ⟨by omega, fun x hx => by simpa using h.2 x hx⟩
set_option maxHeartbeats 800000 in
theorem many_any (A : Option Addr) (len c : Nat) (L : List Lo) (w : World) (hln : L.length = len) (hrd : Rd w w.heap.size 4 loC A L) (hok : ∀ x ∈ L, LoOk w x) (hc : len ≤ c) (hm : c ≤ maxLen) (mb : Bool) (hmb : manyB L = mb) :
    Calls Try.prog 10 #[.slice A len c] w fun r w' => r = .returned (.bool mb) ∧ Below w.heap.size w w' := by
  have hm' : len ≤ 9223372036854775807 := by unfold maxLen at hm; omega
  by_cases h40 : 40 < len
  · have hmt : mb = true := by rw [← hmb]; unfold manyB; rw [hln, decide_eq_true h40]; rfl
    have d : (40 : Int) < (len : Int) := by omega
    subst hmt
    clear hln hrd hok hmb h40
    go_enter Try.func10, Try.ntmps10
    go_wp2
    go_ret
    exact ⟨rfl, Below.refl _ _⟩
  · have d : ¬ (40 : Int) < (len : Int) := by omega
    have H := Lib.hid (LoRow.mk hln hrd hok hc (by omega))
    have HM := Lib.hid (show L.any (fun x => longB x.pl) = mb by rw [← hmb]; unfold manyB; rw [hln, decide_eq_false h40]; rfl)
    clear hln hrd hok hmb h40
    go_enter Try.func10, Try.ntmps10
    go_wp2
    go_loopw [3] (fun i wr => ∃ k : Nat, k ≤ len ∧ i = .int .i64 k ∧ (∀ (q : Nat) (y : Lo), q < k → L[q]? = some y → longB y.pl = false) ∧ Below w.heap.size w wr) (fun i _ => len - (intOf i).toNat)
    case atStart => exact ⟨0, by omega, rfl, fun q y hq => by omega, Below.refl _ _⟩
    case round =>
      obtain ⟨k, hk, rfl, hall, hbl⟩ := hrel
      have HA := Lib.hid hall
      have HB := Lib.hid hbl
      clear hall hbl
      by_cases hlt : k < len
      · obtain ⟨x, hx⟩ : ∃ x, L[k]? = some x := ⟨_, List.getElem?_eq_getElem (by rw [H.out.ln]; exact hlt)⟩
        obtain ⟨b, off, hA, hb, c0, c1, c2, c3⟩ := ((H.out.below HB.out).rd).lo hx
        subst hA
        have hki : (k : Int) < (len : Int) := by omega
        have hmem := List.mem_of_getElem? hx
        have hc0 := long_any x.pl wr ((H.out.below HB.out).ok x hmem).pl
        obtain ⟨b, hpb⟩ : ∃ b, longB x.pl = b := ⟨_, rfl⟩
        rw [hpb] at hc0
        have HC := Lib.hid hc0
        obtain ⟨lx, hlx⟩ : ∃ n, x.pl.path.length = n := ⟨_, rfl⟩
        rw [hlx] at c1 HC
        clear hc0
        cases b
        · have hnx : ∀ (q : Nat) (z : Lo), q < k + 1 → L[q]? = some z → longB z.pl = false := by
            intro q z hq hz
            rcases Nat.lt_or_ge q k with h1 | h1
            · exact HA.out q z h1 hz
            · obtain rfl : q = k := by omega
              rw [hx] at hz; cases hz; exact hpb
          have HN := Lib.hid hnx
          clear hnx hx hpb hmem hlx
          go_wp2_with fail
          refine HC.out.mono ?_
          rintro r w1 ⟨rfl, hb1⟩
          have HB1 := Lib.hid (HB.out.trans (hb1.mono HB.out.size))
          clear hb1
          go_wp2
          go_roundw
          case rel => exact ⟨k + 1, by omega, by go_num, HN.out, HB1.out⟩
          case measure => simp [intOf] <;> omega
        · have HN := Lib.hid (show mb = true by rw [← HM.out]; exact List.any_eq_true.2 ⟨x, hmem, hpb⟩)
          clear hx hpb hmem hlx
          go_wp2_with fail
          refine HC.out.mono ?_
          rintro r w1 ⟨rfl, hb1⟩
          have HB1 := Lib.hid (HB.out.trans (hb1.mono HB.out.size))
          clear hb1
          go_wp2
          go_ret
          exact ⟨by rw [HN.out]; rfl, HB1.out⟩
      · obtain rfl : k = len := by omega
        have HN := Lib.hid (show mb = false by
          rw [← HM.out, List.any_eq_false]
          intro x hx
          obtain ⟨q, hq⟩ := List.mem_iff_getElem?.1 hx
          rw [HA.out q x (by rw [← H.out.ln]; exact (List.getElem?_eq_some_iff.1 hq).1) hq]; simp)
        go_wp2
        go_ret
        exact ⟨by rw [HN.out]; rfl, HB.out⟩

end Go.Proofs.Ytfbhmamdckkimaa
