/- Sets: what a row of names is in memory; contracts of Clone, Sort, Compact on rows of one's own; Of; Has. -/
import Derived.Test.YtfdgbegoaaihoaaChecked
import Derived.Test.YtfdgbegoaaihoaaApp2
import Derived.Test.YtfdgbegoaaihoaaSeL
import Derived.Test.YtfdgbegoaaihoaaShelf
import Derived.Deep.RegionHeld3
import Derived.Deep.RegionWith
import Derived.Lib.QuietBelow
import Derived.Lib.OwnBridge
import Derived.LoopTactic
import Derived.Outline
import Derived.WalkSpells
namespace Go.Proofs.Ytfdgbegoaaihoaa
open Go.RowKit
set_option linter.unusedVariables false
set_option linter.unusedSimpArgs false

def enc (s : Bs) : ByteArray := ⟨s.toArray⟩
theorem enc_tl (s : Bs) : (enc s).toList = s := by simp [enc, ByteArray.toList_eq]
theorem enc_size (s : Bs) : (enc s).size = s.length := rfl
theorem enc_eq (x y : Bs) : ((enc x).toList == (enc y).toList) = decide (x = y) := by rw [enc_tl, enc_tl, Bool.eq_iff_iff, beq_iff_eq, decide_eq_true_iff]
theorem enc_lt (x y : Bs) : Op.bytesLess (enc x).toList (enc y).toList = decide (x < y) := by rw [enc_tl, enc_tl]; exact bytesLess_eq x y
def sC (s : Bs) : List Value := [.string (enc s)]
theorem sC_len (s : Bs) : (sC s).length = 1 := rfl
theorem sC_one (s : Bs) : ∀ u ∈ sC s, u.oneCell' = true := by intro u hu; simp [sC] at hu; subst hu; rfl
theorem flat_sC (L : List Bs) : L.flatMap sC = L.map encStr := by
  induction L with
  | nil => rfl
  | cons x L ih => rw [List.flatMap_cons, ih]; rfl
theorem infoS : (Try.prog.info? 9).map (fun i => (i.zero, i.size, i.bytes)) = some (some (.string ByteArray.empty), 1, 16) := by kernel_rfl
theorem Rd.str {w : World} {B : Nat} {A : Option Addr} {L : List Bs} (h : Rd w B 1 sC A L) {k : Nat} (hk : k < L.length) :
    ∃ b off x, L[k]? = some x ∧ A = some ⟨b, off, none⟩ ∧ b < B ∧ w.cell? ⟨b, off + k, none⟩ = some (.string (enc x)) := by
  obtain ⟨b, off, hA, hb, hc⟩ := h.at_ hk
  exact ⟨b, off, L[k], List.getElem?_eq_getElem hk, hA, hb, by simpa using hc 0 _ rfl⟩
theorem cell_of_below {w W : World} {B : Nat} (h : Below B w W) {g o : Nat} (hg : g < B) {v : Value} (hc : w.cell? ⟨g, o, none⟩ = some v) : W.cell? ⟨g, o, none⟩ = some v := (h.cell (p := ⟨g, o, none⟩) hg).trans hc
theorem own_mono {w : World} {base base' : Nat} {e : TypeId} {size : Nat} {v : Value} {n : Nat} {xs : List Value} (h : w.ownsRow base e size v n xs) (hb : base' ≤ base) : w.ownsRow base' e size v n xs := by
  refine ⟨h.1, ?_⟩
  rcases h.2 with h2 | ⟨g, cap, cur, a, b, r⟩
  · exact .inl h2
  · exact .inr ⟨g, cap, cur, a, Nat.le_trans hb b, r⟩
theorem own_far2 {W : World} {base : Nat} {e : TypeId} {size : Nat} {v : Value} {k : Nat} {xs : List Value} {p : Addr} (h : W.ownsRow base e size v k xs) (hp : p.block < base) (u : Value) : (W.setCell p u).ownsRow base e size v k xs :=
  h.kept (row := some p.block) ⟨rfl, rfl, rfl, by simp [World.setCell], fun k _ hk => Below.heap_setCell _ _ _ k (fun e => hk (by rw [e]))⟩ (by
    cases hb : v.ownBlock with
    | none => exact .inl rfl
    | some g => exact .inr (fun e => by have := (h.lt g hb).1; cases e; omega))
theorem grown_of_below {w w' : World} (h : Below w.heap.size w w') (row : Option Nat) : w.grownBy w' row := ⟨h.os, h.tape, h.output, h.size, fun k hk _ => h.block k hk⟩
theorem own_below {w w' : World} {B : Nat} {e : TypeId} {s n : Nat} {v : Value} {xs : List Value} (h : w.ownsRow B e s v n xs) (hb : Below w.heap.size w w') : w'.ownsRow B e s v n xs :=
  h.kept (row := none) (grown_of_below hb none) (by
    cases hv : v.ownBlock with
    | none => exact .inl rfl
    | some _ => exact .inr (by simp))
theorem bel_drewN {w : World} {B : Nat} {W : World} (h : Below B w W) (n : Nat) : Below B w (W.drewN n) := below_drewN h n
theorem below_grow {w w0 : World} {B : Nat} (h : Below B w0 w) (hB : B ≤ w.heap.size) (os : Array Obj) : Below B w0 (Sort.grow w os) :=
  ⟨h.os, h.tape, h.output, by rw [Sort.size_grow]; exact Nat.le_trans h.size (Nat.le_add_right _ _), fun k hk => (Sort.heap_grow_old w os (Nat.lt_of_lt_of_le hk hB)).trans (h.block k hk)⟩
theorem own_grow {w : World} {B : Nat} {e : TypeId} {s n : Nat} {v : Value} {xs : List Value} (h : w.ownsRow B e s v n xs) (os : Array Obj) : (Sort.grow w os).ownsRow B e s v n xs :=
  own_below h (below_grow (Below.refl _ _) (Nat.le_refl _) os)

/-! ### a row of names -/
structure Nm where
  pa : Option Addr
  pc : Nat
  row : List Bs
instance : Inhabited Nm := ⟨⟨none, 0, []⟩⟩
abbrev Nm.v (x : Nm) (n : Nat) : Value := .slice x.pa n x.pc
structure NmOk (w : World) (x : Nm) (n : Nat) : Prop where
  rd : Rd w w.heap.size 1 sC x.pa x.row
  ln : x.row.length = n
  cap : n ≤ x.pc
  big : x.pc ≤ maxLen
theorem NmOk.next {w w' : World} {x : Nm} {n : Nat} (h : NmOk w x n) (hb : Below w.heap.size w w') : NmOk w' x n := ⟨(h.rd.below hb).more hb.size, h.ln, h.cap, h.big⟩
structure NmOwn (w : World) (B : Nat) (x : Nm) (n : Nat) : Prop where
  own : w.ownsRow B 9 1 (.slice x.pa n x.pc) n (x.row.flatMap sC)
  ln : x.row.length = n
theorem own_len {w : World} {B e : Nat} {v : Value} {n : Nat} {L : List Bs} (h : w.ownsRow B e 1 v n (L.flatMap sC)) : L.length = n := by
  have := h.1
  rw [flat_len sC_len, Nat.mul_one, Nat.mul_one] at this
  exact this
theorem NmOwn.ok {w : World} {B : Nat} {x : Nm} {n : Nat} (h : NmOwn w B x n) : NmOk w x n := by
  have ho := h.own
  have hl := h.ln
  subst hl
  obtain ⟨A2, c2, e, hrd, h1, h2⟩ := own_rd sC_len ho
  injection e with e1 e2 e3
  subst e1 e3
  exact ⟨hrd, rfl, h1, h2⟩
theorem NmOwn.next {w w' : World} {B : Nat} {x : Nm} {n : Nat} (h : NmOwn w B x n) (hb : Below w.heap.size w w') : NmOwn w' B x n := ⟨own_below h.own hb, h.ln⟩
theorem NmOwn.less {w : World} {B B' : Nat} {x : Nm} {n : Nat} (h : NmOwn w B x n) (hb : B' ≤ B) : NmOwn w B' x n := ⟨own_mono h.own hb, h.ln⟩
theorem NmOwn.of {w : World} {B : Nat} {v : Value} {n : Nat} {L : List Bs} (h : w.ownsRow B 9 1 v n (L.flatMap sC)) : ∃ x : Nm, v = .slice x.pa n x.pc ∧ x.row = L ∧ NmOwn w B x n := by
  obtain ⟨A, c, rfl⟩ := own_slice h
  exact ⟨⟨A, c, L⟩, rfl, rfl, h, own_len h⟩
/-- a row of names is told, in memory of its own -/
def NmMade (w : World) (L : List Bs) (r : Ending) (w' : World) : Prop :=
  ∃ (x : Nm) (n : Nat), r = .returned (.slice x.pa n x.pc) ∧ x.row = L ∧ NmOwn w' w.heap.size x n ∧ Below w.heap.size w w'

set_option maxHeartbeats 800000 in
theorem clone_any (A : Option Addr) (len c : Nat) (L : List Bs) (w : World) (hl : L.length = len) (hm : len ≤ 1000000) (h : Rd w w.heap.size 1 sC A L) :
    Calls Try.prog 30 #[.slice A len c] w fun r w' => ∃ v, r = .returned v ∧ w'.ownsRow w.heap.size 9 1 v len (L.flatMap sC) ∧ Below w.heap.size w w' := by
  obtain ⟨i0, hi0, hz0, hz1, hz2⟩ := info_parts infoS
  have q22 : ∀ (w : World) (a : Option Addr) (n c n' c' : Nat), (binOp .eql 22 (.slice a n c) (.slice none n' c')).run Try.prog w = .ok (.bool a.isNone) w := fun w a n c n' c' => Lib.run_eql_slice_nil w _ _ a n c n' c' Try.underlying22
  rcases A with _ | ad
  · have hnil : L = [] := by
      rcases h with h | ⟨b, off, h, _⟩
      · exact h
      · cases h
    subst hnil
    obtain rfl : len = 0 := by simpa using hl.symm
    clear h hl
    go_enter Try.func30, Try.ntmps30
    go_wp2
    go_ret
    exact ⟨_, rfl, World.ownsRow_nil _ _ _ _, Below.refl _ _⟩
  · have H := Lib.hid h
    have HL := Lib.hid hl
    have hown0 := World.ownsRow_lit (base := w.heap.size) (e := 9) (size := 1) w #[] 0 (Nat.le_refl _) (by unfold maxLen; omega) rfl
    have HO := Lib.hid hown0
    clear h hl hown0
    go_enter Try.func30, Try.ntmps30
    go_wp2_with (at_builtin; refine wpList_append_rd _ rfl _ _ 22 rfl w.heap.size 9 i0 (.string ByteArray.empty) 1 16 Try.underlying22 hi0 hz0 hz1 hz2 rfl (by decide) _ 0 _ rfl HO.out w.heap.size _ len c sC sC_len sC_one L HL.out rfl (H.out.alloc (Nat.le_refl _) _) (by unfold maxLen; omega) (by omega) (by simp) ?_; intro v2 w2 hown2 hg2 _)
    have HO2 := Lib.hid hown2
    have HB2 := Lib.hid (((Below.refl w.heap.size w).alloc (Nat.le_refl _) (.cells #[] 9)).grown hg2 (by simp) (fun k hk => by cases hk; exact Nat.le_refl _))
    clear hown2 hg2
    go_wp2
    go_ret
    exact ⟨_, rfl, by simpa using HO2.out, HB2.out⟩

/-- slices.Sort on a row of one's own -/
theorem sort_own (v : Value) (n B : Nat) (L : List Bs) (w : World) (h : w.ownsRow B 9 1 v n (L.flatMap sC)) (hm : n ≤ 1000000) :
    Calls Try.prog 31 #[v] w fun r w' => r = .returned (.tuple #[]) ∧ w'.ownsRow B 9 1 v n ((sortS L).flatMap sC) ∧ Below B w w' ∧ w.heap.size ≤ w'.heap.size := by
  have hl := own_len h
  have hBw : ∀ k, v.ownBlock = some k → B ≤ k := fun k hk => (h.lt k hk).1
  rw [flat_sC] at h
  by_cases hv : v = .slice none 0 0
  · subst hv
    have h0 : n = 0 := by
      rcases h.2 with ⟨_, h0⟩ | ⟨g, cap, cur, e, _⟩
      · exact h0
      · cases e
    subst h0
    obtain rfl : L = [] := List.eq_nil_of_length_eq_zero hl
    refine (Try.slices_Sort_string_none none 0 w).mono ?_
    rintro r w' ⟨rfl, rfl⟩
    exact ⟨rfl, by simpa [sortS] using h, Below.refl _ _, Nat.le_refl _⟩
  · obtain ⟨g, cap, rfl, hb, hlt, hn, hcm, _, hH⟩ := Lib.holds_of_ownsRow h hv
    subst hl
    refine (Try.slices_Sort_string g 0 cap L w hH hlt (by omega)).mono ?_
    rintro r w' ⟨rfl, q, os, rfl⟩
    have h1 := Lib.ownsRow_putRow (q := q) (k := L.length) (ys := sortS L) h (sortS_len L) (Nat.le_refl _)
    rw [List.take_of_length_le (by rw [sortS_len]; exact Nat.le_refl _)] at h1
    have h2 : Below B w (Sort.putRow encStr (Sort.ahead w q) g 0 (sortS L).toArray) := Lib.below_putRow (Below.refl _ _) hb
    have hsz : w.heap.size ≤ (Sort.putRow encStr (Sort.ahead w q) g 0 (sortS L).toArray).heap.size := h2.size
    refine ⟨rfl, ?_, below_grow h2 (by omega) os, ?_⟩
    · rw [flat_sC]; exact own_grow h1 os
    · show _ ≤ (Sort.grow (Sort.putRow encStr (Sort.ahead w q) g 0 (sortS L).toArray) os).heap.size
      rw [Sort.size_grow]; omega
/-- slices.Compact on a row of one's own -/
theorem compact_own (v : Value) (n B : Nat) (L : List Bs) (w : World) (h : w.ownsRow B 9 1 v n (L.flatMap sC)) (hm : n ≤ 1000000) :
    Calls Try.prog 32 #[v] w fun r w' => ∃ v' n', r = .returned v' ∧ w'.ownsRow B 9 1 v' n' ((Lib.compact L).flatMap sC) ∧ Below B w w' ∧ w.heap.size ≤ w'.heap.size := by
  have hl := own_len h
  rw [flat_sC] at h
  by_cases hv : v = .slice none 0 0
  · subst hv
    have h0 : n = 0 := by
      rcases h.2 with ⟨_, h0⟩ | ⟨g, cap, cur, e, _⟩
      · exact h0
      · cases e
    subst h0
    obtain rfl : L = [] := List.eq_nil_of_length_eq_zero hl
    refine (Try.slices_Compact_string_empty none 0 w).mono ?_
    rintro r w' ⟨rfl, rfl⟩
    exact ⟨_, 0, rfl, by simpa [Lib.compact, Lib.compactUpTo] using h, Below.refl _ _, Nat.le_refl _⟩
  · obtain ⟨g, cap, rfl, hb, hlt, hn, hcm, _, hH⟩ := Lib.holds_of_ownsRow h hv
    subst hl
    have hle : (Lib.compact L).length ≤ L.length := by
      unfold Lib.compact Lib.compactUpTo
      rw [List.length_map]
      refine Nat.le_trans (List.length_filter_le _ _) ?_
      simp
    refine (Try.slices_Compact_string g 0 cap L w hH (by omega) hn).mono ?_
    rintro r w' ⟨rfl, q, rfl⟩
    have h1 := Lib.ownsRow_putRow (q := q) (k := (Lib.compact L).length) (ys := Lib.compact L ++ List.replicate (L.length - (Lib.compact L).length) []) h (by simp; omega) hle
    rw [List.take_append_of_le_length (Nat.le_refl _), List.take_length] at h1
    have h2 : Below B w (Sort.putRow encStr (Sort.ahead w q) g 0 (Lib.compact L ++ List.replicate (L.length - (Lib.compact L).length) []).toArray) := Lib.below_putRow (Below.refl _ _) hb
    exact ⟨_, _, rfl, by rw [flat_sC]; exact h1, h2, h2.size⟩

set_option maxHeartbeats 800000 in
theorem of_any (x : Nm) (n : Nat) (w : World) (hx : NmOk w x n) (hm : n ≤ 1000000) :
    Calls Try.prog 22 #[.slice x.pa n x.pc] w (NmMade w (setS x.row)) := by
  have HE := Lib.hid (clone_any x.pa n x.pc x.row w hx.ln hm hx.rd)
  clear hx
  go_enter Try.func22, Try.ntmps22
  go_wp2_with fail
  refine HE.out.mono ?_
  rintro r w1 ⟨v1, rfl, hown1, hb1⟩
  obtain ⟨A1, c1, rfl⟩ := own_slice hown1
  have HS := Lib.hid (sort_own _ n w.heap.size x.row w1 hown1 hm)
  have HB1 := Lib.hid hb1
  clear hown1 hb1
  go_wp2_with fail
  refine HS.out.mono ?_
  rintro r w2 ⟨rfl, hown2, hb2, hs2⟩
  have HC := Lib.hid (compact_own _ n w.heap.size (sortS x.row) w2 hown2 hm)
  have HB2 := Lib.hid (HB1.out.trans hb2)
  clear hown2 hb2 hs2
  go_wp2_with fail
  refine HC.out.mono ?_
  rintro r w3 ⟨v3, n3, rfl, hown3, hb3, hs3⟩
  obtain ⟨y, rfl, hy, ho⟩ := NmOwn.of hown3
  have HB3 := Lib.hid (HB2.out.trans hb3)
  have HO := Lib.hid ho
  have HY := Lib.hid hy
  clear hown3 hb3 hs3 ho hy
  go_wp2
  go_ret
  exact ⟨y, n3, rfl, HY.out, HO.out, HB3.out⟩

theorem enc_inj {x y : Bs} (h : enc x = enc y) : x = y := by rw [← enc_tl x, h, enc_tl]
theorem containsS_map (L : List Bs) (s : Bs) : Lib.containsS (L.map enc) (enc s) = hasS L s := by
  rw [Bool.eq_iff_iff, Lib.containsS_iff, hasS_iff]
  constructor
  · intro h
    obtain ⟨y, hy, e⟩ := List.mem_map.1 h
    rwa [← enc_inj e]
  · intro h; exact List.mem_map_of_mem h
theorem has_bool (x : Nm) (n : Nat) (s : Bs) {b : Bool} (hb : hasS x.row s = b) (w : World) (hx : NmOk w x n) (hm : n ≤ 1000000) :
    Calls Try.prog 23 #[.slice x.pa n x.pc, .string (enc s)] w fun r w' => r = .returned (.bool b) ∧ Below w.heap.size w w' := by
  have hc : Calls Try.prog 33 #[.slice x.pa n x.pc, .string (enc s)] w fun r w' => r = .returned (.bool b) ∧ w' = w := by
    subst hb
    have hl := hx.ln
    subst hl
    rcases hx.rd with h0 | ⟨bk, off, hA, hbk, hc⟩
    · rw [h0]
      exact Try.slices_Contains_string_empty x.pa x.pc (enc s) w
    · rw [hA]
      refine (Try.slices_Contains_string bk off x.row.length x.pc (x.row.map enc) (enc s) w (by simp) (by omega) ?_).mono ?_
      · intro j hj
        have hj' : j < x.row.length := by simpa using hj
        have := hc j x.row[j] (List.getElem?_eq_getElem hj') 0 (.string (enc x.row[j])) rfl
        rw [Nat.mul_one, Nat.add_zero] at this
        rw [this, List.getD_eq_getElem?_getD, List.getElem?_map, List.getElem?_eq_getElem hj']
        rfl
      · rintro r w' ⟨rfl, rfl⟩
        refine ⟨?_, rfl⟩
        rw [List.take_of_length_le (by simp), containsS_map]
  have HC := Lib.hid hc
  clear hx hc
  go_enter Try.func23, Try.ntmps23
  go_wp2_with fail
  refine HC.out.mono ?_
  rintro r w1 ⟨rfl, rfl⟩
  go_wp2
  go_ret
  exact ⟨rfl, Below.refl _ _⟩
end Go.Proofs.Ytfdgbegoaaihoaa
