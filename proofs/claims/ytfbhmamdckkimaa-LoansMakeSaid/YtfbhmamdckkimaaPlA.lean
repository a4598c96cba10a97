/- Places: what a place is in memory; contracts of slices.Equal, of Same, Begins, Meets, of the document's, of Long. -/
import Derived.Test.YtfbhmamdckkimaaChecked
import Derived.Test.YtfbhmamdckkimaaApp
import Derived.Test.YtfbhmamdckkimaaPlL
import Derived.Deep.RegionHeld3
import Derived.Deep.RegionWith
import Derived.Lib.QuietBelow
import Derived.LoopTactic
import Derived.Outline
namespace Go.Proofs.Ytfbhmamdckkimaa
open Go.RowKit
set_option linter.unusedVariables false
set_option linter.unusedSimpArgs false

def strC (s : ByteArray) : List Value := [.string s]
theorem strC_len (s : ByteArray) : (strC s).length = 1 := rfl
theorem strC_one (s : ByteArray) : ∀ u ∈ strC s, u.oneCell' = true := by intro u hu; simp [strC] at hu; subst hu; rfl

theorem Rd.str {w : World} {B : Nat} {A : Option Addr} {L : List ByteArray} (h : Rd w B 1 strC A L) {k : Nat} (hk : k < L.length) :
    ∃ b off x, L[k]? = some x ∧ A = some ⟨b, off, none⟩ ∧ b < B ∧ w.cell? ⟨b, off + k, none⟩ = some (.string x) := by
  obtain ⟨b, off, hA, hb, hc⟩ := h.at_ hk
  exact ⟨b, off, L[k], List.getElem?_eq_getElem hk, hA, hb, by simpa using hc 0 _ rfl⟩

theorem str_eq_of {a b : ByteArray} (h : a.toList = b.toList) : a = b := by
  rw [ByteArray.toList_eq, ByteArray.toList_eq] at h
  exact ByteArray.ext (Array.toList_inj.1 h)

set_option maxHeartbeats 800000 in
theorem equal_any (A A' : Option Addr) (len len' c c' B B' : Nat) (L M : List ByteArray) (w : World) (hl : L.length = len) (hl' : M.length = len') (hm : len ≤ maxLen) (h : Rd w B 1 strC A L) (h' : Rd w B' 1 strC A' M) :
    Calls Try.prog 47 #[.slice A len c, .slice A' len' c'] w fun r w' => r = .returned (.bool (decide (L = M))) ∧ ∃ n, w' = w.drewN n := by
  unfold maxLen at hm
  by_cases hne : len = len'
  · subst hne
    have HL := Lib.hid hl
    have HM := Lib.hid hl'
    have H := Lib.hid h
    have H' := Lib.hid h'
    clear hl hl' h h'
    go_enter Try.func47, Try.ntmps47
    go_wp2
    go_loopw [13] (fun i wr => ∃ k : Nat, k ≤ len ∧ i = .int .i64 k ∧ L.take k = M.take k ∧ ∃ n, wr = w.drewN n) (fun i _ => len - (intOf i).toNat)
    case atStart => exact ⟨0, by omega, rfl, rfl, 0, rfl⟩
    case round =>
      obtain ⟨k, hk, rfl, hall, n, rfl⟩ := hrel
      have HA := Lib.hid hall
      clear hall
      by_cases hlt : k < len
      · obtain ⟨b, off, x, hx, rfl, hb, hc⟩ := H.out.str (k := k) (by rw [HL.out]; exact hlt)
        obtain ⟨b', off', y, hy, rfl, hb', hc'⟩ := H'.out.str (k := k) (by rw [HM.out]; exact hlt)
        have hki : (k : Int) < (len : Int) := by omega
        have hk0 : (0 : Int) ≤ (k : Int) := by omega
        by_cases hxy : x.toList = y.toList
        · have e : (x.toList == y.toList) = true := by simpa using hxy
          have hnx : L.take (k + 1) = M.take (k + 1) := by rw [List.take_add_one, List.take_add_one, HA.out, hx, hy, str_eq_of hxy]
          have HN := Lib.hid hnx
          clear hnx hx hy hxy
          go_wp2
          go_quiet (fail)
          go_wp2
          go_roundw
          case rel => exact ⟨k + 1, by omega, by go_num, HN.out, _, rfl⟩
          case measure => simp [intOf] <;> omega
        · have e : (x.toList == y.toList) = false := by simpa using hxy
          have hno : decide (L = M) = false := by
            rw [decide_eq_false_iff_not]; rintro rfl
            rw [hx] at hy; cases hy; exact hxy rfl
          have HN := Lib.hid hno
          clear hno hx hy hxy
          go_wp2
          go_quiet (fail)
          go_wp2
          go_ret
          exact ⟨by rw [HN.out]; rfl, _, World.drewN_drewN _ _ _⟩
      · obtain rfl : k = len := by omega
        have hyes : decide (L = M) = true := by
          rw [decide_eq_true_iff]
          have := HA.out
          rwa [List.take_of_length_le (by rw [HL.out]; exact Nat.le_refl _), List.take_of_length_le (by rw [HM.out]; exact Nat.le_refl _)] at this
        have HY := Lib.hid hyes
        clear hyes
        go_wp2
        go_ret
        exact ⟨by rw [HY.out]; rfl, _, rfl⟩
  · have hno : decide (L = M) = false := by
      rw [decide_eq_false_iff_not]; rintro rfl; omega
    rw [hno]
    have d : ((len : Int) != (len' : Int)) = true := by rw [bne_iff_ne]; omega
    clear hno h h' hl hl'
    go_enter Try.func47, Try.ntmps47
    go_wp2
    go_ret
    exact ⟨rfl, 0, rfl⟩

/-! ### a place -/
structure Pl where
  name : ByteArray
  pa : Option Addr
  pc : Nat
  path : List ByteArray
instance : Inhabited Pl := ⟨⟨ByteArray.empty, none, 0, []⟩⟩
def Pl.key (x : Pl) : PKey := (x.name, x.path)
def plC (x : Pl) : List Value := [.string x.name, .slice x.pa x.path.length x.pc]
theorem plC_len (x : Pl) : (plC x).length = 2 := rfl
structure PlOk (w : World) (B : Nat) (x : Pl) : Prop where
  rd : Rd w B 1 strC x.pa x.path
  wn : x.name.size ≤ maxLen
  wp : ∀ s ∈ x.path, s.size ≤ maxLen
  cap : x.path.length ≤ x.pc
  big : x.pc ≤ maxLen
theorem PlOk.below {w w' : World} {B : Nat} {x : Pl} (h : PlOk w B x) (hb : Below B w w') : PlOk w' B x := ⟨h.rd.below hb, h.wn, h.wp, h.cap, h.big⟩
theorem PlOk.more {w : World} {B B' : Nat} {x : Pl} (h : PlOk w B x) (hb : B ≤ B') : PlOk w B' x := ⟨h.rd.more hb, h.wn, h.wp, h.cap, h.big⟩
theorem PlOk.next {w w' : World} {x : Pl} (h : PlOk w w.heap.size x) (hb : Below w.heap.size w w') : PlOk w' w'.heap.size x := (h.below hb).more hb.size

/-- a quiet contract, behind whatever blocks and draws -/
theorem bel_drewN {w : World} {B : Nat} {W : World} (h : Below B w W) (n : Nat) : Below B w (W.drewN n) := below_drewN h n

theorem same_len {p q : PKey} (h : p.2.length ≠ q.2.length) : sameB p q = false := by
  rw [Bool.eq_false_iff]; intro e; rw [sameB_iff.1 e] at h; exact h rfl
theorem same_name {p q : PKey} (h : p.1 ≠ q.1) : sameB p q = false := by
  rw [Bool.eq_false_iff]; intro e; rw [sameB_iff.1 e] at h; exact h rfl
theorem same_path {p q : PKey} (h : p.1 = q.1) : sameB p q = decide (p.2 = q.2) := by
  rw [Bool.eq_iff_iff, sameB_iff, decide_eq_true_iff]
  constructor
  · rintro rfl; rfl
  · intro h2; exact Prod.ext h h2
theorem tol_ne {a b : ByteArray} (h : a ≠ b) : (a.toList == b.toList) = false := by
  rw [beq_eq_false_iff_ne]; exact fun e => h (str_eq_of e)

set_option maxHeartbeats 800000 in
theorem same_any (x y : Pl) (w : World) (hx : PlOk w w.heap.size x) (hy : PlOk w w.heap.size y) :
    Calls Try.prog 45 #[.agg #[.string x.name, .slice x.pa x.path.length x.pc], .agg #[.string y.name, .slice y.pa y.path.length y.pc]] w fun r w' => r = .returned (.bool (sameB x.key y.key)) ∧ Below w.heap.size w w' := by
  obtain ⟨lx, hlx⟩ : ∃ n, x.path.length = n := ⟨_, rfl⟩
  obtain ⟨ly, hly⟩ : ∃ n, y.path.length = n := ⟨_, rfl⟩
  have hmx : lx ≤ maxLen := by rw [← hlx]; exact Nat.le_trans hx.cap hx.big
  have hb2 : Below w.heap.size w ((w.alloc (.cells #[.string x.name, .slice x.pa lx x.pc] 25)).alloc (.cells #[.string y.name, .slice y.pa ly y.pc] 25)) := ((Below.refl _ _).alloc (Nat.le_refl _) _).alloc (by simp) _
  have HE := Lib.hid (equal_any x.pa y.pa lx ly x.pc y.pc _ _ x.path y.path _ hlx hly hmx (hx.rd.below hb2) (hy.rd.below hb2))
  have HB := Lib.hid hb2
  rw [hlx, hly]
  clear hb2 hlx hly hmx hx hy
  by_cases hn : x.name = y.name
  · have HS := Lib.hid (show sameB x.key y.key = decide (x.path = y.path) from same_path hn)
    have e : (x.name.toList == y.name.toList) = true := by rw [hn]; simp
    obtain ⟨b, hb⟩ : ∃ b, b = decide (x.path = y.path) := ⟨_, rfl⟩
    rw [← hb] at HE HS
    clear hn hb
    go_enter Try.func45, Try.ntmps45
    go_wp2_with fail
    refine HE.out.mono ?_
    rintro r w' ⟨rfl, n, rfl⟩
    go_wp2
    go_ret
    exact ⟨by rw [HS.out]; rfl, below_drewN HB.out n⟩
  · have HS := Lib.hid (show sameB x.key y.key = false from same_name hn)
    have e := tol_ne hn
    clear hn
    go_enter Try.func45, Try.ntmps45
    go_wp2_with fail
    go_ret
    exact ⟨by rw [HS.out]; rfl, HB.out⟩

theorem beg_name {p q : PKey} (h : p.1 ≠ q.1) : begB p q = false := by
  rw [Bool.eq_false_iff]; intro e; exact h (begB_iff.1 e).1
theorem beg_long {p q : PKey} (h : q.2.length < p.2.length) : begB p q = false := by
  rw [Bool.eq_false_iff]; intro e; have := (begB_iff.1 e).2.length_le; omega
theorem beg_take {p q : PKey} (h : p.1 = q.1) : begB p q = decide (p.2 = q.2.take p.2.length) := by
  unfold begB
  rw [decide_eq_decide]
  exact ⟨fun e => e.2.symm, fun e => ⟨h, e.symm⟩⟩

set_option maxHeartbeats 1600000 in
theorem begins_any (x y : Pl) (w : World) (hx : PlOk w w.heap.size x) (hy : PlOk w w.heap.size y) :
    Calls Try.prog 40 #[.agg #[.string x.name, .slice x.pa x.path.length x.pc], .agg #[.string y.name, .slice y.pa y.path.length y.pc]] w fun r w' => r = .returned (.bool (begB x.key y.key)) ∧ Below w.heap.size w w' := by
  obtain ⟨lx, hlx⟩ : ∃ n, x.path.length = n := ⟨_, rfl⟩
  obtain ⟨ly, hly⟩ : ∃ n, y.path.length = n := ⟨_, rfl⟩
  have hmx : lx ≤ maxLen := by rw [← hlx]; exact Nat.le_trans hx.cap hx.big
  have hyc : ly ≤ y.pc := by rw [← hly]; exact hy.cap
  have hyb : y.pc ≤ maxLen := hy.big
  have hb2 : Below w.heap.size w ((w.alloc (.cells #[.string x.name, .slice x.pa lx x.pc] 25)).alloc (.cells #[.string y.name, .slice y.pa ly y.pc] 25)) := ((Below.refl _ _).alloc (Nat.le_refl _) _).alloc (by simp) _
  have HB := Lib.hid hb2
  have HX := Lib.hid (hx.rd.below hb2)
  have HY := Lib.hid (hy.rd.below hb2)
  have HLX := Lib.hid hlx
  have HLY := Lib.hid hly
  have HMX := Lib.hid hmx
  rw [hlx, hly]
  clear hx hy hb2
  unfold maxLen at hmx hyb
  by_cases hle : lx ≤ ly
  · by_cases hn : x.name = y.name
    · have HS := Lib.hid (show begB x.key y.key = decide (x.path = y.path.take lx) by rw [← hlx]; exact beg_take hn)
      have e : (x.name.toList == y.name.toList) = true := by rw [hn]; simp
      have d : (lx : Int) ≤ (ly : Int) := by omega
      have d2 : lx ≤ y.pc := by omega
      have HE := fun n => Lib.hid (equal_any x.pa y.pa lx lx x.pc lx _ _ x.path (y.path.take lx) ((((w.alloc (.cells #[.string x.name, .slice x.pa lx x.pc] 25)).alloc (.cells #[.string y.name, .slice y.pa ly y.pc] 25))).drewN n) hlx (by rw [List.length_take, hly]; omega) HMX.out (HX.out.drewN n) ((HY.out.take lx).drewN n))
      obtain ⟨b, hb⟩ : ∃ b, b = decide (x.path = y.path.take lx) := ⟨_, rfl⟩
      simp only [← hb] at HE
      rw [← hb] at HS
      clear hn hb hlx hly
      go_enter Try.func40, Try.ntmps40
      go_wp2_with fail
      go_quiet ((go_at_call 47; exact Calls.quiet_of (HE _).out))
      go_wp2
      go_ret
      exact ⟨by rw [HS.out]; rfl, below_drewN HB.out _⟩
    · have HS := Lib.hid (show begB x.key y.key = false from beg_name hn)
      have e := tol_ne hn
      have d : (lx : Int) ≤ (ly : Int) := by omega
      clear hn hlx hly
      go_enter Try.func40, Try.ntmps40
      go_wp2_with fail
      go_quiet (fail)
      go_wp2
      go_ret
      exact ⟨by rw [HS.out]; rfl, below_drewN HB.out _⟩
  · have HS := Lib.hid (show begB x.key y.key = false from beg_long (by show y.path.length < x.path.length; omega))
    have d : decide (lx ≤ ly) = false := decide_eq_false hle
    have d' : ¬ (lx : Int) ≤ (ly : Int) := by omega
    clear hlx hly
    go_enter Try.func40, Try.ntmps40
    go_wp2_with fail
    go_quiet (fail)
    go_wp2
    go_ret
    exact ⟨by rw [HS.out]; rfl, below_drewN HB.out _⟩

/-! ### two calls, one behind the other -/
theorem beg_bool (x y : Pl) {b : Bool} (hb : begB x.key y.key = b) (w : World) (hx : PlOk w w.heap.size x) (hy : PlOk w w.heap.size y) :
    Calls Try.prog 40 #[.agg #[.string x.name, .slice x.pa x.path.length x.pc], .agg #[.string y.name, .slice y.pa y.path.length y.pc]] w fun r w' => r = .returned (.bool b) ∧ Below w.heap.size w w' := by
  subst hb; exact begins_any x y w hx hy
set_option maxHeartbeats 800000 in
theorem meets_any (x y : Pl) (w : World) (hx : PlOk w w.heap.size x) (hy : PlOk w w.heap.size y) :
    Calls Try.prog 26 #[.agg #[.string x.name, .slice x.pa x.path.length x.pc], .agg #[.string y.name, .slice y.pa y.path.length y.pc]] w fun r w' => r = .returned (.bool (meetB x.key y.key)) ∧ Below w.heap.size w w' := by
  have hb2 : Below w.heap.size w ((w.alloc (.cells #[.string x.name, .slice x.pa x.path.length x.pc] 25)).alloc (.cells #[.string y.name, .slice y.pa y.path.length y.pc] 25)) := ((Below.refl _ _).alloc (Nat.le_refl _) _).alloc (by simp) _
  have hx2 := hx.next hb2
  have hy2 := hy.next hb2
  cases hb : begB x.key y.key
  · have HE1 := Lib.hid (beg_bool x y hb _ hx2 hy2)
    have HS := Lib.hid (show meetB x.key y.key = begB y.key x.key by unfold meetB; rw [hb]; rfl)
    obtain ⟨b2, hb2'⟩ : ∃ b, begB y.key x.key = b := ⟨_, rfl⟩
    rw [hb2'] at HS
    have HE2 := Lib.hid (fun W h1 h2 => beg_bool y x hb2' W h1 h2)
    obtain ⟨lx, hlx⟩ : ∃ n, x.path.length = n := ⟨_, rfl⟩
    obtain ⟨ly, hly⟩ : ∃ n, y.path.length = n := ⟨_, rfl⟩
    rw [hlx, hly] at HE1 HE2 ⊢
    rw [hlx, hly] at hb2 hx2 hy2
    have HB := Lib.hid hb2
    have HX := Lib.hid hx2
    have HY := Lib.hid hy2
    clear hx hy hb hlx hly hb2' hb2 hx2 hy2
    go_enter Try.func26, Try.ntmps26
    go_wp2_with fail
    refine HE1.out.mono ?_
    rintro r w' ⟨rfl, hb1⟩
    have HB1 := Lib.hid (HB.out.trans (hb1.mono HB.out.size))
    have HX1 := Lib.hid (HX.out.next hb1)
    have HY1 := Lib.hid (HY.out.next hb1)
    have hk := (Blk.new (w.alloc (.cells #[.string x.name, .slice x.pa lx x.pc] 25)) 25 #[.string y.name, .slice y.pa ly y.pc]).below hb1 (by simp)
    have hk0 := ((Blk.new w 25 #[.string x.name, .slice x.pa lx x.pc]).alloc (.cells #[.string y.name, .slice y.pa ly y.pc] 25)).below hb1 (by simp; omega)
    have c0 := hk.cell 0
    have c1 := hk.cell 1
    have c2 := hk0.cell 0
    have c3 := hk0.cell 1
    simp at c0 c1 c2 c3
    clear hb1 hk hk0
    go_wp2_with fail
    refine (HE2.out _ HY1.out HX1.out).mono ?_
    rintro r w2 ⟨rfl, hb2⟩
    have HB2 := Lib.hid (HB1.out.trans (hb2.mono HB1.out.size))
    clear hb2
    go_wp2
    go_ret
    exact ⟨by rw [HS.out]; rfl, HB2.out⟩
  · have HE1 := Lib.hid (beg_bool x y hb _ hx2 hy2)
    have HS := Lib.hid (show meetB x.key y.key = true by unfold meetB; rw [hb]; rfl)
    have HB := Lib.hid hb2
    clear hx hy hb hx2 hy2 hb2
    go_enter Try.func26, Try.ntmps26
    go_wp2_with fail
    refine HE1.out.mono ?_
    rintro r w' ⟨rfl, hb1⟩
    have HB1 := Lib.hid (HB.out.trans (hb1.mono HB.out.size))
    clear hb1
    go_wp2
    go_ret
    exact ⟨by rw [HS.out]; rfl, HB1.out⟩
end Go.Proofs.Ytfbhmamdckkimaa
