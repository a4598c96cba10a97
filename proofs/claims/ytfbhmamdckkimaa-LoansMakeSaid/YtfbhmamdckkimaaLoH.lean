/- Loans: the contract of awake: the chapter's rows. -/
import Derived.Test.YtfbhmamdckkimaaLoG
namespace Go.Proofs.Ytfbhmamdckkimaa
open Go.RowKit
set_option linter.unusedVariables false
set_option linter.unusedSimpArgs false

def plN (s : ByteArray) : Pl := ⟨s, none, 0, []⟩
theorem plN_ok (s : ByteArray) (hs : s.size ≤ 1000) (w : World) : PlOk w w.heap.size (plN s) := ⟨.inl rfl, by simp [plN, maxLen]; omega, by simp [plN], Nat.le_refl _, Nat.zero_le _⟩
theorem rd_r4 (W : World) (s : ByteArray) : Rd (W.alloc (.cells #[.string s] 9)) (W.alloc (.cells #[.string s] 9)).heap.size 1 strC (some ⟨W.heap.size, 0, none⟩) [s] := rd_one (cells := strC) (x := s) strC_len (Blk.new W 9 #[.string s]) rfl
theorem rd_r1 (W : World) (s : ByteArray) : Rd (W.alloc (.cells #[.string s] 9)).drew (W.alloc (.cells #[.string s] 9)).drew.heap.size 1 strC (some ⟨W.heap.size, 0, none⟩) [s] := rd_r4 W s
theorem rd_r2 (W : World) (o : Obj) (s : ByteArray) : Rd ((W.alloc o).alloc (.cells #[.string s] 9)).drew ((W.alloc o).alloc (.cells #[.string s] 9)).drew.heap.size 1 strC (some ⟨W.heap.size + 1, 0, none⟩) [s] := by
  have h := rd_r4 (W.alloc o) s
  rw [World.size_alloc W] at h
  exact h
theorem rd_r3 (W : World) (o : Obj) (s : ByteArray) : Rd ((W.alloc (.cells #[.string s] 9)).alloc o).drew ((W.alloc (.cells #[.string s] 9)).alloc o).drew.heap.size 1 strC (some ⟨W.heap.size, 0, none⟩) [s] := ((rd_r4 W s).alloc (Nat.le_refl _) o).more (by simp)
theorem rd_next {W W' : World} {A : Option Addr} {s : ByteArray} (h : Rd W W.heap.size 1 strC A [s]) (hb : Below W.heap.size W W') : Rd W' W'.heap.size 1 strC A [s] := (h.below hb).more hb.size
theorem bel_al (W : World) (o : Obj) : Below W.heap.size W (W.alloc o) := (Below.refl _ _).alloc (Nat.le_refl _) _
theorem with_x (n s : ByteArray) (hn : n.size ≤ 1000) (hs : s.size ≤ 1000) (g : Nat) (W : World) (hr : Rd W W.heap.size 1 strC (some ⟨g, 0, none⟩) [s]) :
    Calls Try.prog 25 #[.agg #[.string n, .slice none 0 0], .slice (some ⟨g, 0, none⟩) 1 1] W (PlNew W n [s]) :=
  with_new (plN n) [s] _ 1 1 W (plN_ok n hn W) (Nat.zero_le _) rfl (by omega) hr (by simp [maxLen]; omega)

def AwOld (w0 W : World) : Prop := Below w0.heap.size w0 W
def Aw (w0 : World) (g1 g2 : Nat) (W : World) : Prop := W.cell? ⟨g1, 0, none⟩ = some (.string ⟨#[120]⟩) ∧ W.cell? ⟨g1, 1, none⟩ = some (.slice none 0 0) ∧ W.cell? ⟨g2, 0, none⟩ = some (.string ⟨#[121]⟩) ∧ W.cell? ⟨g2, 1, none⟩ = some (.slice none 0 0) ∧ AwOld w0 W
def AwG (w0 : World) (g1 g2 : Nat) : Prop := g1 < w0.heap.size ∧ g2 < w0.heap.size
section
variable {w0 W W' : World} {g1 g2 : Nat}
theorem aw_old {p1 p2 p3 p4 : Prop} (h : p1 ∧ p2 ∧ p3 ∧ p4 ∧ AwOld w0 W) : AwOld w0 W := h.2.2.2.2
theorem Aw.step (hg : AwG w0 g1 g2) (h : Aw w0 g1 g2 W) (hb : Below W.heap.size W W') : Aw w0 g1 g2 W' := by
  obtain ⟨h1, h2, h3, h4, h8⟩ := h
  obtain ⟨k1, k2⟩ := hg
  have hs := Below.size h8
  exact ⟨cell_of_below hb (by omega) h1, cell_of_below hb (by omega) h2, cell_of_below hb (by omega) h3, cell_of_below hb (by omega) h4, Below.trans h8 (hb.mono hs)⟩
theorem Aw.old (h : Aw w0 g1 g2 W) : Below w0.heap.size w0 W := h.2.2.2.2
theorem Aw.alloc (hg : AwG w0 g1 g2) (h : Aw w0 g1 g2 W) (o : Obj) : Aw w0 g1 g2 (W.alloc o) := h.step hg ((Below.refl _ _).alloc (Nat.le_refl _) o)
theorem Aw.dal (hg : AwG w0 g1 g2) (h : Aw w0 g1 g2 W.drew) (o : Obj) : Aw w0 g1 g2 (W.alloc o).drew := Aw.alloc hg h o
end
def kA : LKey := ((⟨#[120]⟩, [⟨#[97]⟩]), false, 2)
def kY : LKey := ((⟨#[121]⟩, []), true, 1)
theorem add_x (y : Pl) (W : World) (hk : y.key = (⟨#[120]⟩, [⟨#[97]⟩])) (hy : PlOk W W.heap.size y) :
    Calls Try.prog 16 #[.slice none 0 0, .agg #[.string y.name, .slice y.pa y.path.length y.pc, .bool false, .int .i64 2]] W fun r w' => ∃ (A : Option Addr) (c : Nat) (O : List Lo), r = .returned (.slice A 1 c) ∧ LoRow w' A 1 c O ∧ O.map Lo.key = [kA] ∧ Below W.heap.size W w' := by
  have hp : y.path = [⟨#[97]⟩] := congrArg Prod.snd hk
  refine (add_any none 0 0 [] ⟨y, false, 2⟩ W ⟨rfl, .inl rfl, by simp, Nat.le_refl _, by omega⟩ ⟨hy, show (Lit.int .i64 2).wf = true by decide⟩ (by omega) (by simp) (by show y.path.length ≤ _; rw [hp]; decide)).mono ?_
  rintro r w' ⟨v, rfl, hm, hb⟩
  obtain ⟨A, c, O, rfl, hr, hkO, _, _⟩ := hm.row (show (1 : Nat) ≤ 1000000 by omega)
  have e : addL (List.map Lo.key []) (Lo.key ⟨y, false, 2⟩) = [kA] := by
    show [(y.key, false, (2 : Int))] = [kA]
    rw [hk]; rfl
  rw [e] at hr hkO ⊢
  exact ⟨A, c, O, rfl, hr, hkO, hb⟩
theorem add_y (A : Option Addr) (c : Nat) (O : List Lo) (W : World) (h : LoRow W A 1 c O) (hk : O.map Lo.key = [kA]) :
    Calls Try.prog 16 #[.slice A 1 c, .agg #[.string ⟨#[121]⟩, .slice none 0 0, .bool true, .int .i64 1]] W fun r w' => ∃ (A : Option Addr) (c : Nat) (O : List Lo), r = .returned (.slice A 2 c) ∧ LoRow w' A 2 c O ∧ O.map Lo.key = [kA, kY] ∧ Below W.heap.size W w' := by
  have hlen : ∀ x ∈ O, x.pl.path.length ≤ 1000000 := by
    intro x hx
    have : x.key ∈ O.map Lo.key := List.mem_map.2 ⟨x, hx, rfl⟩
    rw [hk, List.mem_singleton] at this
    have e : x.pl.path = [⟨#[97]⟩] := congrArg (fun k : LKey => k.1.2) this
    rw [e]; decide
  refine (add_any A 1 c O ⟨plN ⟨#[121]⟩, true, 1⟩ W h ⟨plN_ok _ (by decide) W, by decide⟩ (by omega) hlen (by decide)).mono ?_
  rintro r w' ⟨v, rfl, hm, hb⟩
  have e : addL (List.map Lo.key O) (Lo.key ⟨plN ⟨#[121]⟩, true, 1⟩) = [kA, kY] := by rw [hk]; decide +kernel
  rw [e] at hm
  obtain ⟨A, c, O, rfl, hr, hkO, _, _⟩ := hm.row (by decide)
  exact ⟨A, c, O, rfl, hr, hkO, hb⟩
/-- a use of the two loans -/
theorem may_x (A : Option Addr) (c : Nat) (O : List Lo) (p : Pl) (u m : Int) (W : World) (h : LoRow W A 2 c O) (hk : O.map Lo.key = [kA, kY]) (hp : PlOk W W.heap.size p) (hu0 : 0 ≤ u) (hu1 : u ≤ 255) (hm : mayL [kA, kY] p.key u = m) :
    Calls Try.prog 12 #[.slice A 2 c, .agg #[.string p.name, .slice p.pa p.path.length p.pc], .int .u8 u] W fun r w' => r = .returned (.int .i64 m) ∧ Below W.heap.size W w' :=
  may_any A 2 c O p u W h hp hu0 hu1 m (by rw [hk]; exact hm)
theorem may_n (A : Option Addr) (c : Nat) (O : List Lo) (n : ByteArray) (hn : n.size ≤ 1000) (u m : Int) (W : World) (h : LoRow W A 2 c O) (hk : O.map Lo.key = [kA, kY]) (hu0 : 0 ≤ u) (hu1 : u ≤ 255) (hm : mayL [kA, kY] (n, []) u = m) :
    Calls Try.prog 12 #[.slice A 2 c, .agg #[.string n, .slice none 0 0], .int .u8 u] W fun r w' => r = .returned (.int .i64 m) ∧ Below W.heap.size W w' :=
  may_x A c O (plN n) u m W h hk (plN_ok n hn W) hu0 hu1 hm
theorem len_two {O : List Lo} (hk : O.map Lo.key = [kA, kY]) : ∀ x ∈ O, x.pl.path.length ≤ 1000000 := by
  intro x hx
  have : x.key ∈ O.map Lo.key := List.mem_map.2 ⟨x, hx, rfl⟩
  rw [hk] at this
  rcases List.mem_cons.1 this with h | h
  · have e : x.pl.path = [⟨#[97]⟩] := congrArg (fun k : LKey => k.1.2) h
    rw [e]; decide
  · rw [List.mem_singleton] at h
    have e : x.pl.path = [] := congrArg (fun k : LKey => k.1.2) h
    rw [e]; decide
theorem may_k (k : PKey) (A : Option Addr) (c : Nat) (O : List Lo) (p : Pl) (u m : Int) (hm : mayL [kA, kY] k u = m) (hu0 : 0 ≤ u) (hu1 : u ≤ 255) (W : World) (h : LoRow W A 2 c O) (hk : O.map Lo.key = [kA, kY]) (hpk : p.key = k) (hp : PlOk W W.heap.size p) :
    Calls Try.prog 12 #[.slice A 2 c, .agg #[.string p.name, .slice p.pa p.path.length p.pc], .int .u8 u] W fun r w' => r = .returned (.int .i64 m) ∧ Below W.heap.size W w' :=
  may_x A c O p u m W h hk hp hu0 hu1 (by rw [hpk]; exact hm)
theorem end_x (A : Option Addr) (c : Nat) (O : List Lo) (d : Int) (n : Nat) (W : World) (h : LoRow W A 2 c O) (hk : O.map Lo.key = [kA, kY]) (hn : (endL [kA, kY] d).length = n) :
    Calls Try.prog 17 #[.slice A 2 c, .int .i64 d] W fun r w' => ∃ (A : Option Addr) (c : Nat), r = .returned (.slice A n c) ∧ Below W.heap.size W w' := by
  subst hn
  refine (end_any A 2 c O d W h (len_two hk)).mono ?_
  rintro r w' ⟨v, rfl, hm, hb⟩
  rw [hk] at hm
  obtain ⟨A, c, O, rfl, _⟩ := hm.row (Nat.le_trans (List.length_filter_le _ _) (by decide))
  exact ⟨A, c, rfl, hb⟩
theorem of_x (A : Option Addr) (c : Nat) (O : List Lo) (W : World) (h : LoRow W A 2 c O) (hk : O.map Lo.key = [kA, kY]) :
    Calls Try.prog 19 #[.slice A 2 c, .string ⟨#[121]⟩] W fun r w' => ∃ (A : Option Addr) (c : Nat), r = .returned (.slice A 1 c) ∧ Below W.heap.size W w' := by
  refine (of_any A 2 c O ⟨#[121]⟩ W h (len_two hk)).mono ?_
  rintro r w' ⟨v, rfl, hm, hb⟩
  rw [hk, show ofL [kA, kY] ⟨#[121]⟩ = [kY] by decide +kernel] at hm
  obtain ⟨A, c, O, rfl, _⟩ := hm.row (by decide)
  exact ⟨A, c, rfl, hb⟩

set_option maxHeartbeats 6400000 in
set_option maxRecDepth 100000 in
theorem awake_yes (w : World) : Calls Try.prog 15 #[] w fun r w' => r = .returned (.bool true) ∧ Below w.heap.size w w' := by
  go_enter Try.func15, Try.ntmps15
  go_upto_region 2 with fail
  obtain ⟨W0, hW0⟩ : ∃ W0, W0 = (w.alloc (.cells #[.string ⟨#[120]⟩, .slice none 0 0] 25)).alloc (.cells #[.string ⟨#[121]⟩, .slice none 0 0] 25) := ⟨_, rfl⟩
  have hB0 : Below w.heap.size w W0 := by rw [hW0]; exact ((Below.refl _ _).alloc (Nat.le_refl _) _).alloc (by simp) _
  have hk1 : Blk W0 w.heap.size 25 #[.string ⟨#[120]⟩, .slice none 0 0] := by rw [hW0]; exact (Blk.new _ _ _).alloc _
  have hk2 : Blk W0 (w.heap.size + 1) 25 #[.string ⟨#[121]⟩, .slice none 0 0] := by rw [hW0]; exact blk_at (Blk.new (w.alloc _) _ _) (by simp)
  rw [← hW0]
  clear hW0
  have HB0 := Lib.hid hB0
  have HG := Lib.hid (show AwG W0 w.heap.size (w.heap.size + 1) from ⟨hk1.lt, hk2.lt⟩)
  have hS0 : Aw W0 w.heap.size (w.heap.size + 1) W0.drew := ⟨bx0 hk1, bx1 hk1, bx0 hk2, bx1 hk2, (Below.refl _ _).drew⟩
  unfold Aw at hS0
  clear hB0 hk1 hk2
  go_region_held3 (fun W => W.cell? ⟨w.heap.size, 0, none⟩ = some (.string ⟨#[120]⟩) ∧ W.cell? ⟨w.heap.size, 1, none⟩ = some (.slice none 0 0) ∧ W.cell? ⟨w.heap.size + 1, 0, none⟩ = some (.string ⟨#[121]⟩) ∧ W.cell? ⟨w.heap.size + 1, 1, none⟩ = some (.slice none 0 0) ∧ AwOld W0 W) (first | assumption | exact Aw.alloc HG.out hSn _ | exact Aw.dal HG.out hS0 _ | exact Aw.dal HG.out (Aw.dal HG.out hS0 _) _)
    (first
      | (go_at_call 25; (with_reducible refine (with_x ⟨#[120]⟩ ⟨#[97]⟩ (by decide) (by decide) _ _ (rd_r1 _ _)).mono ?_); rintro r wn ⟨y, rfl, hyk, hyok, _, hbn⟩; (first | (have hSn := Aw.step HG.out hSn hbn; unfold Aw at hSn) | (have hSn := Aw.step HG.out (Aw.alloc HG.out hSn _) hbn; unfold Aw at hSn) | (have hSn := Aw.step HG.out (Aw.dal HG.out hS0 _) hbn; unfold Aw at hSn) | (have hSn := Aw.step HG.out (Aw.dal HG.out (Aw.dal HG.out hS0 _) _) hbn; unfold Aw at hSn)))
      | (go_at_call 16; (with_reducible refine (add_x y _ hyk hyok).mono ?_); rintro r wn ⟨A1, c1, O1, rfl, hr1, hk1, hbn⟩; (first | (have hSn := Aw.step HG.out hSn hbn; unfold Aw at hSn) | (have hSn := Aw.step HG.out (Aw.alloc HG.out hSn _) hbn; unfold Aw at hSn) | (have hSn := Aw.step HG.out (Aw.dal HG.out hS0 _) hbn; unfold Aw at hSn) | (have hSn := Aw.step HG.out (Aw.dal HG.out (Aw.dal HG.out hS0 _) _) hbn; unfold Aw at hSn)))
      | (go_at_call 16; (with_reducible refine (add_y A1 c1 O1 _ hr1 hk1).mono ?_); rintro r wn ⟨A2, c2, O2, rfl, hr2, hk2, hbn⟩; (first | (have hSn := Aw.step HG.out hSn hbn; unfold Aw at hSn) | (have hSn := Aw.step HG.out (Aw.alloc HG.out hSn _) hbn; unfold Aw at hSn) | (have hSn := Aw.step HG.out (Aw.dal HG.out hS0 _) hbn; unfold Aw at hSn) | (have hSn := Aw.step HG.out (Aw.dal HG.out (Aw.dal HG.out hS0 _) _) hbn; unfold Aw at hSn))))
  have HR := Lib.hid hr2
  have HK := Lib.hid hk2
  have HBn := Lib.hid hbn
  obtain ⟨W1, hW1⟩ : ∃ W1, W1 = wn := ⟨_, rfl⟩
  rw [← hW1] at HR HBn hSn ⊢
  have HS1 := Lib.hid hSn
  clear hr1 hk1 hr2 hk2 hSn hyk hyok hS0 hbn
  have HG1 := Lib.hid (show AwG W1 w.heap.size (w.heap.size + 1) from ⟨Nat.lt_of_lt_of_le HG.out.1 (Below.size (aw_old HS1.out)), Nat.lt_of_lt_of_le HG.out.2 (Below.size (aw_old HS1.out))⟩)
  have hS0 : Aw W1 w.heap.size (w.heap.size + 1) W1.drew := ⟨HS1.out.1, HS1.out.2.1, HS1.out.2.2.1, HS1.out.2.2.2.1, (Below.refl _ _).drew⟩
  unfold Aw at hS0
  clear hW1
  go_upto_region 3 with fail
  go_cut [4, 5, 6] (fun a b c wx => a = .int .i64 0 ∧ b = .int .i64 141 ∧ c = .int .i64 0 ∧ Aw W1 w.heap.size (w.heap.size + 1) wx)
  case first =>
    go_region_held3 (fun W => W.cell? ⟨w.heap.size, 0, none⟩ = some (.string ⟨#[120]⟩) ∧ W.cell? ⟨w.heap.size, 1, none⟩ = some (.slice none 0 0) ∧ W.cell? ⟨w.heap.size + 1, 0, none⟩ = some (.string ⟨#[121]⟩) ∧ W.cell? ⟨w.heap.size + 1, 1, none⟩ = some (.slice none 0 0) ∧ AwOld W1 W) (first | assumption | exact Aw.alloc HG1.out hSn _ | exact Aw.dal HG1.out hS0 _ | exact Aw.dal HG1.out (Aw.dal HG1.out hS0 _) _)
      (first
        | (go_at_call 25; (with_reducible refine (with_x ⟨#[120]⟩ ⟨#[97]⟩ (by decide) (by decide) _ _ ?_).mono ?_); (first | exact rd_r1 _ ⟨#[97]⟩ | exact rd_r2 _ _ ⟨#[97]⟩ | exact rd_r3 _ _ ⟨#[97]⟩); rintro r wn ⟨y, rfl, hyk, hyok, _, hbn⟩; have hSn := (Aw.step HG1.out (by assumption) hbn); unfold Aw at hSn; (first | (have hRb := rd_next (s := ⟨#[98]⟩) hRb hbn) | (have hRb := rd_next (rd_r2 _ _ ⟨#[98]⟩) hbn) | (have hRb := rd_next (rd_r3 _ _ ⟨#[98]⟩) hbn) | (have hRb := rd_next (rd_r4 _ ⟨#[98]⟩) hbn) | skip))
        | (go_at_call 25; (with_reducible refine (with_x ⟨#[120]⟩ ⟨#[98]⟩ (by decide) (by decide) _ _ ?_).mono ?_); (first | assumption | exact rd_r4 _ ⟨#[98]⟩); rintro r wn ⟨z, rfl, hzk, hzok, _, hbn⟩; have hSn := (Aw.step HG1.out (by assumption) hbn); unfold Aw at hSn)
        | (go_at_call 12; (with_reducible refine (may_k (⟨#[120]⟩, [⟨#[97]⟩]) A2 c2 O2 y 1 0 (by decide +kernel) (by omega) (by omega) _ (HR.out.below ?_) HK.out hyk ?_).mono ?_); (first | exact Aw.old hSn | exact Aw.old (Aw.alloc HG1.out hSn _)); (first | exact hyok | exact hyok.next (bel_al _ _)); rintro r wn ⟨rfl, hbn⟩; have hSn := (Aw.step HG1.out (by assumption) hbn); unfold Aw at hSn; (first | (have hRb := rd_next (s := ⟨#[98]⟩) hRb hbn) | (have hRb := rd_next (rd_r2 _ _ ⟨#[98]⟩) hbn) | (have hRb := rd_next (rd_r3 _ _ ⟨#[98]⟩) hbn) | (have hRb := rd_next (rd_r4 _ ⟨#[98]⟩) hbn) | skip))
        | (go_at_call 12; (with_reducible refine (may_n A2 c2 O2 ⟨#[120]⟩ (by decide) 4 141 _ (HR.out.below ?_) HK.out (by omega) (by omega) (by decide +kernel)).mono ?_); (first | exact Aw.old hSn | exact Aw.old (Aw.alloc HG1.out hSn _)); rintro r wn ⟨rfl, hbn⟩; have hSn := (Aw.step HG1.out (by assumption) hbn); unfold Aw at hSn; (first | (have hRb := rd_next (s := ⟨#[98]⟩) hRb hbn) | (have hRb := rd_next (rd_r2 _ _ ⟨#[98]⟩) hbn) | (have hRb := rd_next (rd_r3 _ _ ⟨#[98]⟩) hbn) | (have hRb := rd_next (rd_r4 _ ⟨#[98]⟩) hbn) | skip))
        | (go_at_call 12; (with_reducible refine (may_k (⟨#[120]⟩, [⟨#[98]⟩]) A2 c2 O2 z 5 0 (by decide +kernel) (by omega) (by omega) _ (HR.out.below ?_) HK.out hzk hzok).mono ?_); (first | exact Aw.old hSn | exact Aw.old (Aw.alloc HG1.out hSn _)); rintro r wn ⟨rfl, hbn⟩; have hSn := (Aw.step HG1.out (by assumption) hbn); unfold Aw at hSn))
    all_goals
      have HS3 := Lib.hid (show Aw W1 w.heap.size (w.heap.size + 1) wn from hSn)
      clear hSn
      go_wp2
      go_meet
      case rel => exact ⟨rfl, rfl, rfl, HS3.out⟩
  case rest =>
  obtain ⟨rfl, rfl, rfl, hS4⟩ := hcut
  have HS4 := Lib.hid hS4
  have hS0 : Aw W1 w.heap.size (w.heap.size + 1) wc.drew := ⟨hS4.1, hS4.2.1, hS4.2.2.1, hS4.2.2.2.1, Below.drew hS4.2.2.2.2⟩
  unfold Aw at hS0
  clear hS4
  go_wp2_with fail
  go_region_held3 (fun W => W.cell? ⟨w.heap.size, 0, none⟩ = some (.string ⟨#[120]⟩) ∧ W.cell? ⟨w.heap.size, 1, none⟩ = some (.slice none 0 0) ∧ W.cell? ⟨w.heap.size + 1, 0, none⟩ = some (.string ⟨#[121]⟩) ∧ W.cell? ⟨w.heap.size + 1, 1, none⟩ = some (.slice none 0 0) ∧ AwOld W1 W) (first | assumption | exact Aw.alloc HG1.out hSn _ | exact Aw.dal HG1.out hS0 _ | exact Aw.dal HG1.out (Aw.dal HG1.out hS0 _) _)
    (first
      | (go_at_call 25; (with_reducible refine (with_x ⟨#[121]⟩ ⟨#[97]⟩ (by decide) (by decide) _ _ ?_).mono ?_); (first | exact rd_r1 _ ⟨#[97]⟩ | exact rd_r2 _ _ ⟨#[97]⟩ | exact rd_r3 _ _ ⟨#[97]⟩); rintro r wn ⟨y, rfl, hyk, hyok, _, hbn⟩; (first | (have hSn := Aw.step HG1.out hSn hbn; unfold Aw at hSn) | (have hSn := Aw.step HG1.out (Aw.alloc HG1.out hSn _) hbn; unfold Aw at hSn) | (have hSn := Aw.step HG1.out (Aw.dal HG1.out hS0 _) hbn; unfold Aw at hSn) | (have hSn := Aw.step HG1.out (Aw.dal HG1.out (Aw.dal HG1.out hS0 _) _) hbn; unfold Aw at hSn)))
      | (go_at_call 12; (with_reducible refine (may_k (⟨#[121]⟩, [⟨#[97]⟩]) A2 c2 O2 y 1 141 (by decide +kernel) (by omega) (by omega) _ (HR.out.below ?_) HK.out hyk hyok).mono ?_); (first | exact Aw.old hSn | exact Aw.old (Aw.alloc HG1.out hSn _)); rintro r wn ⟨rfl, hbn⟩; (first | (have hSn := Aw.step HG1.out hSn hbn; unfold Aw at hSn) | (have hSn := Aw.step HG1.out (Aw.alloc HG1.out hSn _) hbn; unfold Aw at hSn) | (have hSn := Aw.step HG1.out (Aw.dal HG1.out hS0 _) hbn; unfold Aw at hSn) | (have hSn := Aw.step HG1.out (Aw.dal HG1.out (Aw.dal HG1.out hS0 _) _) hbn; unfold Aw at hSn)))
      | (go_at_call 12; (with_reducible refine (may_n A2 c2 O2 ⟨#[122]⟩ (by decide) 6 0 _ (HR.out.below ?_) HK.out (by omega) (by omega) (by decide +kernel)).mono ?_); (first | exact Aw.old hSn | exact Aw.old (Aw.alloc HG1.out hSn _)); rintro r wn ⟨rfl, hbn⟩; (first | (have hSn := Aw.step HG1.out hSn hbn; unfold Aw at hSn) | (have hSn := Aw.step HG1.out (Aw.alloc HG1.out hSn _) hbn; unfold Aw at hSn) | (have hSn := Aw.step HG1.out (Aw.dal HG1.out hS0 _) hbn; unfold Aw at hSn) | (have hSn := Aw.step HG1.out (Aw.dal HG1.out (Aw.dal HG1.out hS0 _) _) hbn; unfold Aw at hSn)))
      | (go_at_call 12; (with_reducible refine (may_n A2 c2 O2 ⟨#[120]⟩ (by decide) 0 2 _ (HR.out.below ?_) HK.out (by omega) (by omega) (by decide +kernel)).mono ?_); (first | exact Aw.old hSn | exact Aw.old (Aw.alloc HG1.out hSn _)); rintro r wn ⟨rfl, hbn⟩; (first | (have hSn := Aw.step HG1.out hSn hbn; unfold Aw at hSn) | (have hSn := Aw.step HG1.out (Aw.alloc HG1.out hSn _) hbn; unfold Aw at hSn) | (have hSn := Aw.step HG1.out (Aw.dal HG1.out hS0 _) hbn; unfold Aw at hSn) | (have hSn := Aw.step HG1.out (Aw.dal HG1.out (Aw.dal HG1.out hS0 _) _) hbn; unfold Aw at hSn))))
  have HB4 := Lib.hid (aw_old hSn)
  clear hSn hS0 hyk hyok hbn
  go_wp2_with fail
  refine (end_x A2 c2 O2 2 1 _ (HR.out.below HB4.out) HK.out (by decide +kernel)).mono ?_
  rintro r w5 ⟨A5, c5, rfl, h5⟩
  have HB5 := Lib.hid (Below.trans HB4.out (h5.mono (Below.size HB4.out)))
  clear h5
  go_wp2_with fail
  refine (end_x A2 c2 O2 1 0 _ (HR.out.below HB5.out) HK.out (by decide +kernel)).mono ?_
  rintro r w6 ⟨A6, c6, rfl, h6⟩
  have HB6 := Lib.hid (HB5.out.trans (h6.mono HB5.out.size))
  clear h6
  go_wp2_with fail
  refine (of_x A2 c2 O2 _ (HR.out.below HB6.out) HK.out).mono ?_
  rintro r w7 ⟨A7, c7, rfl, h7⟩
  have HB7 := Lib.hid (HB6.out.trans (h7.mono HB6.out.size))
  have HBF := Lib.hid (HB0.out.trans (((Below.trans (aw_old HS1.out) (HB7.out.mono (Below.size (aw_old HS1.out))) : Below W0.heap.size W0 w7)).mono HB0.out.size))
  clear h7
  go_wp2
  go_ret
  exact ⟨rfl, HBF.out⟩
end Go.Proofs.Ytfbhmamdckkimaa
