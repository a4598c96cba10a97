/- Loans: the contract of spoil: it writes into what is its argument's own, and nowhere else. -/
import Derived.Test.YtfbhmamdckkimaaLoH
import Derived.Laws.OwnMore
namespace Go.Proofs.Ytfbhmamdckkimaa
open Go.RowKit
set_option linter.unusedVariables false
set_option linter.unusedSimpArgs false

/-- a row of texts of its own, whatever they are -/
def TxAny (W : World) (B : Nat) (A : Option Addr) (c n : Nat) : Prop := ∃ xs, W.ownsRow B 9 1 (.slice A n c) n xs
theorem TxAny.set_ {W : World} {B : Nat} {A : Option Addr} {c n : Nat} (h : TxAny W B A c n) (b o : Nat) (u : Value) : TxAny (W.setCell ⟨b, o, none⟩ u) B A c n := by
  obtain ⟨xs, h⟩ := h
  by_cases hb : (Value.slice A n c).ownBlock = some b
  · rcases h.2 with ⟨h1, h2⟩ | ⟨g, cap, cur, h1, _⟩
    · injection h1 with h1
      subst h1
      cases hb
    · injection h1 with h1
      subst h1
      cases hb
      exact ⟨_, (h.stored o u).1⟩
  · refine ⟨xs, h.kept (row := some b) ⟨rfl, rfl, rfl, by simp [World.setCell], fun k _ hk => Below.heap_setCell _ _ _ k (fun e => hk (by rw [e]))⟩ ?_⟩
    cases hv : (Value.slice A n c).ownBlock with
    | none => exact .inl rfl
    | some g => exact .inr (fun e => hb (hv.trans e))
theorem TxAny.at_ {W : World} {B : Nat} {A : Option Addr} {c n k : Nat} (h : TxAny W B A c n) (hk : k < n) :
    ∃ g u, A = some ⟨g, 0, none⟩ ∧ B ≤ g ∧ W.cell? ⟨g, k, none⟩ = some u ∧ W.frozen? ⟨g, k, none⟩ = false := by
  obtain ⟨xs, h⟩ := h
  obtain ⟨g, rfl⟩ : ∃ g, A = some ⟨g, 0, none⟩ := by
    rcases h.2 with ⟨h1, h2⟩ | ⟨g, cap, cur, h1, _⟩
    · omega
    · injection h1 with h1
      exact ⟨g, h1⟩
  have hl := h.1
  obtain ⟨u, hu⟩ : ∃ u, xs[k]? = some u := ⟨_, List.getElem?_eq_getElem (by omega)⟩
  exact ⟨g, u, rfl, (h.lt g rfl).1, (h.cellAt k (by omega)).trans hu, h.frozenAt k⟩

/-- a book of its own, whose depths and steps may have been written over -/
structure SpRow (W : World) (B : Nat) (A : Option Addr) (c len : Nat) (O : List Lo) : Prop where
  ex : ∃ xs, W.ownsRow B 36 4 (.slice A len c) len xs ∧ ∀ j x, O[j]? = some x → xs[j * 4 + 1]? = some (.slice x.pl.pa x.pl.path.length x.pl.pc)
  ty : ∀ y ∈ O, TxAny W B y.pl.pa y.pl.pc y.pl.path.length
theorem SpRow.below {W W' : World} {B : Nat} {A : Option Addr} {c len : Nat} {O : List Lo} (h : SpRow W B A c len O) (hb : Below W.heap.size W W') : SpRow W' B A c len O := by
  obtain ⟨⟨xs, h1, h2⟩, h3⟩ := h
  exact ⟨⟨xs, own_below h1 hb, h2⟩, fun y hy => by obtain ⟨xs, hx⟩ := h3 y hy; exact ⟨xs, own_below hx hb⟩⟩
/-- its blocks lie before N -/
def LtRow (N : Nat) (A : Option Addr) (O : List Lo) : Prop := (∀ g, A = some ⟨g, 0, none⟩ → g < N) ∧ ∀ y ∈ O, ∀ g, y.pl.pa = some ⟨g, 0, none⟩ → g < N
theorem LtRow.more {N M : Nat} {A : Option Addr} {O : List Lo} (h : LtRow N A O) (hm : N ≤ M) : LtRow M A O := ⟨fun g hg => Nat.lt_of_lt_of_le (h.1 g hg) hm, fun y hy g hg => Nat.lt_of_lt_of_le (h.2 y hy g hg) hm⟩
theorem lt_of {W : World} {B : Nat} {A : Option Addr} {c len n s : Nat} {O : List Lo} {e : TypeId} {xs : List Value} (hown : W.ownsRow B e s (.slice A len c) n xs) (hok : ∀ y ∈ O, LoOwn W B y) : LtRow W.heap.size A O :=
  ⟨fun g hg => (hown.lt g (by rw [hg]; rfl)).2, fun y hy g hg => ((hok y hy).pl.own.lt g (by rw [hg]; rfl)).2⟩
/-- what the spoiling of rows before N keeps -/
structure Spoilt (N : Nat) (w w' : World) : Prop where
  row : ∀ (B : Nat) (A : Option Addr) (c len : Nat) (O : List Lo), SpRow w B A c len O → SpRow w' B A c len O
  far : ∀ (B : Nat) (e : TypeId) (s n : Nat) (v : Value) (xs : List Value), N ≤ B → w.ownsRow B e s v n xs → w'.ownsRow B e s v n xs
theorem Spoilt.refl (N : Nat) (w : World) : Spoilt N w w := ⟨fun _ _ _ _ _ h => h, fun _ _ _ _ _ _ _ h => h⟩
theorem Spoilt.trans {N : Nat} {w w' w'' : World} (h : Spoilt N w w') (h' : Spoilt N w' w'') : Spoilt N w w'' := ⟨fun B A c len O hs => h'.row B A c len O (h.row B A c len O hs), fun B e s n v xs hB hs => h'.far B e s n v xs hB (h.far B e s n v xs hB hs)⟩
theorem Spoilt.own {N : Nat} {w w' : World} (h : Spoilt N w w') {B : Nat} (hB : N ≤ B) {y : Lo} (hy : LoOwn w B y) : LoOwn w' B y := ⟨⟨h.far _ _ _ _ _ _ hB hy.pl.own, hy.pl.wn, hy.pl.wp⟩, hy.wt⟩
theorem far_set {N g q : Nat} {W : World} (hg : g < N) (u : Value) (B : Nat) (e : TypeId) (s n : Nat) (v : Value) (xs : List Value) (hB : N ≤ B) (h : W.ownsRow B e s v n xs) : (W.setCell ⟨g, q, none⟩ u).ownsRow B e s v n xs := by
  refine h.kept (row := some g) ⟨rfl, rfl, rfl, by simp [World.setCell], fun k _ hk => Below.heap_setCell _ _ _ k (fun e => hk (by rw [e]))⟩ ?_
  cases hv : v.ownBlock with
  | none => exact .inl rfl
  | some g' =>
    have := (h.lt g' hv).1
    exact .inr (fun e => by injection e with e; omega)
theorem spoilt_text {W : World} {B g c n q : Nat} {xs : List Value} (h : W.ownsRow B 9 1 (.slice (some ⟨g, 0, none⟩) n c) n xs) (u : Value) {N : Nat} (hN : g < N) : Spoilt N W (W.setCell ⟨g, q, none⟩ u) := by
  refine ⟨?_, far_set hN u⟩
  rintro B' A' c' len' O' ⟨⟨ys, h1, h2⟩, h3⟩
  exact ⟨⟨ys, World.ownsRow.kept h1 (h.stored q u).2 (own_ne h1 h (by decide)), h2⟩, fun y hy => (h3 y hy).set_ g q u⟩
theorem spoilt_till {W : World} {B g c n k : Nat} {xs : List Value} (h : W.ownsRow B 36 4 (.slice (some ⟨g, 0, none⟩) n c) n xs) (u : Value) {N : Nat} (hN : g < N) : Spoilt N W (W.setCell ⟨g, k * 4 + 3, none⟩ u) := by
  refine ⟨?_, far_set hN u⟩
  rintro B' A' c' len' O' ⟨⟨ys, h1, h2⟩, h3⟩
  refine ⟨?_, fun y hy => (h3 y hy).set_ g (k * 4 + 3) u⟩
  by_cases hb : (Value.slice A' len' c').ownBlock = some g
  · rcases h1.2 with ⟨e1, _⟩ | ⟨g', cap, cur, e1, _⟩
    · injection e1 with e1
      subst e1
      cases hb
    · injection e1 with e1
      subst e1
      cases hb
      exact ⟨_, (h1.stored (k * 4 + 3) u).1, fun j x hx => by rw [List.getElem?_set_ne (by omega)]; exact h2 j x hx⟩
  · refine ⟨ys, World.ownsRow.kept h1 (h.stored (k * 4 + 3) u).2 ?_, h2⟩
    cases hv : (Value.slice A' len' c').ownBlock with
    | none => exact .inl rfl
    | some g' => exact .inr (fun e => hb (hv.trans e))
theorem sp_of {W : World} {B : Nat} {A : Option Addr} {c len : Nat} {O : List Lo} (hown : W.ownsRow B 36 4 (.slice A len c) len (O.flatMap loC)) (hok : ∀ y ∈ O, LoOwn W B y) : SpRow W B A c len O :=
  ⟨⟨_, hown, fun j x hx => flat_at loC_len O j x hx 1 _ rfl⟩, fun y hy => ⟨_, (hok y hy).pl.own⟩⟩

set_option maxHeartbeats 3200000 in
theorem spoil_any (A : Option Addr) (len c B : Nat) (O : List Lo) (w : World) (hO : O.length = len) (hl : len ≤ 1000) (hsp : SpRow w B A c len O) (N : Nat) (hlt : LtRow N A O) (hpl : ∀ y ∈ O, y.pl.path.length ≤ 1000000) :
    Calls Try.prog 24 #[.slice A len c] w fun r w' => r = .returned (.tuple #[]) ∧ Below B w w' ∧ w.heap.size ≤ w'.heap.size ∧ Spoilt N w w' := by
  have HLT := Lib.hid hlt
  have HOL := Lib.hid hO
  have HPL := Lib.hid hpl
  have H := Lib.hid hsp
  clear hO hpl hsp hlt
  go_enter Try.func24, Try.ntmps24
  go_wp2
  go_loopw [2] (fun i wr => ∃ k : Nat, k ≤ len ∧ i = .int .i64 k ∧ Spoilt N w wr ∧ Below B w wr ∧ w.heap.size ≤ wr.heap.size) (fun i _ => len - (intOf i).toNat)
  case atStart => exact ⟨0, by omega, rfl, Spoilt.refl _ _, Below.refl _ _, Nat.le_refl _⟩
  case round =>
    obtain ⟨k, hk, rfl, hsp, hbl, hsz⟩ := hrel
    have HSP := Lib.hid hsp
    have HBL := Lib.hid hbl
    have HSZ := Lib.hid hsz
    clear hsp hbl hsz
    by_cases hlt : k < len
    · have hki : (k : Int) < (len : Int) := by omega
      obtain ⟨y, hy⟩ : ∃ y, O[k]? = some y := ⟨_, List.getElem?_eq_getElem (by rw [HOL.out]; exact hlt)⟩
      have hmem := List.mem_of_getElem? hy
      have HMEM := Lib.hid hmem
      have HY := Lib.hid hy
      have hly := HPL.out y hmem
      obtain ⟨gl, hA⟩ : ∃ g, A = some ⟨g, 0, none⟩ := by
        obtain ⟨xs, h0, _⟩ := H.out.ex
        rcases h0.2 with ⟨h1, h2⟩ | ⟨g, cap, cur, h1, _⟩
        · omega
        · injection h1 with h1
          exact ⟨g, h1⟩
      subst hA
      obtain ⟨ly, hlye⟩ : ∃ n, y.pl.path.length = n := ⟨_, rfl⟩
      have HLY := Lib.hid hlye
      rw [hlye] at hly
      clear hy hmem hlye
      go_wp2
      go_loopw [3] (fun i wq => ∃ q : Nat, q ≤ ly ∧ i = .int .i64 q ∧ Spoilt N w wq ∧ Below B w wq ∧ w.heap.size ≤ wq.heap.size) (fun i _ => ly - (intOf i).toNat)
      case atStart => exact ⟨0, by omega, rfl, HSP.out, HBL.out, HSZ.out⟩
      case round =>
        obtain ⟨q, hq, rfl, hsp, hbl, hsz⟩ := hrel
        have HSP2 := Lib.hid hsp
        have HR2 := Lib.hid (hsp.row B _ c len O H.out)
        have HBL2 := Lib.hid hbl
        have HSZ2 := Lib.hid hsz
        obtain ⟨xs, hrow, hxs⟩ := HR2.out.ex
        have HROW := Lib.hid hrow
        have c1 := (hrow.cellAt (k * 4 + 1) (by omega)).trans (hxs k y HY.out)
        rw [HLY.out] at c1
        clear hrow hsp hbl hsz hxs
        by_cases hlq : q < ly
        · have hqi : (q : Int) < (ly : Int) := by omega
          have htx := HR2.out.ty y HMEM.out
          rw [HLY.out] at htx
          obtain ⟨g, u, hpa, hBg, hcell, hfr⟩ := htx.at_ hlq
          obtain ⟨xs0, hx0⟩ := htx
          rw [hpa] at c1 hx0
          have HA1 := Lib.hid (HSP2.out.trans (spoilt_text (q := q) hx0 (.string ⟨#[63]⟩) (HLT.out.2 y HMEM.out g hpa)))
          have HA3 := Lib.hid (HBL2.out.setCell (p := ⟨g, q, none⟩) hBg (.string ⟨#[63]⟩))
          have HA4 := Lib.hid (show w.heap.size ≤ (wr.setCell ⟨g, q, none⟩ (.string ⟨#[63]⟩)).heap.size by simpa using HSZ2.out)
          clear hx0 hpa
          go_wp2
          go_roundw
          case rel => exact ⟨q + 1, by omega, by go_num, HA1.out, HA3.out, HA4.out⟩
          case measure => simp [intOf] <;> omega
        · have hqi : ¬ (q : Int) < (ly : Int) := by omega
          have hxl := HROW.out.1
          obtain ⟨u, hu⟩ : ∃ u, xs[k * 4 + 3]? = some u := ⟨_, List.getElem?_eq_getElem (by omega)⟩
          have c3 := (HROW.out.cellAt (k * 4 + 3) (by omega)).trans hu
          have f3 := HROW.out.frozenAt (k * 4 + 3)
          have HA1 := Lib.hid (HSP2.out.trans (spoilt_till (k := k) HROW.out (.int .i64 (-7)) (HLT.out.1 gl rfl)))
          have HA3 := Lib.hid (HBL2.out.setCell (p := ⟨gl, k * 4 + 3, none⟩) (HROW.out.lt gl rfl).1 (.int .i64 (-7)))
          have HA4 := Lib.hid (show w.heap.size ≤ (wr.setCell ⟨gl, k * 4 + 3, none⟩ (.int .i64 (-7))).heap.size by simpa using HSZ2.out)
          clear hxl hu
          go_wp2
          go_roundw
          case rel => exact ⟨k + 1, by omega, by go_num, HA1.out, HA3.out, HA4.out⟩
          case measure => simp [intOf] <;> omega
    · have hki : ¬ (k : Int) < (len : Int) := by omega
      go_wp2
      go_end0
      exact ⟨rfl, HBL.out, HSZ.out, HSP.out⟩
end Go.Proofs.Ytfbhmamdckkimaa
