/- Threads: both tables in memory at once; each side's calls keep the other one; same. -/
import Derived.Test.YtnhhinlhfaapcaaRn
namespace Go.Proofs.Ytnhhinlhfaapcaa
open Go.RowKit
set_option linter.unusedVariables false
set_option linter.unusedSimpArgs false

structure Both (W : World) (B g B' g' : Nat) (t : Tab) (R : RTab) : Prop where
  tab : TabR W B g t
  ref : ∃ O, RTabO W B' g' O R ∧ Safe (rrow O R) W B g
section
variable {W W' : World} {B g B' g' k : Nat} {t t' : Tab} {R R' : RTab}
theorem rblk_tyF {v : Value} {O : Nat → Value} (h : RTabX W B' g' v O R) : ∀ q, (q = g' ∨ v.ownBlock = some q ∨ rrow O R q) → TyF W q := by
  intro q hq
  rcases hq with rfl | hq | ⟨i, hi, e⟩
  · exact ⟨70, h.blk.ty, by decide, by decide, by decide⟩
  · exact ⟨67, own_ty h.ol hq, by decide, by decide, by decide⟩
  · exact ⟨3, own_ty (h.oi i hi) e, by decide, by decide, by decide⟩
theorem Both.tl_ (h : Both W B g B' g' t R) (hl : Left W B g t' W') : Both W' B g B' g' t' R := by
  obtain ⟨hT, hB, hK⟩ := hl
  obtain ⟨O, ⟨v, hx⟩, hs⟩ := h.ref
  obtain ⟨hk, hs'⟩ := hK (fun q => q = g' ∨ v.ownBlock = some q ∨ rrow O R q) (fun q hq => rblk_tyF hx q hq) (fun t0 v0 S0 C0 hx0 i k q hi hk e hq => by
    have hty := own_ty (hx0.oi i k hi hk) e
    rcases hq with rfl | hq | hq
    · exact hty.ne hx.blk.ty (by decide) rfl
    · exact hty.ne (own_ty hx.ol hq) (by decide) rfl
    · exact hs t0 v0 S0 C0 hx0 i k q hi hk e hq)
  exact ⟨hT, O, ⟨v, hx.hB, hx.hn, (hk g' (.inl rfl)).trans hx.blk, own_at_ hx.ol (fun q hq => hk q (.inr (.inl hq))), fun i hi => own_at_ (hx.oi i hi) (fun q hq => hk q (.inr (.inr ⟨i, hi, hq⟩)))⟩, fun t0 v0 S0 C0 hx0 i k q hi hk0 e hq => hs' t0 v0 S0 C0 hx0 i k q hi hk0 e (.inr (.inr hq))⟩
theorem TabX.keepR {v : Value} {S : Nat → Value} {C : Nat → Nat → Value} (h : TabX W B g v S C t) (hk : KeepR W W') : TabX W' B g v S C t :=
  ⟨h.hB, h.hn, (hk g 56 h.blk.ty (by decide) (by decide)).trans h.blk, own_at_ h.ol (fun q hq => hk q 60 (own_ty h.ol hq) (by decide) (by decide)), fun i hi => (h.os i hi).at_ (fun q hq => hk q 29 ((h.os i hi).ty hq) (by decide) (by decide)), fun i k hi hk0 => own_at_ (h.oi i k hi hk0) (fun q hq => hk q 3 (own_ty (h.oi i k hi hk0) hq) (by decide) (by decide)), h.ds, h.di⟩
theorem Both.r_ {O : Nat → Value} (hT : TabR W B g t) (hs : Safe (rrow O R) W B g) (hl : RLeft W B' g' O R R' W') : Both W' B g B' g' t R' := by
  obtain ⟨O', hR, hB, hk, hq⟩ := hl
  obtain ⟨v, S, C, hx⟩ := hT
  have hx' := hx.keepR hk
  refine ⟨⟨v, S, C, hx'⟩, O', hR, fun t0 v0 S0 C0 hx0 i k q hi hk0 e hr => ?_⟩
  obtain ⟨e1, e2⟩ := hx'.uniq hx0
  obtain ⟨e3, e4⟩ := e2 i (by omega)
  rw [← e4 k (by omega)] at e
  rcases hq q hr with h | h
  · exact hs t v S C hx i k q (by omega) (by omega) e h
  · have := ((hx.oi i k (by omega) (by omega)).lt q e).2
    omega
theorem Both.below (h : Both W B g B' g' t R) (hb : Below W.heap.size W W') : Both W' B g B' g' t R := h.tl_ (Left.same h.tab hb)
theorem Both.new {w1 w2 : World} (hT : TabR w1 B g t) (hb : Below w1.heap.size w1 w2) (hR : RTabO w2 B' g' (fun _ => .slice none 0 0) R) : Both w2 B g B' g' t R :=
  ⟨hT.below hb, _, hR, fun t0 v0 S0 C0 _ i k q _ _ _ hq => by obtain ⟨_, _, e⟩ := hq; cases e⟩
/-! ### the calls -/
theorem bt_open (h : Both W B g B' g' t R) (ht : Tok k t) (hk : k ≤ 1000000) (n e : Int) (he : (if refB t n 0 then (2 : Int) else 0) = e) :
    Calls Try.prog 20 #[.pointer (some ⟨g, 0, none⟩), .int .i64 n] W fun r w' => r = .returned (.int .i64 e) ∧ Both w' B g B' g' (opnF t n) R ∧ Below B W w' := by
  subst he
  exact (open_ok hk h.tab ht n).mono fun r w' hh => ⟨hh.1, h.tl_ hh.2, hh.2.2.1⟩
theorem bt_spawn (h : Both W B g B' g' t R) (ht : Tok k t) (hk : k ≤ 1000000) (n m e : Int) (hm : spnN t n = m) (he : spnE t n = e) :
    Calls Try.prog 21 #[.pointer (some ⟨g, 0, none⟩), .int .i64 n] W fun r w' => r = .returned (.tuple #[.int .i64 m, .int .i64 e]) ∧ Both w' B g B' g' (spnF t n) R ∧ Below B W w' := by
  subst he; subst hm
  exact (spawn_ok hk h.tab ht n).mono fun r w' hh => ⟨hh.1, h.tl_ hh.2, hh.2.2.1⟩
theorem bt_end (h : Both W B g B' g' t R) (n : Int) (p : Bool) (e : Int) (he : (if endBad t n then (2 : Int) else 0) = e) :
    Calls Try.prog 19 #[.pointer (some ⟨g, 0, none⟩), .int .i64 n, .bool p] W fun r w' => r = .returned (.int .i64 e) ∧ Both w' B g B' g' (endF t n p) R ∧ Below B W w' := by
  subst he
  exact (end_ok h.tab n p).mono fun r w' hh => ⟨hh.1, h.tl_ hh.2, hh.2.2.1⟩
theorem bt_close (h : Both W B g B' g' t R) (ht : Tok k t) (n : Int) (p : Bool) (e : Int) (hp : clsP t n = p) (he : clsE t n = e) :
    Calls Try.prog 17 #[.pointer (some ⟨g, 0, none⟩), .int .i64 n] W fun r w' => r = .returned (.tuple #[.bool p, .int .i64 e]) ∧ Both w' B g B' g' (clsF t n) R ∧ Below B W w' := by
  subst he; subst hp
  exact (close_ok h.tab ht n).mono fun r w' hh => ⟨hh.1, h.tl_ hh.2, hh.2.2.1⟩
theorem RLeft.bel {w w' : World} {B g : Nat} {O : Nat → Value} {R R' : RTab} (h : RLeft w B g O R R' w') : Below B w w' := by
  obtain ⟨_, _, hb, _⟩ := h
  exact hb
theorem br_open (h : Both W B g B' g' t R) (hR : ∀ i, i < R.n → (R.th i).opn.length ≤ 1000 ∧ (R.th i).opened ≤ 1000) (n e : Int) (he : (if (rat R n).ended then (2 : Int) else 0) = e) :
    Calls Try.prog 24 #[.pointer (some ⟨g', 0, none⟩), .int .i64 n] W fun r w' => r = .returned (.int .i64 e) ∧ Both w' B g B' g' t (rOpn R n) ∧ Below B' W w' := by
  subst he
  obtain ⟨O, hO, hs⟩ := h.ref
  exact (r_open g' B' O R n W hO hR).mono fun r w' hh => ⟨hh.1, Both.r_ h.tab hs hh.2, hh.2.bel⟩
theorem br_spawn (h : Both W B g B' g' t R) (hN : R.n ≤ 16) (hR : ∀ i, i < R.n → (R.th i).opn.length ≤ 1000 ∧ (R.th i).opened ≤ 1000) (n m e : Int) (hm : rSpnN R n = m) (he : rSpnE R n = e) :
    Calls Try.prog 25 #[.pointer (some ⟨g', 0, none⟩), .int .i64 n] W fun r w' => r = .returned (.tuple #[.int .i64 m, .int .i64 e]) ∧ Both w' B g B' g' t (rSpn R n) ∧ Below B' W w' := by
  subst he; subst hm
  obtain ⟨O, hO, hs⟩ := h.ref
  exact (r_spawn g' B' O R n W hO (by omega) (fun i hi => (hR i hi).1)).mono fun r w' hh => ⟨hh.1, Both.r_ h.tab hs hh.2, hh.2.bel⟩
theorem br_end (h : Both W B g B' g' t R) (n : Int) (p : Bool) (e : Int) (he : (if rEndBad R n then (2 : Int) else 0) = e) :
    Calls Try.prog 26 #[.pointer (some ⟨g', 0, none⟩), .int .i64 n, .bool p] W fun r w' => r = .returned (.int .i64 e) ∧ Both w' B g B' g' t (rEnd R n p) ∧ Below B' W w' := by
  subst he
  obtain ⟨O, hO, hs⟩ := h.ref
  exact (r_end g' B' O R n p W hO).mono fun r w' hh => ⟨hh.1, Both.r_ h.tab hs hh.2, hh.2.bel⟩
theorem br_close (h : Both W B g B' g' t R) (hN : R.n ≤ 16) (hR : ∀ i, i < R.n → (R.th i).opn.length ≤ 1000 ∧ (R.th i).opened ≤ 1000) (n : Int) (p : Bool) (e : Int) (hp : rClsP R n = p) (he : (if rClsBad R n then (2 : Int) else 0) = e) :
    Calls Try.prog 27 #[.pointer (some ⟨g', 0, none⟩), .int .i64 n] W fun r w' => r = .returned (.tuple #[.bool p, .int .i64 e]) ∧ Both w' B g B' g' t (rCls R n) ∧ Below B' W w' := by
  subst he; subst hp
  obtain ⟨O, hO, hs⟩ := h.ref
  exact (r_close g' B' O R n W hO (by omega) (fun i hi => (hR i hi).1)).mono fun r w' hh => ⟨hh.1, Both.r_ h.tab hs hh.2, hh.2.bel⟩
end
/-! ### same -/
set_option maxRecDepth 100000 in
set_option maxHeartbeats 3200000 in
theorem same_any (b1 b2 : Nat) (v1 v2 : Value) (L : List Nat) (W : World) (h1 : W.ownsRow b1 3 1 v1 L.length (L.map natV)) (h2 : W.ownsRow b2 3 1 v2 L.length (L.map natV)) (hL : L.length ≤ 1000) :
    Calls Try.prog 38 #[v1, v2] W fun r w' => r = .returned (.bool true) ∧ Below W.heap.size W w' := by
  obtain ⟨n, hn⟩ : ∃ n, L.length = n := ⟨_, rfl⟩
  rw [hn] at h1 h2 hL
  obtain ⟨A1, c1, rfl⟩ := own_slice h1
  obtain ⟨A2, c2, rfl⟩ := own_slice h2
  have H1 := Lib.hid h1
  have H2 := Lib.hid h2
  have HN := Lib.hid hn
  clear h1 h2 hn
  go_enter Try.func38, Try.ntmps38
  go_wp2
  go_loopw [5] (fun i wr => ∃ k : Nat, k ≤ n ∧ i = .int .i64 k ∧ Below W.heap.size W wr) (fun i _ => n - (intOf i).toNat)
  case atStart => exact ⟨0, by omega, rfl, Below.refl _ _⟩
  case round =>
    obtain ⟨k, hk, rfl, hB⟩ := hrel
    have HB := Lib.hid hB
    by_cases hl : k < n
    · have hlI : (k : Int) < (n : Int) := by omega
      have hk0 : (0 : Int) ≤ (k : Int) := by omega
      obtain ⟨x, hx⟩ : ∃ x, L[k]? = some x := ⟨_, List.getElem?_eq_getElem (by rw [HN.out]; exact hl)⟩
      obtain ⟨g1, rfl⟩ : ∃ g1, A1 = some ⟨g1, 0, none⟩ := by
        rcases H1.out.2 with ⟨h1, h2⟩ | ⟨gm, cap, cur, h1, _⟩
        · omega
        · rw [Value.slice.injEq] at h1; exact ⟨gm, h1.1⟩
      obtain ⟨g2, rfl⟩ : ∃ g2, A2 = some ⟨g2, 0, none⟩ := by
        rcases H2.out.2 with ⟨h1, h2⟩ | ⟨gm, cap, cur, h1, _⟩
        · omega
        · rw [Value.slice.injEq] at h1; exact ⟨gm, h1.1⟩
      have d1 : wr.cell? ⟨g1, k, none⟩ = some (.int .i64 x) := by
        have h := (own_below H1.out hB).cellAt k (by omega)
        rw [List.getElem?_map, hx] at h
        exact h
      have d2 : wr.cell? ⟨g2, k, none⟩ = some (.int .i64 x) := by
        have h := (own_below H2.out hB).cellAt k (by omega)
        rw [List.getElem?_map, hx] at h
        exact h
      clear hx hB
      go_upto_region 6 with fail
      go_region
      all_goals
        go_wp2
        go_roundw
        case rel => exact ⟨k + 1, by omega, by go_num, HB.out.drew⟩
        case measure => simp [intOf] <;> omega
    · obtain rfl : n = k := by omega
      clear hB
      go_wp2
      go_ret
      exact ⟨rfl, HB.out⟩
end Go.Proofs.Ytnhhinlhfaapcaa
