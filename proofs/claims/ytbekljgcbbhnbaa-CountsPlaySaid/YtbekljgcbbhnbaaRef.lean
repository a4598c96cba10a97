/- Counts: contracts of the document's own counts (Of, Add, Less): a list of owners. -/
import Derived.Test.YtbekljgcbbhnbaaActs
import Derived.Test.YtbekljgcbbhnbaaApp
namespace Go.Proofs.Ytbekljgcbbhnbaa
open Go.ChangeShapes Go.WideShapes Go.RowKit

abbrev One := Int × Int
def oneC (x : One) : List Value := [.int .i64 x.1, .int .i64 x.2]
theorem cells46 : Try.prog.cellsOf 46 = 2 := by kernel_rfl

/-- how many a list has of one -/
def many (L : List One) (i e : Int) : Int := (L.countP (fun x => x.1 == i && x.2 == e) : Nat)

/-- the document's counts at block gr: the owners L, in a row of the call's own from block B on -/
def RIs (w : World) (B gr : Nat) (L : List One) : Prop :=
  B ≤ gr ∧ ∃ v, Blk w gr 28 #[v] ∧ w.ownsRow B 46 2 v L.length (L.flatMap oneC)

theorem Rd.one {w : World} {B : Nat} {A : Option Addr} {L : List One} (h : Rd w B 2 oneC A L) {k : Nat} (hk : k < L.length) :
    ∃ b off i e, L[k]? = some (i, e) ∧ A = some ⟨b, off, none⟩ ∧ b < B ∧ w.cell? ⟨b, off + k * 2, none⟩ = some (.int .i64 i) ∧ w.cell? ⟨b, off + k * 2 + 1, none⟩ = some (.int .i64 e) := by
  obtain ⟨b, off, hA, hb, hc⟩ := h.at_ hk
  have e : L[k]? = some L[k] := List.getElem?_eq_getElem hk
  obtain ⟨i, x, hx⟩ : ∃ i x, L[k] = (i, x) := ⟨_, _, rfl⟩
  rw [hx] at hc e
  exact ⟨b, off, i, x, e, hA, hb, by simpa using hc 0 _ rfl, hc 1 _ rfl⟩

theorem many_take (L : List One) (i e : Int) (k : Nat) {a b : Int} (h : L[k]? = some (a, b)) : many (L.take (k + 1)) i e = many (L.take k) i e + if a = i ∧ b = e then 1 else 0 := by
  unfold many
  rw [List.take_add_one, h]
  simp only [Option.toList_some, List.countP_append, List.countP_cons, List.countP_nil]
  by_cases hc : a = i ∧ b = e
  · simp [hc]
  · have : (a == i && b == e) = false := by simpa using hc
    simp [hc, this]

set_option maxHeartbeats 400000 in
theorem refOf_any (B gr : Nat) (L : List One) (i e : Int) (w : World) (h : RIs w B gr L) (hL : L.length ≤ 1000000) :
    Calls Try.prog 14 #[.pointer (some ⟨gr, 0, none⟩), .int .i64 i, .int .i64 e] w fun r w' => r = .returned (.int .i64 (many L i e)) ∧ w = w' := by
  obtain ⟨_, v, hb, hown⟩ := h
  obtain ⟨A, c, rfl, hrd, hlc, _⟩ := own_rd (cells := oneC) (fun _ => rfl) hown
  have h0 := hb.cell 0
  simp at h0
  obtain ⟨n, hn⟩ : ∃ n, n = L.length := ⟨_, rfl⟩
  rw [← hn] at h0 hL hlc
  have HN := Lib.hid hn
  clear hn hown
  go_enter Try.func14, Try.ntmps14
  go_wp2
  go_loop [7, 8] (fun t j => ∃ k : Nat, k ≤ n ∧ j = .int .i64 k ∧ t = .int .i64 (many (L.take k) i e)) (fun _ j => n - (intOf j).toNat)
  case atStart => exact ⟨0, by omega, rfl, rfl⟩
  case round =>
    obtain ⟨k, hk, rfl, rfl⟩ := hrel
    by_cases hlt : k < n
    · obtain ⟨b, off, a, x, hx, rfl, hbb, hc0, hc1⟩ := hrd.one (by rw [← HN.out]; exact hlt)
      have hmt := many_take L i e k hx
      have hm0 : 0 ≤ many (L.take k) i e ∧ many (L.take k) i e ≤ k := by
        unfold many
        have := List.countP_le_length (p := fun x : One => x.1 == i && x.2 == e) (l := L.take k)
        have h2 : (L.take k).length ≤ k := List.length_take_le _ _
        omega
      obtain ⟨m, hm⟩ : ∃ m, m = many (L.take k) i e := ⟨_, rfl⟩
      rw [← hm] at hmt hm0 ⊢
      have HMT := Lib.hid hmt
      clear hmt hm
      go_wp2
      all_goals
        go_round
        case rel => exact ⟨k + 1, by omega, by go_num, by rw [HMT.out]; first | rw [if_pos ⟨by assumption, by assumption⟩] | (rw [if_neg (by omega)]; go_num)⟩
        case measure => simp [intOf] <;> omega
    · obtain rfl : k = n := by omega
      have hfin : L.take k = L := List.take_of_length_le (by rw [← HN.out]; exact Nat.le_refl _)
      rw [hfin]
      clear hfin
      go_wp2
      go_ret
      exact ⟨rfl, rfl⟩

theorem info46 : (Try.prog.info? 46).map (fun i => (i.zero, i.size, i.bytes)) = some (some (.agg #[.int .i64 0, .int .i64 0]), 2, 16) := by kernel_rfl

theorem RIs.set {w w1 : World} {B gr : Nat} {L' : List One} {v v' : Value} (hB : B ≤ gr) (hb : Blk w1 gr 28 #[v]) (hown : w1.ownsRow B 46 2 v' L'.length (L'.flatMap oneC)) (_h : w = w) : RIs (w1.setCell ⟨gr, 0, none⟩ v') B gr L' := by
  refine ⟨hB, v', by simpa using hb.set_ 0 v', ?_⟩
  have hne := own_blk_ne hown hb (by decide)
  exact hown.kept (row := some gr) ⟨rfl, rfl, rfl, by simp [World.setCell], fun k _ hk => Below.heap_setCell _ _ _ k (fun e => hk (by rw [e]))⟩ (.inr hne)

set_option maxHeartbeats 400000 in
theorem refAdd0 (B gr : Nat) (L : List One) (i : Int) (w : World) (h : RIs w B gr L) (hL : L.length < 1000) (_hi : (Lit.int .i64 i).wf = true) :
    Calls Try.prog 12 #[.pointer (some ⟨gr, 0, none⟩), .int .i64 i, .int .i64 0] w fun r w' => r = .returned (.int .i64 (many (L ++ [(i, 0)]) i 0)) ∧ RIs w' B gr (L ++ [(i, 0)]) ∧ Below B w w' := by
  obtain ⟨hBg, v, hb, hown⟩ := h
  obtain ⟨i0, hi0, hz0, hz1, hz2⟩ := info_parts info46
  have h0 := hb.cell 0
  simp at h0
  have hgl := hb.lt
  obtain ⟨n, hn⟩ : ∃ n, n = L.length := ⟨_, rfl⟩
  rw [← hn] at hown hL
  have HN := Lib.hid hn
  clear hn
  go_enter Try.func12, Try.ntmps12
  go_wp2_with (at_builtin; (refine wpList_append_own _ rfl _ _ 26 rfl B 46 i0 (.agg #[.int .i64 0, .int .i64 0]) 2 16 Try.underlying26 hi0 hz0 hz1 hz2 rfl (by decide) _ n (L.flatMap oneC) rfl (hown.alloc _) ⟨w.heap.size, 0, none⟩ 1 1 [.int .i64 i, .int .i64 0] rfl rfl (cell_two_new _ _ _ _) ?c2 ?c3 ?c4 ?c5 ?_))
  case c2 => intro u hu; simp at hu; rcases hu with rfl | rfl <;> rfl
  case c3 => unfold maxLen; omega
  case c4 => omega
  case c5 => simp; omega
  intro v' w1 hown' hg _
  obtain ⟨g', cap', rfl⟩ := own_succ hown'
  have hne := own_blk_ne hown hb (by decide)
  have hb1 : Blk w1 gr 28 #[v] := (hb.alloc _).grown hg (fun e => hne e.symm)
  have q0 := hb1.cell 0
  have q1 := hb1.frozen 0
  simp at q0
  have hlen : n + 1 = (L ++ [(i, 0)]).length := by simp [← HN.out]
  have hflat : L.flatMap oneC ++ [.int .i64 i, .int .i64 0] = (L ++ [(i, 0)]).flatMap oneC := by simp [oneC]
  rw [hlen, hflat] at hown'
  have hR := RIs.set (w := w1) hBg hb1 hown' rfl
  have hB1 : Below B w w1 := ((Below.refl _ w).alloc (by omega) _).grown hg (by simp; omega) (fun k e => (hown.lt k e).1)
  have hB2 := hB1.setCell (p := ⟨gr, 0, none⟩) hBg (.slice (some ⟨g', 0, none⟩) (L ++ [(i, 0)]).length cap')
  have hof := refOf_any B gr _ i 0 _ hR (by rw [← hlen]; omega)
  rw [← hlen] at hof hR hB2
  have HOF := Lib.hid hof
  have HR := Lib.hid hR
  have HB2 := Lib.hid hB2
  clear hof hR hB2 hlen hflat hown' hown hg
  go_wp2_with (go_at_call 14; refine HOF.out.mono ?_; rintro r w' ⟨rfl, rfl⟩)
  go_ret
  exact ⟨rfl, HR.out, HB2.out⟩

set_option maxHeartbeats 400000 in
theorem refAdd1 (B gr : Nat) (L : List One) (i : Int) (w : World) (h : RIs w B gr L) (hL : L.length < 1000) (_hi : (Lit.int .i64 i).wf = true) :
    Calls Try.prog 12 #[.pointer (some ⟨gr, 0, none⟩), .int .i64 i, .int .i64 1] w fun r w' => r = .returned (.int .i64 (many (L ++ [(i, 1)]) i 1)) ∧ RIs w' B gr (L ++ [(i, 1)]) ∧ Below B w w' := by
  obtain ⟨hBg, v, hb, hown⟩ := h
  obtain ⟨i0, hi0, hz0, hz1, hz2⟩ := info_parts info46
  have h0 := hb.cell 0
  simp at h0
  have hgl := hb.lt
  obtain ⟨n, hn⟩ : ∃ n, n = L.length := ⟨_, rfl⟩
  rw [← hn] at hown hL
  have HN := Lib.hid hn
  clear hn
  go_enter Try.func12, Try.ntmps12
  go_wp2_with (at_builtin; (refine wpList_append_own _ rfl _ _ 26 rfl B 46 i0 (.agg #[.int .i64 0, .int .i64 0]) 2 16 Try.underlying26 hi0 hz0 hz1 hz2 rfl (by decide) _ n (L.flatMap oneC) rfl (hown.alloc _) ⟨w.heap.size, 0, none⟩ 1 1 [.int .i64 i, .int .i64 1] rfl rfl (cell_two_new _ _ _ _) ?c2 ?c3 ?c4 ?c5 ?_))
  case c2 => intro u hu; simp at hu; rcases hu with rfl | rfl <;> rfl
  case c3 => unfold maxLen; omega
  case c4 => omega
  case c5 => simp; omega
  intro v' w1 hown' hg _
  obtain ⟨g', cap', rfl⟩ := own_succ hown'
  have hne := own_blk_ne hown hb (by decide)
  have hb1 : Blk w1 gr 28 #[v] := (hb.alloc _).grown hg (fun e => hne e.symm)
  have q0 := hb1.cell 0
  have q1 := hb1.frozen 0
  simp at q0
  have hlen : n + 1 = (L ++ [(i, 1)]).length := by simp [← HN.out]
  have hflat : L.flatMap oneC ++ [.int .i64 i, .int .i64 1] = (L ++ [(i, 1)]).flatMap oneC := by simp [oneC]
  rw [hlen, hflat] at hown'
  have hR := RIs.set (w := w1) hBg hb1 hown' rfl
  have hB1 : Below B w w1 := ((Below.refl _ w).alloc (by omega) _).grown hg (by simp; omega) (fun k e => (hown.lt k e).1)
  have hB2 := hB1.setCell (p := ⟨gr, 0, none⟩) hBg (.slice (some ⟨g', 0, none⟩) (L ++ [(i, 1)]).length cap')
  have hof := refOf_any B gr _ i 1 _ hR (by rw [← hlen]; omega)
  rw [← hlen] at hof hR hB2
  have HOF := Lib.hid hof
  have HR := Lib.hid hR
  have HB2 := Lib.hid hB2
  clear hof hR hB2 hlen hflat hown' hown hg
  go_wp2_with (go_at_call 14; refine HOF.out.mono ?_; rintro r w' ⟨rfl, rfl⟩)
  go_ret
  exact ⟨rfl, HR.out, HB2.out⟩


def refAddR (L : List One) (i e : Int) : Int := if fineB e then many (L ++ [(i, e)]) i e else 0
def refAddS (L : List One) (i e : Int) : List One := if fineB e then L ++ [(i, e)] else L

theorem refAdd_all (B gr : Nat) (L : List One) (i e : Int) (w : World) (hR : RIs w B gr L) (hL : L.length < 1000) (_hi : (Lit.int .i64 i).wf = true) :
    Calls Try.prog 12 #[.pointer (some ⟨gr, 0, none⟩), .int .i64 i, .int .i64 e] w fun r w' => r = .returned (.int .i64 (refAddR L i e)) ∧ RIs w' B gr (refAddS L i e) ∧ Below B w w' := by
  by_cases e0 : e = 0
  · subst e0; exact refAdd0 B gr L i w hR hL _hi
  by_cases e1 : e = 1
  · subst e1; exact refAdd1 B gr L i w hR hL _hi
  have hf : fineB e = false := by simp [fineB, e0, e1]
  simp only [refAddR, refAddS, hf, Bool.false_eq_true, if_false]
  have b0 : (e != 0) = true := by simpa using e0
  have b1 : (e != 1) = true := by simpa using e1
  clear hf
  go_enter Try.func12, Try.ntmps12
  go_wp2
  go_ret
  exact ⟨rfl, hR, Below.refl _ _⟩
end Go.Proofs.Ytbekljgcbbhnbaa