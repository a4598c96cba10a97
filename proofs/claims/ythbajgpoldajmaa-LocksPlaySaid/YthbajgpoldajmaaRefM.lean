/- Locks: contracts of the document's Make and Lock. -/
import Derived.Test.YthbajgpoldajmaaRefW
namespace Go.Proofs.Ythbajgpoldajmaa
open Go.ChangeShapes Go.WideShapes Go.RowKit
set_option linter.unusedVariables false

theorem flat_set1 {M : List Mu} : ∀ {k : Nat} {x : Mu} (t : Int), M[k]? = some x → (M.flatMap muC).set (k * 3 + 1) (.int .i64 t) = (M.set k (x.1, t, x.2.2)).flatMap muC := by
  induction M with
  | nil => intro k x t h; simp at h
  | cons a M ih =>
    intro k x t h
    cases k with
    | zero => simp at h; subst h; simp [muC]
    | succ k =>
      have := ih (k := k) (x := x) t (by simpa using h)
      rw [List.flatMap_cons, List.set_cons_succ, List.flatMap_cons, ← this]
      have e : (k + 1) * 3 + 1 = (k * 3 + 1) + 3 := by omega
      rw [e]
      simp [muC]
theorem flat_set2 {M : List Mu} : ∀ {k : Nat} {x : Mu} (b : Bool), M[k]? = some x → (M.flatMap muC).set (k * 3 + 2) (.bool b) = (M.set k (x.1, x.2.1, b)).flatMap muC := by
  induction M with
  | nil => intro k x t h; simp at h
  | cons a M ih =>
    intro k x t h
    cases k with
    | zero => simp at h; subst h; simp [muC]
    | succ k =>
      have := ih (k := k) (x := x) t (by simpa using h)
      rw [List.flatMap_cons, List.set_cons_succ, List.flatMap_cons, ← this]
      have e : (k + 1) * 3 + 2 = (k * 3 + 2) + 3 := by omega
      rw [e]
      simp [muC]
theorem info57 : (Try.prog.info? 57).map (fun i => (i.zero, i.size, i.bytes)) = some (some (.agg #[.int .i64 0, .int .i64 0, .bool false]), 3, 24) := by kernel_rfl
theorem cell_three_new (w : World) (a b c : Value) (t : TypeId) : ∀ j u, [a, b, c][j]? = some u → (w.alloc (.cells #[a, b, c] t)).cell? ((⟨w.heap.size, 0, none⟩ : Addr).add j) = some u := by
  intro j u hj
  match j, hj with
  | 0, hj => simp at hj; subst hj; simp [Addr.add]
  | 1, hj => simp at hj; subst hj; simp [Addr.add]
  | 2, hj => simp at hj; subst hj; simp [Addr.add]
  | j + 3, hj => simp at hj
theorem RL.set {w1 : World} {B gr : Nat} {M : List Mu} {v v' : Value} (hB : B ≤ gr) (hb : Blk w1 gr 41 #[v]) (hown : w1.ownsRow B 57 3 v' M.length (M.flatMap muC)) : RL (w1.setCell ⟨gr, 0, none⟩ v') B gr M := by
  refine ⟨hB, v', by simpa using hb.set_ 0 v', ?_⟩
  have hne := own_blk_ne hown hb (by decide)
  exact hown.kept (row := some gr) ⟨rfl, rfl, rfl, by simp [World.setCell], fun k _ hk => Below.heap_setCell _ _ _ k (fun e => hk (by rw [e]))⟩ (.inr hne)

set_option maxHeartbeats 1600000 in
theorem refMake_any {B gr : Nat} {M : List Mu} {i : Int} {w : World} (h : RL w B gr M) (hu : Uniq M) (hL : M.length ≤ 100000) :
    Calls Try.prog 25 #[.pointer (some ⟨gr, 0, none⟩), .int .i64 i] w fun r w' => r = .returned (.tuple #[]) ∧ ∃ M', RL w' B gr M' ∧ Uniq M' ∧ M'.length ≤ M.length + 1 ∧ lookM M' = makeS (lookM M) i ∧ Below B w w' := by
  obtain ⟨z, hz⟩ := FindAt.ex M i
  have hf := refFind_any B gr M i z w h (by omega) hz
  rcases hz with ⟨rfl, hn⟩ | ⟨k, x, rfl, hk, hx, _⟩
  · have hfin : Uniq (M ++ [(i, -1, false)]) ∧ lookM (M ++ [(i, -1, false)]) = makeS (lookM M) i := by
      refine ⟨uniq_snoc hu hn, ?_⟩
      rw [look_snoc hu hn]
      unfold makeS
      rw [look_none hn]; rfl
    have HFIN := Lib.hid hfin
    obtain ⟨hBg, v, hb, hown⟩ := h
    obtain ⟨i0, hi0, hz0, hz1, hz2⟩ := info_parts info57
    have h0 := hb.cell 0
    simp at h0
    have hgl := hb.lt
    obtain ⟨n, hn2⟩ : ∃ n, n = M.length := ⟨_, rfl⟩
    rw [← hn2] at hown hL ⊢
    have HN := Lib.hid hn2
    clear hn2 hn hu hfin
    go_enter Try.func25, Try.ntmps25
    go_wp2_with fail
    refine hf.mono ?_
    rintro r w' ⟨rfl, rfl⟩
    go_wp2_with (at_builtin; (refine wpList_append_own _ rfl _ _ 39 rfl B 57 i0 (.agg #[.int .i64 0, .int .i64 0, .bool false]) 3 24 Try.underlying39 hi0 hz0 hz1 hz2 rfl (by decide) _ n (M.flatMap muC) rfl (hown.alloc _) ⟨w.heap.size, 0, none⟩ 1 1 [.int .i64 i, .int .i64 (-1), .bool false] rfl rfl (cell_three_new _ _ _ _ _) ?c2 ?c3 ?c4 ?c5 ?_))
    case c2 => intro u hu; simp at hu; rcases hu with rfl | rfl | rfl <;> rfl
    case c3 => unfold maxLen; omega
    case c4 => omega
    case c5 => simp; omega
    intro v' w1 hown' hg _
    obtain ⟨g', cap', rfl⟩ := own_succ hown'
    have hne := own_blk_ne hown hb (by decide)
    have hb1 : Blk w1 gr 41 #[v] := (hb.alloc _).grown hg (fun e => hne e.symm)
    have q0 := hb1.cell 0
    have q1 := hb1.frozen 0
    simp at q0
    have hlen : n + 1 = (M ++ [(i, -1, false)]).length := by simp [← HN.out]
    have hflat : M.flatMap muC ++ [.int .i64 i, .int .i64 (-1), .bool false] = (M ++ [(i, -1, false)]).flatMap muC := by simp [muC]
    rw [hlen, hflat] at hown'
    have hR := RL.set (w1 := w1) hBg hb1 hown'
    have hB1 : Below B w w1 := ((Below.refl _ w).alloc (by omega) _).grown hg (by simp; omega) (fun k e => (hown.lt k e).1)
    have hB2 := hB1.setCell (p := ⟨gr, 0, none⟩) hBg (.slice (some ⟨g', 0, none⟩) (M ++ [(i, -1, false)]).length cap')
    rw [← hlen] at hR hB2
    have HR := Lib.hid hR
    have HB2 := Lib.hid hB2
    have HLN := Lib.hid hlen
    clear hR hB2 hlen hflat hown' hown hg
    go_wp2
    go_end0
    exact ⟨rfl, _, HR.out, HFIN.out.1, by rw [← HLN.out]; exact Nat.le_refl _, HFIN.out.2, HB2.out⟩
  · have e : lookM M = makeS (lookM M) i := by unfold makeS; rw [look_at hu hk hx]; rfl
    have HE := Lib.hid e
    have HH := Lib.hid h
    have HU := Lib.hid hu
    clear e h hu hk hx
    go_enter Try.func25, Try.ntmps25
    go_wp2_with fail
    refine hf.mono ?_
    rintro r w' ⟨rfl, rfl⟩
    go_wp2
    go_end0
    exact ⟨rfl, M, HH.out, HU.out, by omega, HE.out, Below.refl _ _⟩
end Go.Proofs.Ythbajgpoldajmaa
