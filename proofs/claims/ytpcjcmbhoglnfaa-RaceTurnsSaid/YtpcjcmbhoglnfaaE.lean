/- Race: plain: the detector along a row of events; which races there are. -/
import Derived.Test.YtpcjcmbhoglnfaaD7
import Derived.Test.YtpcjcmbhoglnfaaHB
namespace Go.Proofs.Ytpcjcmbhoglnfaa
open Go.RowKit
set_option linter.unusedVariables false
set_option linter.unusedSimpArgs false

def det0 : Det := ⟨[[]], fun _ => [], []⟩
def detL (L : List Ev) : Det := L.foldl dStep det0
theorem detL_snoc (L : List Ev) (x : Ev) : detL (L ++ [x]) = dStep (detL L) x := by unfold detL; rw [List.foldl_append]; rfl
theorem dStep_K (D : Det) (x : Ev) : ∃ c, (dStep D x).K = D.K ++ [c] := by
  unfold dStep
  dsimp only
  repeat' split
  all_goals exact ⟨_, rfl⟩
theorem foldl_K (L : List Ev) : ∀ D : Det, ∃ l, (L.foldl dStep D).K = D.K ++ l ∧ l.length = L.length := by
  induction L with
  | nil => intro D; exact ⟨[], by simp, rfl⟩
  | cons x L ih =>
    intro D
    obtain ⟨l, h1, h2⟩ := ih (dStep D x)
    obtain ⟨c, h3⟩ := dStep_K D x
    exact ⟨c :: l, by rw [List.foldl_cons, h1, h3]; simp, by simp [h2]⟩
theorem detL_len (L : List Ev) : (detL L).K.length = L.length := by
  obtain ⟨l, h1, h2⟩ := foldl_K L det0
  unfold detL
  rw [h1]
  simpa [det0] using h2
theorem detL_take (L : List Ev) (n : Nat) (hn : n ≤ L.length) : (detL (L.take n)).K = (detL L).K.take n := by
  have h : detL L = (L.drop n).foldl dStep (detL (L.take n)) := by
    unfold detL
    rw [← List.foldl_append, List.take_append_drop]
  obtain ⟨l, h1, h2⟩ := foldl_K (L.drop n) (detL (L.take n))
  rw [h, h1, List.take_left' (by rw [detL_len, List.length_take]; omega)]
/-- what the event at i knew -/
def kc (L : List Ev) (i : Nat) : List Int := (detL L).K.getD i []
theorem kc_at {L : List Ev} {i n : Nat} (hi : i < n) (hn : n ≤ L.length) : (detL (L.take n)).K[i]? = some (kc L i) := by
  rw [detL_take L n hn, List.getElem?_take, if_pos hi]
  unfold kc
  rw [List.getD_eq_getElem?_getD, List.getElem?_eq_getElem (by rw [detL_len]; omega)]
  rfl
def evAt (L : List Ev) (i : Nat) : Ev := L.getD i ⟨0, 0, 0, none, 0, []⟩
theorem evAt_of {L : List Ev} {i : Nat} {x : Ev} (h : L[i]? = some x) : evAt L i = x := by unfold evAt; rw [List.getD_eq_getElem?_getD, h]; rfl
theorem at_evAt {L : List Ev} {i : Nat} (h : i < L.length) : L[i]? = some (evAt L i) := by
  unfold evAt; rw [List.getD_eq_getElem?_getD, List.getElem?_eq_getElem h]; rfl
/-- is the event at i, by the numbers, ahead of that at k? -/
def ahB (L : List Ev) (i k : Nat) : Bool := decide (atZ (kc L i) (evAt L i).thread ≤ atZ (kc L k) (evAt L i).thread)
def rB (L : List Ev) (i k : Nat) : Bool := confB (evAt L i) (evAt L k) && !ahB L i k
abbrev PR := Int × Int
def rUp (L : List Ev) (k m : Nat) : List PR := ((List.range m).filter (fun i => rB L i k)).map fun i : Nat => ((k : Int), (i : Int))
def allUp (L : List Ev) (n : Nat) : List PR := (List.range n).flatMap fun k => rUp L k k
theorem rUp_succ (L : List Ev) (k m : Nat) : rUp L k (m + 1) = rUp L k m ++ if rB L m k then [((k : Int), (m : Int))] else [] := by
  unfold rUp
  rw [List.range_succ, List.filter_append, List.map_append]
  congr 1
  by_cases h : rB L m k
  · simp [h]
  · simp [h]
theorem rUp_len (L : List Ev) (k m : Nat) : (rUp L k m).length ≤ m := by
  unfold rUp
  rw [List.length_map]
  refine Nat.le_trans (List.length_filter_le _ _) (by simp)
theorem rUp_pre (L : List Ev) (k : Nat) : ∀ {m n : Nat}, m ≤ n → ∃ l, rUp L k n = rUp L k m ++ l := by
  intro m n h
  induction n with
  | zero => exact ⟨[], by rw [Nat.le_zero.1 h]; simp⟩
  | succ n ih =>
    rcases Nat.lt_or_ge m (n + 1) with h1 | h1
    · obtain ⟨l, hl⟩ := ih (by omega)
      exact ⟨_, by rw [rUp_succ, hl, List.append_assoc]⟩
    · exact ⟨[], by rw [show m = n + 1 by omega]; simp⟩
theorem allUp_succ (L : List Ev) (n : Nat) : allUp L (n + 1) = allUp L n ++ rUp L n n := by unfold allUp; rw [List.range_succ, List.flatMap_append]; simp
theorem allUp_len (L : List Ev) : ∀ n, (allUp L n).length ≤ n * n
  | 0 => by simp [allUp]
  | n + 1 => by
    rw [allUp_succ, List.length_append]
    have h1 := allUp_len L n
    have h2 := rUp_len L n n
    have h3 : (n + 1) * (n + 1) = n * n + 2 * n + 1 := by rw [Nat.add_mul, Nat.mul_add]; omega
    omega
theorem allUp_pre (L : List Ev) : ∀ {m n : Nat}, m ≤ n → ∃ l, allUp L n = allUp L m ++ l := by
  intro m n h
  induction n with
  | zero => exact ⟨[], by rw [Nat.le_zero.1 h]; simp⟩
  | succ n ih =>
    rcases Nat.lt_or_ge m (n + 1) with h1 | h1
    · obtain ⟨l, hl⟩ := ih (by omega)
      exact ⟨_, by rw [allUp_succ, hl, List.append_assoc]⟩
    · exact ⟨[], by rw [show m = n + 1 by omega]; simp⟩

/-! ### a row that may be: the detector takes each event -/
theorem mayB_run {L : List Ev} (h : mayB L = true) {n : Nat} : ∃ E, runT [false] (L.take n) = some E := by
  cases e : runT [false] (L.take n) with
  | some E => exact ⟨E, rfl⟩
  | none => unfold mayB at h; rw [runT_none e] at h; cases h
theorem mayB_step {L : List Ev} (h : mayB L = true) {n : Nat} {x : Ev} (hx : L[n]? = some x) {E : List Bool} (hE : runT [false] (L.take n) = some E) : (doesF E x).1 = true ∧ runT [false] (L.take (n + 1)) = some (doesF E x).2 := by
  obtain ⟨E2, h2⟩ := mayB_run h (n := n + 1)
  rw [runT_succ hx hE] at h2
  by_cases e : (doesF E x).1 = true
  · exact ⟨e, by rw [runT_succ hx hE, if_pos e]⟩
  · rw [if_neg e] at h2; cases h2
/-- what a good event says of the threads -/
structure Good (E : List Bool) (x : Ev) : Prop where
  t0 : 0 ≤ x.thread
  t1 : x.thread < E.length
  run : E.getD x.thread.toNat false = false
  spawn : x.kind = 7 → x.id = E.length ∧ x.id < 65536 ∧ (doesF E x).2 = E ++ [false]
  join : x.kind = 8 → 0 ≤ x.id ∧ x.id < E.length ∧ E.getD x.id.toNat false = true
  fin : x.kind = 9 → (doesF E x).2 = E.set x.thread.toNat true
  same : x.kind ≠ 7 → x.kind ≠ 9 → (doesF E x).2 = E
  free : x.kind = 3 → x.path = []
theorem doesF_good {E : List Bool} {x : Ev} (h : (doesF E x).1 = true) : Good E x := by
  unfold doesF at h
  by_cases h0 : x.thread < 0 ∨ (E.length : Int) ≤ x.thread ∨ E.getD x.thread.toNat false = true
  · rw [if_pos h0] at h; cases h
  rw [if_neg h0] at h
  have hr : E.getD x.thread.toNat false = false := by
    cases e : E.getD x.thread.toNat false with
    | false => rfl
    | true => exact absurd (.inr (.inr e)) h0
  refine ⟨by omega, by omega, hr, ?_, ?_, ?_, ?_, ?_⟩
  · intro k
    have e : doesF E x = (if x.id = E.length ∧ x.id < 65536 ∧ x.path.length = 0 then (true, E ++ [false]) else (false, E)) := by
      unfold doesF; rw [if_neg h0, if_neg (by omega), if_neg (by omega), if_pos k]
    rw [if_neg (by omega), if_neg (by omega), if_pos k] at h
    by_cases hc : x.id = E.length ∧ x.id < 65536 ∧ x.path.length = 0
    · rw [e, if_pos hc]; exact ⟨hc.1, hc.2.1, rfl⟩
    · rw [if_neg hc] at h; cases h
  · intro k
    rw [if_neg (by omega), if_neg (by omega), if_neg (by omega), if_pos k] at h
    simp only [Bool.and_eq_true, decide_eq_true_eq] at h
    exact ⟨h.1.1.1, h.1.1.2, h.1.2⟩
  · intro k
    have e : doesF E x = (decide (x.id = 0) && decide (x.path.length = 0), E.set x.thread.toNat (decide (x.id = 0) && decide (x.path.length = 0))) := by
      unfold doesF; rw [if_neg h0, if_neg (by omega), if_neg (by omega), if_neg (by omega), if_neg (by omega), if_pos k]
    rw [if_neg (by omega), if_neg (by omega), if_neg (by omega), if_neg (by omega), if_pos k] at h
    rw [e]
    simp only at h ⊢
    rw [h]
  · intro k7 k9
    unfold doesF
    rw [if_neg h0]
    repeat' split
    all_goals first | rfl | (exact absurd ‹_› k7) | (exact absurd ‹_› k9)
  · intro k
    rw [if_neg (by omega), if_pos (by omega)] at h
    simp only [Bool.and_eq_true, decide_eq_true_eq] at h
    exact List.eq_nil_of_length_eq_zero h.2
theorem dStep_T {D : Det} {x : Ev} : (dStep D x).T.length = if x.kind = 7 then D.T.length + 1 else D.T.length := by
  unfold dStep
  dsimp only
  by_cases k : x.kind = 7
  · rw [if_pos k, if_pos k]; simp
  · rw [if_neg k, if_neg k]
    repeat' split
    all_goals simp
structure DetLen (D : Det) : Prop where
  lT : ∀ C ∈ D.T, C.length ≤ 65536
  lO : ∀ i, (D.O i).length ≤ 65536
theorem DetLen.getD {D : Det} (h : DetLen D) (t : Nat) : (D.T.getD t []).length ≤ 65536 := by
  rw [List.getD_eq_getElem?_getD]
  cases e : D.T[t]? with
  | none => simp
  | some C => exact h.lT C (List.mem_of_getElem? e)
theorem mem_set_le {T : List (List Int)} {t : Nat} {c : List Int} (h : ∀ C ∈ T, C.length ≤ 65536) (hc : c.length ≤ 65536) : ∀ C ∈ T.set t c, C.length ≤ 65536 := by
  intro C hC
  rcases List.mem_or_eq_of_mem_set hC with h1 | h1
  · exact h C h1
  · rw [h1]; exact hc
theorem dStep_len {D : Det} {x : Ev} (h : DetLen D) (ht : 0 ≤ x.thread) : DetLen (dStep D x) := by
  obtain ⟨t, ht⟩ : ∃ t : Nat, x.thread = t := ⟨x.thread.toNat, by omega⟩
  have h0 : (tickL (D.T.getD x.thread.toNat []) x.thread).length ≤ 65536 := by rw [ht]; exact tick_len _ t (h.getD _)
  unfold dStep
  dsimp only
  split
  · refine ⟨mem_set_le (fun C hC => ?_) h0, h.lO⟩
    rcases List.mem_append.1 hC with h1 | h1
    · exact h.lT C h1
    · rw [List.mem_singleton.1 h1]; exact h0
  · split
    · exact ⟨mem_set_le h.lT (join_len _ _ h0 (h.getD _)), h.lO⟩
    · split
      · exact ⟨mem_set_le h.lT (join_len _ _ h0 (h.lO _)), h.lO⟩
      · split
        · refine ⟨mem_set_le h.lT h0, fun i => ?_⟩
          show (setO D.O x.id (joinL (D.O x.id) _) i).length ≤ 65536
          unfold setO
          split
          · exact join_len _ _ (h.lO _) h0
          · exact h.lO i
        · exact ⟨mem_set_le h.lT h0, h.lO⟩
theorem det_run {L : List Ev} (h : mayB L = true) : ∀ n, n ≤ L.length → ∃ E, runT [false] (L.take n) = some E ∧ (detL (L.take n)).T.length = E.length ∧ DetLen (detL (L.take n)) ∧ 1 ≤ E.length ∧ E.length ≤ n + 1
  | 0, _ => ⟨[false], rfl, rfl, ⟨by simp [detL, det0], by simp [detL, det0]⟩, Nat.le_refl _, Nat.le_refl _⟩
  | n + 1, hn => by
    obtain ⟨E, h1, h2, h3, h4, h5⟩ := det_run h n (by omega)
    have hx := at_evAt (L := L) (i := n) (by omega)
    obtain ⟨g1, g2⟩ := mayB_step h hx h1
    have hg := doesF_good g1
    have hT : (detL (L.take (n + 1))) = dStep (detL (L.take n)) (evAt L n) := by rw [take_snoc hx, detL_snoc]
    refine ⟨_, g2, ?_, by rw [hT]; exact dStep_len h3 hg.t0, ?_, by have := doesF_len E (evAt L n); omega⟩
    · rw [hT, dStep_T, h2]
      by_cases k7 : (evAt L n).kind = 7
      · rw [if_pos k7, (hg.spawn k7).2.2]; simp
      · rw [if_neg k7]
        by_cases k9 : (evAt L n).kind = 9
        · rw [hg.fin k9]; simp
        · rw [hg.same k7 k9]
    · by_cases k7 : (evAt L n).kind = 7
      · rw [(hg.spawn k7).2.2]; simp
      · by_cases k9 : (evAt L n).kind = 9
        · rw [hg.fin k9]; simpa using h4
        · rw [hg.same k7 k9]; exact h4
theorem det_fit {L : List Ev} (h : mayB L = true) (hN : L.length ≤ 60000) {n : Nat} {x : Ev} (hx : L[n]? = some x) (wi : (Lit.int .i64 x.id).wf = true) : EvFit (detL (L.take n)) x ∧ DetOk (detL (L.take n)) ∧ detL (L.take (n + 1)) = dStep (detL (L.take n)) x := by
  have hl := (List.getElem?_eq_some_iff.1 hx).1
  obtain ⟨E, h1, h2, h3, h4, h5⟩ := det_run h n (by omega)
  have hg := doesF_good (mayB_step h hx h1).1
  have hK : (detL (L.take n)).K.length = n := by rw [detL_len, List.length_take]; omega
  refine ⟨⟨hg.t0, by rw [h2]; exact hg.t1, fun k => ?_, wi⟩, ⟨by omega, by omega, by omega, h3.lT, h3.lO⟩, by rw [take_snoc hx, detL_snoc]⟩
  have := hg.join k
  exact ⟨this.1, by rw [h2]; exact this.2.1⟩
end Go.Proofs.Ytpcjcmbhoglnfaa
