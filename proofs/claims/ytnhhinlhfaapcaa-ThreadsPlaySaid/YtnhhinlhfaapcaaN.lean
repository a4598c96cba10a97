/- Threads: the plain law: what holds of every table that calls can make. -/
import Derived.Test.YtnhhinlhfaapcaaM
namespace Go.Proofs.Ytnhhinlhfaapcaa
open Go.RowKit
set_option linter.unusedVariables false
set_option linter.unusedSimpArgs false

structure Tok (k : Nat) (t : Tab) : Prop where
  n0 : 0 < t.n
  n16 : t.n ≤ 16
  row : ∀ i, i < t.n → ∀ r, r ∈ (t.th i).scopes → r.length < t.n ∧ ∀ m, m ∈ r → i < m ∧ m < t.n
  dk : ∀ i, i < t.n → (t.th i).scopes.length ≤ k
  par : ∀ i, 0 < i → i < t.n → ∃ p : Nat, p < i ∧ (t.th i).parent = (p : Int) ∧ ((t.th i).ended = false → ∃ r, r ∈ (t.th p).scopes ∧ i ∈ r)
  fin : ∀ i, i < t.n → (t.th i).ended = true → (t.th i).scopes = []
theorem Tok.up {k k' : Nat} {t : Tab} (h : Tok k t) (hk : k ≤ k') : Tok k' t := ⟨h.n0, h.n16, h.row, fun i hi => Nat.le_trans (h.dk i hi) hk, h.par, h.fin⟩
theorem tok_new : Tok 0 newT := by
  refine ⟨by decide, by decide, fun i hi r hr => ?_, fun i hi => Nat.le_refl _, fun i h0 hi => ?_, fun i hi h => rfl⟩
  · cases hr
  · have : i < 1 := hi; omega
theorem setTh_at' (t : Tab) (i k : Nat) (x : Th) : (setTh t i x).th k = if k = i then x else t.th k := rfl
theorem Tok.o_ {k : Nat} {t : Tab} {i : Nat} (h : Tok k t) (hi : i < t.n) (he : (t.th i).ended = false) : Tok (k + 1) (openT t i) := by
  have hs : ∀ j r, r ∈ (t.th j).scopes → r ∈ ((openT t i).th j).scopes := by
    intro j r hr
    unfold openT
    rw [setTh_at']
    split
    · rename_i e; subst e; exact List.mem_append_left _ hr
    · exact hr
  refine ⟨h.n0, h.n16, fun j hj r hr => ?_, fun j hj => ?_, fun j h0 hj => ?_, fun j hj hf => ?_⟩
  · unfold openT at hr
    rw [setTh_at'] at hr
    split at hr
    · rename_i e; subst e
      rcases List.mem_append.1 hr with hr | hr
      · exact h.row j hj r hr
      · simp at hr; subst hr; exact ⟨h.n0, fun m hm => by cases hm⟩
    · exact h.row j hj r hr
  · unfold openT
    rw [setTh_at']
    have := h.dk j hj
    split
    · rename_i e; subst e; simp; exact this
    · omega
  · obtain ⟨p, hp, e, hr⟩ := h.par j h0 hj
    have e1 : ((openT t i).th j).parent = (t.th j).parent ∧ ((openT t i).th j).ended = (t.th j).ended := by
      unfold openT
      rw [setTh_at']
      split
      · rename_i e; subst e; exact ⟨rfl, rfl⟩
      · exact ⟨rfl, rfl⟩
    refine ⟨p, hp, e1.1.trans e, fun hf => ?_⟩
    obtain ⟨r, hr1, hr2⟩ := hr (e1.2.symm.trans hf)
    exact ⟨r, hs p r hr1, hr2⟩
  · unfold openT at hf ⊢
    rw [setTh_at'] at hf ⊢
    split at hf
    · rename_i e; subst e; rw [he] at hf; cases hf
    · rename_i e; rw [if_neg e]; exact h.fin j hj hf
theorem Tok.e_ {k : Nat} {t : Tab} {i : Nat} (p : Bool) (h : Tok k t) (hi : i < t.n) (he : (t.th i).scopes = []) : Tok k (endT t i p) := by
  have hs : ∀ j, ((endT t i p).th j).scopes = (t.th j).scopes := by
    intro j
    unfold endT
    rw [setTh_at']
    split
    · rename_i e; subst e; rfl
    · rfl
  have e1 : ∀ j, ((endT t i p).th j).parent = (t.th j).parent ∧ (((endT t i p).th j).ended = false → (t.th j).ended = false) ∧ (((endT t i p).th j).ended = true → (t.th j).ended = true ∨ j = i) := by
    intro j
    unfold endT
    rw [setTh_at']
    split
    · rename_i e; subst e; exact ⟨rfl, (fun hf => by cases hf), fun _ => .inr rfl⟩
    · exact ⟨rfl, id, .inl⟩
  refine ⟨h.n0, h.n16, fun j hj r hr => ?_, fun j hj => ?_, fun j h0 hj => ?_, fun j hj hf => ?_⟩
  · rw [hs] at hr; exact h.row j hj r hr
  · rw [hs]; exact h.dk j hj
  · obtain ⟨q, hp, e, hr⟩ := h.par j h0 hj
    refine ⟨q, hp, (e1 j).1.trans e, fun hf => ?_⟩
    obtain ⟨r, hr1, hr2⟩ := hr ((e1 j).2.1 hf)
    exact ⟨r, by rw [hs]; exact hr1, hr2⟩
  · rw [hs]
    rcases (e1 j).2.2 hf with h' | rfl
    · exact h.fin j hj h'
    · exact he
theorem Tok.c_ {k : Nat} {t : Tab} {i : Nat} (h : Tok k t) (hi : i < t.n) (he : (t.th i).ended = false) (hw : ∀ m, m ∈ memL t i → (t.th m).ended = true) : Tok k (closeT t i) := by
  have hs : ∀ j r, r ∈ ((closeT t i).th j).scopes → r ∈ (t.th j).scopes := by
    intro j r hr
    unfold closeT at hr
    rw [setTh_at'] at hr
    split at hr
    · rename_i e; subst e; exact (List.dropLast_sublist _).subset hr
    · exact hr
  have e1 : ∀ j, ((closeT t i).th j).parent = (t.th j).parent ∧ ((closeT t i).th j).ended = (t.th j).ended := by
    intro j
    unfold closeT
    rw [setTh_at']
    split
    · rename_i e; subst e; exact ⟨rfl, rfl⟩
    · exact ⟨rfl, rfl⟩
  refine ⟨h.n0, h.n16, fun j hj r hr => h.row j hj r (hs j r hr), fun j hj => Nat.le_trans (closeT_le t i j) (h.dk j hj), fun j h0 hj => ?_, fun j hj hf => ?_⟩
  · obtain ⟨p, hp, e, hr⟩ := h.par j h0 hj
    refine ⟨p, hp, (e1 j).1.trans e, fun hf => ?_⟩
    have hf' := (e1 j).2.symm.trans hf
    obtain ⟨r, hr1, hr2⟩ := hr hf'
    refine ⟨r, ?_, hr2⟩
    unfold closeT
    rw [setTh_at']
    split
    · rename_i e2; subst e2
      obtain ⟨ln, hln⟩ : ∃ ln, dep t p = ln + 1 := ⟨dep t p - 1, by unfold dep; have := List.length_pos_of_mem hr1; omega⟩
      show r ∈ (t.th p).scopes.dropLast
      rw [List.mem_iff_getElem?] at hr1 ⊢
      obtain ⟨q, hq⟩ := hr1
      have hqlt : q < (t.th p).scopes.length := (List.getElem?_eq_some_iff.1 hq).1
      by_cases e3 : q = ln
      · exfalso
        subst e3
        have : j ∈ memL t p := by
          rw [memL_in (by omega) hln]
          unfold mem
          rw [List.getD_eq_getElem?_getD, hq]
          exact hr2
        rw [hw j this] at hf'
        cases hf'
      · refine ⟨q, ?_⟩
        rw [List.getElem?_dropLast, if_pos (by unfold dep at hln; omega)]
        exact hq
    · exact hr1
  · have h1 := h.fin j hj ((e1 j).2.symm.trans hf)
    cases h2 : ((closeT t i).th j).scopes with
    | nil => rfl
    | cons r rs =>
      exfalso
      have := hs j r (by rw [h2]; exact List.mem_cons_self)
      rw [h1] at this
      cases this
theorem pushS_mem {L : List (List Nat)} {c : Nat} {r : List Nat} (h : r ∈ pushS L c) : r ∈ L ∨ ∃ r0, (r0 ∈ L ∨ r0 = []) ∧ r = r0 ++ [c] := by
  unfold pushS at h
  rcases List.mem_or_eq_of_mem_set h with h | h
  · exact .inl h
  · refine .inr ⟨_, ?_, h⟩
    rw [List.getD_eq_getElem?_getD]
    cases e : L[L.length - 1]? with
    | none => exact .inr rfl
    | some x => exact .inl (List.mem_of_getElem? e)
theorem pushS_keep {L : List (List Nat)} {c : Nat} {r : List Nat} (h : r ∈ L) : r ∈ pushS L c ∨ (r ++ [c]) ∈ pushS L c := by
  unfold pushS
  rw [List.mem_iff_getElem?] at h
  obtain ⟨q, hq⟩ := h
  have hlt : q < L.length := (List.getElem?_eq_some_iff.1 hq).1
  by_cases e : q = L.length - 1
  · refine .inr (List.mem_iff_getElem?.2 ⟨q, ?_⟩)
    subst e
    rw [List.getElem?_set_self (by omega), List.getD_eq_getElem?_getD, hq]
    rfl
  · refine .inl (List.mem_iff_getElem?.2 ⟨q, ?_⟩)
    rw [List.getElem?_set_ne (by omega)]
    exact hq
theorem pushS_new {L : List (List Nat)} {c : Nat} (h : 0 < L.length) : ∃ r, r ∈ pushS L c ∧ c ∈ r := by
  unfold pushS
  refine ⟨_, List.mem_iff_getElem?.2 ⟨L.length - 1, List.getElem?_set_self (by omega)⟩, by simp⟩
theorem spawnT_at (t : Tab) (i j : Nat) : (spawnT t i).th j = if j = t.n then ⟨i, false, false, []⟩ else if j = i then { t.th i with scopes := pushS (t.th i).scopes t.n } else t.th j := rfl
theorem Tok.s_ {k : Nat} {t : Tab} {i : Nat} (h : Tok k t) (hi : i < t.n) (h16 : t.n < 16) (he : (t.th i).ended = false) (hd : 0 < (t.th i).scopes.length) : Tok k (spawnT t i) := by
  have hN : (spawnT t i).n = t.n + 1 := rfl
  refine ⟨by omega, by omega, fun j hj r hr => ?_, fun j hj => ?_, fun j h0 hj => ?_, fun j hj hf => ?_⟩
  · rw [spawnT_at] at hr
    rw [hN] at hj ⊢
    split at hr
    · cases hr
    · rename_i e1
      split at hr
      · rename_i e; subst e
        rcases pushS_mem hr with hr | ⟨r0, hr0, rfl⟩
        · obtain ⟨a, b⟩ := h.row j hi r hr
          exact ⟨by omega, fun m hm => by have := b m hm; omega⟩
        · have hr0' : r0.length < t.n ∧ ∀ m, m ∈ r0 → j < m ∧ m < t.n := by
            rcases hr0 with hr0 | rfl
            · exact h.row j hi r0 hr0
            · exact ⟨h.n0, fun m hm => by cases hm⟩
          refine ⟨by simp; omega, fun m hm => ?_⟩
          rcases List.mem_append.1 hm with hm | hm
          · have := hr0'.2 m hm; omega
          · simp at hm; omega
      · obtain ⟨a, b⟩ := h.row j (by omega) r hr
        exact ⟨by omega, fun m hm => by have := b m hm; omega⟩
  · rw [spawnT_at]
    rw [hN] at hj
    split
    · exact Nat.zero_le _
    · split
      · rename_i e; subst e
        show (pushS (t.th j).scopes t.n).length ≤ k
        unfold pushS
        rw [List.length_set]
        exact h.dk j hi
      · exact h.dk j (by omega)
  · rw [hN] at hj
    rw [spawnT_at t i j]
    by_cases e1 : j = t.n
    · subst e1
      rw [if_pos rfl]
      refine ⟨i, hi, rfl, fun _ => ?_⟩
      rw [spawnT_at t i i, if_neg (by omega), if_pos rfl]
      exact pushS_new hd
    · rw [if_neg e1]
      obtain ⟨p, hp, e, hr⟩ := h.par j h0 (by omega)
      have key : ((if j = i then { t.th i with scopes := pushS (t.th i).scopes t.n } else t.th j).parent = (t.th j).parent) ∧ ((if j = i then { t.th i with scopes := pushS (t.th i).scopes t.n } else t.th j).ended = (t.th j).ended) := by
        split
        · rename_i e2; subst e2; exact ⟨rfl, rfl⟩
        · exact ⟨rfl, rfl⟩
      refine ⟨p, hp, key.1.trans e, fun hf => ?_⟩
      obtain ⟨r, hr1, hr2⟩ := hr (key.2.symm.trans hf)
      rw [spawnT_at t i p, if_neg (by omega)]
      split
      · rename_i e2; subst e2
        rcases pushS_keep (c := t.n) hr1 with h' | h'
        · exact ⟨r, h', hr2⟩
        · exact ⟨_, h', List.mem_append_left _ hr2⟩
      · exact ⟨r, hr1, hr2⟩
  · rw [hN] at hj
    rw [spawnT_at] at hf ⊢
    split at hf
    · cases hf
    · rename_i e1
      rw [if_neg e1]
      split at hf
      · rename_i e; subst e
        have hf' : (t.th j).ended = true := hf
        rw [he] at hf'; cases hf'
      · rename_i e
        rw [if_neg e]
        exact h.fin j (by omega) hf
/-! ### the calls -/
theorem Tok.opn {k : Nat} {t : Tab} (n : Int) (h : Tok k t) : Tok (k + 1) (opnF t n) := by
  unfold opnF
  cases hr : refB t n 0
  · obtain ⟨i, rfl, hi, he, _⟩ := refB_no hr
    rw [Int.toNat_natCast]
    exact h.o_ hi he
  · exact h.up (by omega)
theorem Tok.spn {k : Nat} {t : Tab} (n : Int) (h : Tok k t) : Tok k (spnF t n) := by
  unfold spnF
  cases hr : refB t n 1
  · obtain ⟨i, rfl, hi, he, hd⟩ := refB_no hr
    rw [Int.toNat_natCast]
    simp only [Bool.false_eq_true, if_false]
    split
    · exact h
    · exact h.s_ hi (by omega) he (by unfold dep at hd; omega)
  · exact h
theorem endBad_no {t : Tab} {n : Int} (hr : endBad t n = false) : ∃ i : Nat, n = (i : Int) ∧ i < t.n ∧ (t.th i).ended = false ∧ (t.th i).scopes = [] := by
  unfold endBad at hr
  rw [Bool.or_eq_false_iff] at hr
  obtain ⟨i, rfl, hi, he, _⟩ := refB_no hr.1
  refine ⟨i, rfl, hi, he, ?_⟩
  have := of_decide_eq_false hr.2
  rw [at_in hi] at this
  exact List.eq_nil_of_length_eq_zero (by omega)
theorem Tok.end_ {k : Nat} {t : Tab} (n : Int) (p : Bool) (h : Tok k t) : Tok k (endF t n p) := by
  unfold endF
  cases hr : endBad t n
  · obtain ⟨i, rfl, hi, _, he⟩ := endBad_no hr
    rw [Int.toNat_natCast]
    exact h.e_ p hi he
  · exact h
theorem waitsB_no {t : Tab} {n : Int} (h : waitsB t n = false) : ∀ m, m ∈ memL t n → (t.th m).ended = true := by
  intro m hm
  unfold waitsB at h
  rw [List.any_eq_false] at h
  have := h m hm
  simpa using this
theorem Tok.cls {k : Nat} {t : Tab} (n : Int) (h : Tok k t) : Tok k (clsF t n) := by
  unfold clsF
  cases hr : refB t n 1
  · obtain ⟨i, rfl, hi, he, hd⟩ := refB_no hr
    rw [Int.toNat_natCast]
    cases hw : waitsB t i
    · exact h.c_ hi he (waitsB_no hw)
    · exact h
  · exact h
theorem Tok.memrow {k : Nat} {t : Tab} (n : Int) (h : Tok k t) : (memL t n).length ≤ 16 ∧ ∀ m, m ∈ memL t n → n < (m : Int) ∧ m < t.n := by
  rcases has_cases t n with hn | ⟨i, rfl, hi⟩
  · rw [memL_no hn]; exact ⟨by simp, fun m hm => by cases hm⟩
  · by_cases hd : dep t i = 0
    · rw [memL_zero hd]; exact ⟨by simp, fun m hm => by cases hm⟩
    · obtain ⟨ln, hln⟩ : ∃ ln, dep t i = ln + 1 := ⟨dep t i - 1, by omega⟩
      rw [memL_in hi hln]
      have hm : mem t i ln ∈ (t.th i).scopes := by
        unfold mem
        unfold dep at hln
        rw [List.getD_eq_getElem?_getD, List.getElem?_eq_getElem (by omega)]
        exact List.getElem_mem _
      obtain ⟨a, b⟩ := h.row i hi _ hm
      have := h.n16
      exact ⟨by omega, fun m hm => by have := b m hm; omega⟩
theorem Tok.memk {k : Nat} {t : Tab} (h : Tok k t) : ∀ i k, i < t.n → k < dep t i → (mem t i k).length ≤ 1000 := by
  intro i q hi hq
  have hm : mem t i q ∈ (t.th i).scopes := by
    unfold mem
    unfold dep at hq
    rw [List.getD_eq_getElem?_getD, List.getElem?_eq_getElem hq]
    exact List.getElem_mem _
  have := (h.row i hi _ hm).1
  have := h.n16
  omega
/-! ### the contracts, where the table is one that calls have made -/
section
variable {k : Nat} {t : Tab} {W : World} {B g : Nat}
theorem open_ok (hk : k ≤ 1000000) (h : TabR W B g t) (ht : Tok k t) (n : Int) : Calls Try.prog 20 #[.pointer (some ⟨g, 0, none⟩), .int .i64 n] W fun r w' => r = .returned (.int .i64 (if refB t n 0 then 2 else 0)) ∧ Left W B g (opnF t n) w' :=
  open_any g B t n W h (fun i hi => Nat.le_trans (ht.dk i hi) hk)
theorem spawn_ok (hk : k ≤ 1000000) (h : TabR W B g t) (ht : Tok k t) (n : Int) : Calls Try.prog 21 #[.pointer (some ⟨g, 0, none⟩), .int .i64 n] W fun r w' => r = .returned (.tuple #[.int .i64 (spnN t n), .int .i64 (spnE t n)]) ∧ Left W B g (spnF t n) w' :=
  spawn_any g B t n W h ht.memk (by have := ht.n16; omega) (fun i hi => Nat.le_trans (ht.dk i hi) hk)
theorem close_ok (h : TabR W B g t) (ht : Tok k t) (n : Int) : Calls Try.prog 17 #[.pointer (some ⟨g, 0, none⟩), .int .i64 n] W fun e W' => e = .returned (.tuple #[.bool (clsP t n), .int .i64 (clsE t n)]) ∧ Left W B g (clsF t n) W' :=
  close_any g B t n W h (by have := (ht.memrow n).1; omega) (fun m hm => ((ht.memrow n).2 m hm).2)
theorem members_ok (h : TabR W B g t) (ht : Tok k t) (n : Int) : Calls Try.prog 12 #[.pointer (some ⟨g, 0, none⟩), .int .i64 n] W fun e W' => ∃ v, e = .returned v ∧ W'.ownsRow W.heap.size 3 1 v (memL t n).length ((memL t n).map natV) ∧ Below W.heap.size W W' :=
  members_list g B t n W h (by have := (ht.memrow n).1; omega) (fun m hm => ((ht.memrow n).2 m hm).2)
theorem waits_ok (h : TabR W B g t) (ht : Tok k t) (n : Int) : Calls Try.prog 15 #[.pointer (some ⟨g, 0, none⟩), .int .i64 n] W fun e W' => e = .returned (.bool (waitsB t n)) ∧ Below W.heap.size W W' :=
  waits_any g B t n W h (by have := (ht.memrow n).1; omega) (fun m hm => ((ht.memrow n).2 m hm).2)
end
end Go.Proofs.Ytnhhinlhfaapcaa
