/- Race: the plain law of vector clocks: an event is ahead of a later one just if its thread's number is known to it. No program in sight. -/
set_option linter.unusedVariables false
namespace Go.Proofs.Ytpcjcmbhoglnfaa

/-- events: kind, thread, object or other thread -/
structure Tr where
  kd : Nat → Int
  th : Nat → Int
  id : Nat → Int

/-- an event follows an earlier one at once -/
def Tr.D (e : Tr) (i k : Nat) : Prop := e.th i = e.th k ∨ (e.kd i = 7 ∧ e.id i = e.th k) ∨ (e.kd k = 8 ∧ e.th i = e.id k) ∨ (e.kd i = 6 ∧ e.kd k = 5 ∧ e.id i = e.id k)

inductive HB (R : Nat → Nat → Prop) : Nat → Nat → Prop
  | one {i k : Nat} : i < k → R i k → HB R i k
  | step {i j k : Nat} : HB R i j → j < k → R j k → HB R i k

theorem HB.lt {R : Nat → Nat → Prop} {i k : Nat} (h : HB R i k) : i < k := by
  induction h with
  | one h _ => exact h
  | step _ h _ ih => omega
theorem HB.trans {R : Nat → Nat → Prop} {i j k : Nat} (h1 : HB R i j) (h2 : HB R j k) : HB R i k := by
  induction h2 with
  | one h r => exact .step h1 h r
  | step _ h r ih => exact .step ih h r
theorem HB.last {R : Nat → Nat → Prop} {i n : Nat} : HB R i n ↔ ∃ j, j < n ∧ (i = j ∨ HB R i j) ∧ R j n := by
  constructor
  · intro h
    cases h with
    | one h r => exact ⟨i, h, .inl rfl, r⟩
    | step h1 h r => exact ⟨_, h, .inr h1, r⟩
  · rintro ⟨j, h, rfl | h1, r⟩
    · exact .one h r
    · exact .step h1 h r
theorem HB.mono {R R' : Nat → Nat → Prop} {N : Nat} (hR : ∀ i k, i < k → k < N → R i k → HB R' i k) {i k : Nat} (h : HB R i k) (hk : k < N) : HB R' i k := by
  induction h with
  | one h r => exact hR _ _ h hk r
  | step _ h r ih => exact (ih (by omega)).trans (hR _ _ h hk r)
theorem HB.congr {R R' : Nat → Nat → Prop} {N : Nat} (hR : ∀ i k, i < k → k < N → (R i k ↔ R' i k)) {i k : Nat} (hk : k < N) : HB R i k ↔ HB R' i k :=
  ⟨fun h => h.mono (fun i k h1 h2 r => .one h1 ((hR i k h1 h2).1 r)) hk, fun h => h.mono (fun i k h1 h2 r => .one h1 ((hR i k h1 h2).2 r)) hk⟩

/-- what is known: how many threads there are, what each knows, what was released of each object -/
structure St where
  n : Int
  T : Int → Int → Int
  O : Int → Int → Int

def cl (e : Tr) (s : St) (k : Nat) (u : Int) : Int :=
  let c := if u = e.th k then s.T (e.th k) u + 1 else s.T (e.th k) u
  if e.kd k = 8 then max c (s.T (e.id k) u) else if e.kd k = 5 then max c (s.O (e.id k) u) else c
def stp (e : Tr) (s : St) (k : Nat) : St where
  n := if e.kd k = 7 then s.n + 1 else s.n
  T := fun t => if t = e.th k ∨ (e.kd k = 7 ∧ t = e.id k) then cl e s k else s.T t
  O := fun o => if e.kd k = 6 ∧ o = e.id k then fun u => max (s.O o u) (cl e s k u) else s.O o
def st (e : Tr) : Nat → St
  | 0 => ⟨1, fun _ _ => 0, fun _ _ => 0⟩
  | k + 1 => stp e (st e k) k
/-- which threads have ended -/
def en (e : Tr) : Nat → Int → Bool
  | 0 => fun _ => false
  | k + 1 => fun t => if e.kd k = 9 ∧ t = e.th k then true else en e k t
def K (e : Tr) (k : Nat) : Int → Int := cl e (st e k) k
/-- may the event at k be? (As far as it counts here.) -/
structure Ok (e : Tr) (k : Nat) : Prop where
  t0 : 0 ≤ e.th k
  t1 : e.th k < (st e k).n
  run : en e k (e.th k) = false
  spawn : e.kd k = 7 → e.id k = (st e k).n
  join : e.kd k = 8 → en e k (e.id k) = true

structure Inv (e : Tr) (n : Nat) : Prop where
  nn : 1 ≤ (st e n).n
  thr : ∀ j, j < n → 0 ≤ e.th j ∧ e.th j < (st e n).n
  spn : ∀ s, s < n → e.kd s = 7 → e.id s < (st e n).n ∧ 0 ≤ e.id s ∧ ∀ j, j < n → e.th j = e.id s → s < j
  fin : ∀ t, en e n t = true → ∃ q, q < n ∧ e.kd q = 9 ∧ e.th q = t ∧ ∀ j, j < n → e.th j = t → j ≤ q
  off : ∀ t, ¬ (0 ≤ t ∧ t < (st e n).n) → ∀ u, (st e n).T t u = 0
  lowT : ∀ t u, 0 ≤ (st e n).T t u ∧ (st e n).T t u ≤ (st e n).T u u ∧ (st e n).T t u ≤ n
  lowO : ∀ o u, 0 ≤ (st e n).O o u ∧ (st e n).O o u ≤ (st e n).T u u ∧ (st e n).O o u ≤ n
  lowK : ∀ i, i < n → ∀ u, 0 ≤ K e i u ∧ K e i u ≤ (st e n).T u u
  pos : ∀ i, i < n → 1 ≤ K e i (e.th i)
  mT : ∀ i, i < n → ∀ t, K e i (e.th i) ≤ (st e n).T t (e.th i) ↔ ∃ j, j < n ∧ (i = j ∨ HB e.D i j) ∧ (e.th j = t ∨ (e.kd j = 7 ∧ e.id j = t))
  mO : ∀ i, i < n → ∀ o, K e i (e.th i) ≤ (st e n).O o (e.th i) ↔ ∃ j, j < n ∧ (i = j ∨ HB e.D i j) ∧ e.kd j = 6 ∧ e.id j = o
  mK : ∀ i k, i < k → k < n → (K e i (e.th i) ≤ K e k (e.th i) ↔ HB e.D i k)

theorem inv0 (e : Tr) : Inv e 0 where
  nn := by simp [st]
  thr := by intro j hj; omega
  spn := by intro j hj; omega
  fin := by intro t ht; simp [en] at ht
  off := by intro t _ u; rfl
  lowT := by intro t u; simp [st]
  lowO := by intro t u; simp [st]
  lowK := by intro j hj; omega
  pos := by intro j hj; omega
  mT := by intro j hj; omega
  mO := by intro j hj; omega
  mK := by intro i k h1 h2; omega

section
variable {e : Tr} {n : Nat}
theorem cl_own (I : Inv e n) (h : Ok e n) : cl e (st e n) n (e.th n) = (st e n).T (e.th n) (e.th n) + 1 := by
  unfold cl
  simp only [if_true]
  have h1 := I.lowT (e.id n) (e.th n)
  have h2 := I.lowO (e.id n) (e.th n)
  split
  · omega
  · split <;> omega
theorem cl_other (e : Tr) (s : St) (n : Nat) {u : Int} (hu : u ≠ e.th n) : cl e s n u = if e.kd n = 8 then max (s.T (e.th n) u) (s.T (e.id n) u) else if e.kd n = 5 then max (s.T (e.th n) u) (s.O (e.id n) u) else s.T (e.th n) u := by
  unfold cl
  simp only [if_neg hu]
theorem cl_bd (I : Inv e n) (h : Ok e n) (u : Int) : 0 ≤ cl e (st e n) n u ∧ cl e (st e n) n u ≤ n + 1 ∧ (u ≠ e.th n → cl e (st e n) n u ≤ (st e n).T u u) := by
  by_cases hu : u = e.th n
  · subst hu
    rw [cl_own I h]
    have := I.lowT (e.th n) (e.th n)
    exact ⟨by omega, by omega, fun h => absurd rfl h⟩
  · rw [cl_other e _ n hu]
    have h1 := I.lowT (e.th n) u
    have h2 := I.lowT (e.id n) u
    have h3 := I.lowO (e.id n) u
    split
    · omega
    · split <;> omega
/-- what the new event knows -/
theorem new_iff (I : Inv e n) (h : Ok e n) (i : Nat) (hi : i < n) : K e i (e.th i) ≤ K e n (e.th i) ↔ HB e.D i n := by
  show K e i (e.th i) ≤ cl e (st e n) n (e.th i) ↔ _
  by_cases hu : e.th i = e.th n
  · have h1 := (I.lowK i hi (e.th i)).2
    rw [hu] at h1 ⊢
    rw [cl_own I h]
    exact ⟨fun _ => .one hi (.inl hu), fun _ => by omega⟩
  · rw [cl_other e _ n hu, HB.last]
    have hT := I.mT i hi
    have hO := I.mO i hi
    have key : K e i (e.th i) ≤ (st e n).T (e.th n) (e.th i) → ∃ j, j < n ∧ (i = j ∨ HB e.D i j) ∧ e.D j n := by
      intro hh
      obtain ⟨j, hj, h1, h2 | h2⟩ := (hT _).1 hh
      · exact ⟨j, hj, h1, .inl h2⟩
      · exact ⟨j, hj, h1, .inr (.inl h2)⟩
    by_cases k8 : e.kd n = 8
    · rw [if_pos k8]
      constructor
      · intro hh
        rcases (by omega : K e i (e.th i) ≤ (st e n).T (e.th n) (e.th i) ∨ K e i (e.th i) ≤ (st e n).T (e.id n) (e.th i)) with hh | hh
        · exact key hh
        · obtain ⟨j, hj, h1, h2 | ⟨h2, h3⟩⟩ := (hT _).1 hh
          · exact ⟨j, hj, h1, .inr (.inr (.inl ⟨k8, h2⟩))⟩
          · obtain ⟨q, hq, _, q2, _⟩ := I.fin _ (h.join k8)
            have hjq := (I.spn j hj h2).2.2 q hq (q2.trans h3.symm)
            have e1 : HB e.D j q := .one hjq (.inr (.inl ⟨h2, by rw [h3, q2]⟩))
            refine ⟨q, hq, .inr ?_, .inr (.inr (.inl ⟨k8, q2⟩))⟩
            rcases h1 with rfl | h1
            · exact e1
            · exact h1.trans e1
      · rintro ⟨j, hj, h1, h2⟩
        have : K e i (e.th i) ≤ (st e n).T (e.th n) (e.th i) ∨ K e i (e.th i) ≤ (st e n).T (e.id n) (e.th i) := by
          rcases h2 with h2 | h2 | ⟨_, h2⟩ | ⟨_, h2, _⟩
          · exact .inl ((hT _).2 ⟨j, hj, h1, .inl h2⟩)
          · exact .inl ((hT _).2 ⟨j, hj, h1, .inr h2⟩)
          · exact .inr ((hT _).2 ⟨j, hj, h1, .inl h2⟩)
          · omega
        omega
    · rw [if_neg k8]
      by_cases k5 : e.kd n = 5
      · rw [if_pos k5]
        constructor
        · intro hh
          rcases (by omega : K e i (e.th i) ≤ (st e n).T (e.th n) (e.th i) ∨ K e i (e.th i) ≤ (st e n).O (e.id n) (e.th i)) with hh | hh
          · exact key hh
          · obtain ⟨j, hj, h1, h2, h3⟩ := (hO _).1 hh
            exact ⟨j, hj, h1, .inr (.inr (.inr ⟨h2, k5, h3⟩))⟩
        · rintro ⟨j, hj, h1, h2⟩
          have : K e i (e.th i) ≤ (st e n).T (e.th n) (e.th i) ∨ K e i (e.th i) ≤ (st e n).O (e.id n) (e.th i) := by
            rcases h2 with h2 | h2 | ⟨h2, _⟩ | ⟨h2, _, h3⟩
            · exact .inl ((hT _).2 ⟨j, hj, h1, .inl h2⟩)
            · exact .inl ((hT _).2 ⟨j, hj, h1, .inr h2⟩)
            · omega
            · exact .inr ((hO _).2 ⟨j, hj, h1, h2, h3⟩)
          omega
      · rw [if_neg k5]
        constructor
        · exact key
        · rintro ⟨j, hj, h1, h2⟩
          rcases h2 with h2 | h2 | ⟨h2, _⟩ | ⟨_, h2, _⟩
          · exact (hT _).2 ⟨j, hj, h1, .inl h2⟩
          · exact (hT _).2 ⟨j, hj, h1, .inr h2⟩
          · omega
          · omega
theorem st_succ (e : Tr) (n : Nat) : st e (n + 1) = stp e (st e n) n := rfl
theorem T_new (e : Tr) (n : Nat) {t : Int} (h : t = e.th n ∨ (e.kd n = 7 ∧ t = e.id n)) : (st e (n + 1)).T t = K e n := by
  rw [st_succ]; unfold stp; exact if_pos h
theorem T_old (e : Tr) (n : Nat) {t : Int} (h : ¬ (t = e.th n ∨ (e.kd n = 7 ∧ t = e.id n))) : (st e (n + 1)).T t = (st e n).T t := by
  rw [st_succ]; unfold stp; exact if_neg h
theorem O_new (e : Tr) (n : Nat) {o : Int} (h : e.kd n = 6 ∧ o = e.id n) (u : Int) : (st e (n + 1)).O o u = max ((st e n).O o u) (K e n u) := by
  rw [st_succ]; unfold stp; simp only [if_pos h]; rfl
theorem O_old (e : Tr) (n : Nat) {o : Int} (h : ¬ (e.kd n = 6 ∧ o = e.id n)) : (st e (n + 1)).O o = (st e n).O o := by
  rw [st_succ]; unfold stp; exact if_neg h
theorem n_succ (e : Tr) (n : Nat) : (st e (n + 1)).n = if e.kd n = 7 then (st e n).n + 1 else (st e n).n := rfl
theorem n_le (e : Tr) (n : Nat) : (st e n).n ≤ (st e (n + 1)).n := by rw [n_succ]; split <;> omega

/-- each thread's own number rises -/
theorem own_up (I : Inv e n) (h : Ok e n) (u : Int) : (st e n).T u u ≤ (st e (n + 1)).T u u := by
  by_cases hu : u = e.th n
  · rw [T_new e n (.inl hu)]
    show _ ≤ cl e (st e n) n u
    subst hu
    rw [cl_own I h]; omega
  · by_cases h7 : e.kd n = 7 ∧ u = e.id n
    · rw [I.off u (by have := h.spawn h7.1; omega), T_new e n (.inr h7)]
      exact (cl_bd I h u).1
    · rw [T_old e n (by rintro (h | h); exact hu h; exact h7 h)]; exact Int.le_refl _
theorem new_le (I : Inv e n) (h : Ok e n) (u : Int) : K e n u ≤ (st e (n + 1)).T u u := by
  by_cases hu : u = e.th n
  · rw [T_new e n (.inl hu)]; exact Int.le_refl _
  · exact Int.le_trans ((cl_bd I h u).2.2 hu) (own_up I h u)

theorem inv_succ (I : Inv e n) (h : Ok e n) : Inv e (n + 1) := by
  have ht0 := h.t0
  have ht1 := h.t1
  have hn1 := n_le e n
  have hnew := new_iff I h
  have hlast : ∀ j, j < n + 1 → (n = j ∨ HB e.D n j) → n = j := by
    rintro j hj (h | h)
    · exact h
    · have := h.lt; omega
  constructor
  case nn => have := I.nn; omega
  case thr =>
    intro j hj
    by_cases e1 : j = n
    · subst e1; exact ⟨ht0, by omega⟩
    · have := I.thr j (by omega); omega
  case spn =>
    intro s hs hk
    by_cases e1 : s = n
    · subst e1
      have hid := h.spawn hk
      have hs1 : (st e (s + 1)).n = (st e s).n + 1 := by rw [n_succ, if_pos hk]
      refine ⟨by omega, by have := I.nn; omega, fun j hj hth => ?_⟩
      by_cases e2 : j = s
      · subst e2; omega
      · have := I.thr j (by omega); omega
    · obtain ⟨h1, h2, h3⟩ := I.spn s (by omega) hk
      refine ⟨by omega, h2, fun j hj hth => ?_⟩
      by_cases e2 : j = n
      · omega
      · exact h3 j (by omega) hth
  case fin =>
    intro t ht
    unfold en at ht
    by_cases h9 : e.kd n = 9 ∧ t = e.th n
    · exact ⟨n, by omega, h9.1, h9.2.symm, fun j hj _ => by omega⟩
    · rw [if_neg h9] at ht
      obtain ⟨q, q1, q2, q3, q4⟩ := I.fin t ht
      refine ⟨q, by omega, q2, q3, fun j hj hth => ?_⟩
      by_cases e2 : j = n
      · subst e2
        have hr := h.run
        rw [hth, ht] at hr
        cases hr
      · exact q4 j (by omega) hth
  case off =>
    intro t hnt u
    have hne : ¬ (t = e.th n ∨ (e.kd n = 7 ∧ t = e.id n)) := by
      rintro (h1 | ⟨h1, h2⟩)
      · omega
      · have := h.spawn h1
        rw [n_succ, if_pos h1] at hnt
        have := I.nn
        omega
    rw [T_old e n hne]
    exact I.off t (by omega) u
  case lowT =>
    intro t u
    by_cases hc : t = e.th n ∨ (e.kd n = 7 ∧ t = e.id n)
    · rw [T_new e n hc]
      have h1 := cl_bd I h u
      have h2 := new_le I h u
      exact ⟨h1.1, h2, by have := h1.2.1; show cl e (st e n) n u ≤ _; omega⟩
    · rw [T_old e n hc]
      have h1 := I.lowT t u
      have h2 := own_up I h u
      omega
  case lowO =>
    intro o u
    have h1 := I.lowO o u
    have h2 := own_up I h u
    have h3 := new_le I h u
    have h4 := cl_bd I h u
    by_cases hc : e.kd n = 6 ∧ o = e.id n
    · rw [O_new e n hc]
      have h5 : K e n u = cl e (st e n) n u := rfl
      omega
    · rw [O_old e n hc]; omega
  case lowK =>
    intro i hi u
    by_cases e1 : i = n
    · subst e1; exact ⟨(cl_bd I h u).1, new_le I h u⟩
    · have h1 := I.lowK i (by omega) u
      have h2 := own_up I h u
      omega
  case pos =>
    intro i hi
    by_cases e1 : i = n
    · subst e1
      show 1 ≤ cl e (st e i) i (e.th i)
      rw [cl_own I h]
      have := I.lowT (e.th i) (e.th i)
      omega
    · exact I.pos i (by omega)
  case mT =>
    intro i hi t
    by_cases hc : t = e.th n ∨ (e.kd n = 7 ∧ t = e.id n)
    · rw [T_new e n hc]
      by_cases e1 : i = n
      · subst e1
        refine ⟨fun _ => ⟨i, hi, .inl rfl, ?_⟩, fun _ => Int.le_refl _⟩
        rcases hc with hc | hc
        · exact .inl hc.symm
        · exact .inr ⟨hc.1, hc.2.symm⟩
      · rw [hnew i (by omega)]
        constructor
        · intro hh
          refine ⟨n, by omega, .inr hh, ?_⟩
          rcases hc with hc | hc
          · exact .inl hc.symm
          · exact .inr ⟨hc.1, hc.2.symm⟩
        · rintro ⟨j, hj, h1, h2⟩
          by_cases e2 : j = n
          · subst e2
            rcases h1 with h1 | h1
            · exact absurd h1 e1
            · exact h1
          · have hjn : j < n := by omega
            have hd : e.D j n := by
              rcases hc with hc | ⟨hc1, hc2⟩
              · subst hc
                rcases h2 with h2 | h2
                · exact .inl h2
                · exact .inr (.inl h2)
              · have hs := h.spawn hc1
                rcases h2 with h2 | ⟨h2, h3⟩
                · have := I.thr j hjn; omega
                · have := I.spn j hjn h2; omega
            exact HB.last.2 ⟨j, hjn, h1, hd⟩
    · rw [T_old e n hc]
      by_cases e1 : i = n
      · subst e1
        constructor
        · intro hh
          have h1 := (I.lowT t (e.th i)).2.1
          have h2 : K e i (e.th i) = (st e i).T (e.th i) (e.th i) + 1 := cl_own I h
          omega
        · rintro ⟨j, hj, h1, h2⟩
          obtain rfl := hlast j hj h1
          rcases h2 with h2 | h2
          · exact absurd (.inl h2.symm) hc
          · exact absurd (.inr ⟨h2.1, h2.2.symm⟩) hc
      · rw [I.mT i (by omega) t]
        constructor
        · rintro ⟨j, hj, r⟩
          exact ⟨j, by omega, r⟩
        · rintro ⟨j, hj, h1, h2⟩
          by_cases e2 : j = n
          · subst e2
            rcases h2 with h2 | h2
            · exact absurd (.inl h2.symm) hc
            · exact absurd (.inr ⟨h2.1, h2.2.symm⟩) hc
          · exact ⟨j, by omega, h1, h2⟩
  case mO =>
    intro i hi o
    by_cases hc : e.kd n = 6 ∧ o = e.id n
    · rw [O_new e n hc]
      by_cases e1 : i = n
      · subst e1
        exact ⟨fun _ => ⟨i, hi, .inl rfl, hc.1, hc.2.symm⟩, fun _ => by omega⟩
      · have h1 := I.mO i (by omega) o
        have h2 := hnew i (by omega)
        constructor
        · intro hh
          rcases (by omega : K e i (e.th i) ≤ (st e n).O o (e.th i) ∨ K e i (e.th i) ≤ K e n (e.th i)) with hh | hh
          · obtain ⟨j, hj, r⟩ := h1.1 hh
            exact ⟨j, by omega, r⟩
          · exact ⟨n, by omega, .inr (h2.1 hh), hc.1, hc.2.symm⟩
        · rintro ⟨j, hj, r1, r2⟩
          by_cases e2 : j = n
          · subst e2
            rcases r1 with r1 | r1
            · exact absurd r1 e1
            · have := h2.2 r1; omega
          · have := h1.2 ⟨j, by omega, r1, r2⟩; omega
    · rw [O_old e n hc]
      by_cases e1 : i = n
      · subst e1
        constructor
        · intro hh
          have h1 := (I.lowO o (e.th i)).2.1
          have h2 : K e i (e.th i) = (st e i).T (e.th i) (e.th i) + 1 := cl_own I h
          omega
        · rintro ⟨j, hj, h1, h2⟩
          obtain rfl := hlast j hj h1
          exact absurd ⟨h2.1, h2.2.symm⟩ hc
      · rw [I.mO i (by omega) o]
        constructor
        · rintro ⟨j, hj, r⟩
          exact ⟨j, by omega, r⟩
        · rintro ⟨j, hj, h1, h2⟩
          by_cases e2 : j = n
          · subst e2
            exact absurd ⟨h2.1, h2.2.symm⟩ hc
          · exact ⟨j, by omega, h1, h2⟩
  case mK =>
    intro i k hik hk
    by_cases e1 : k = n
    · subst e1; exact hnew i hik
    · exact I.mK i k hik (by omega)

theorem inv_all (e : Tr) : ∀ n, (∀ k, k < n → Ok e k) → Inv e n
  | 0, _ => inv0 e
  | n + 1, h => inv_succ (inv_all e n fun k hk => h k (by omega)) (h n (by omega))
end

/-! ### the other way to say what follows at once -/
def Tr.F (e : Tr) (i k : Nat) : Prop :=
  if e.th i = e.th k then True else if e.kd i = 7 then e.id i = e.th k else if e.kd k = 8 then e.th i = e.id k else e.kd i = 6 ∧ e.kd k = 5 ∧ e.id i = e.id k
theorem F_D {e : Tr} {i k : Nat} (h : e.F i k) : e.D i k := by
  unfold Tr.F at h
  unfold Tr.D
  split at h
  · exact .inl ‹_›
  · split at h
    · exact .inr (.inl ⟨‹_›, h⟩)
    · split at h
      · exact .inr (.inr (.inl ⟨‹_›, h⟩))
      · exact .inr (.inr (.inr h))
theorem D_F {e : Tr} {N : Nat} (hv : ∀ k, k < N → Ok e k) {i k : Nat} (hik : i < k) (hk : k < N) (h : e.D i k) : HB e.F i k := by
  by_cases hf : e.F i k
  · exact .one hik hf
  · have h8 : e.kd k = 8 ∧ e.th i = e.id k ∧ e.kd i = 7 ∧ e.th i ≠ e.th k := by
      unfold Tr.F at hf
      unfold Tr.D at h
      by_cases h1 : e.th i = e.th k
      · rw [if_pos h1] at hf; exact absurd trivial hf
      · rw [if_neg h1] at hf
        by_cases h2 : e.kd i = 7
        · rw [if_pos h2] at hf
          rcases h with h | h | h | h
          · exact absurd h h1
          · exact absurd h.2 hf
          · exact ⟨h.1, h.2, h2, h1⟩
          · omega
        · rw [if_neg h2] at hf
          by_cases h3 : e.kd k = 8
          · rw [if_pos h3] at hf
            rcases h with h | h | h | h
            · exact absurd h h1
            · exact absurd h.1 h2
            · exact absurd h.2 hf
            · omega
          · rw [if_neg h3] at hf
            rcases h with h | h | h | h
            · exact absurd h h1
            · exact absurd h.1 h2
            · exact absurd h.1 h3
            · exact absurd h hf
    obtain ⟨k8, hid, k7, hne⟩ := h8
    have I := inv_all e k (fun q hq => hv q (by omega))
    obtain ⟨q, q1, q2, q3, q4⟩ := I.fin _ ((hv k hk).join k8)
    have hiq := q4 i hik hid
    have hne2 : i ≠ q := by rintro rfl; omega
    refine .step (.one (k := q) (by omega) ?_) q1 ?_
    · unfold Tr.F; rw [if_pos (by rw [hid, q3])]; trivial
    · unfold Tr.F
      by_cases h1 : e.th q = e.th k
      · rw [if_pos h1]; trivial
      · rw [if_neg h1, if_neg (by omega), if_pos k8]; exact q3
theorem HB_F {e : Tr} {N : Nat} (hv : ∀ k, k < N → Ok e k) {i k : Nat} (hk : k < N) : HB e.F i k ↔ HB e.D i k :=
  ⟨fun h => h.mono (fun _ _ h1 _ r => .one h1 (F_D r)) hk, fun h => h.mono (fun _ _ h1 h2 r => D_F hv h1 h2 r) hk⟩
/-- THE LAW: whether an event is ahead of a later one is told by the numbers -/
theorem ahead_iff {e : Tr} {N : Nat} (hv : ∀ k, k < N → Ok e k) {i k : Nat} (hik : i < k) (hk : k < N) : K e i (e.th i) ≤ K e k (e.th i) ↔ HB e.D i k :=
  (inv_all e N hv).mK i k hik hk
theorem K_bd {e : Tr} {N : Nat} (hv : ∀ k, k < N → Ok e k) {k : Nat} (hk : k < N) (u : Int) : 0 ≤ K e k u ∧ K e k u ≤ k + 1 := by
  have := cl_bd (inv_all e k fun q hq => hv q (by omega)) (hv k hk) u
  exact ⟨this.1, this.2.1⟩
end Go.Proofs.Ytpcjcmbhoglnfaa
