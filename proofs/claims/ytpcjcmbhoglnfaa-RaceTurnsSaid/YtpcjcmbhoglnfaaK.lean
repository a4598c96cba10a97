/- Race: plain: the detector's numbers tell which events are ahead of which. -/
import Derived.Test.YtpcjcmbhoglnfaaE
namespace Go.Proofs.Ytpcjcmbhoglnfaa
open Go.RowKit
set_option linter.unusedVariables false
set_option linter.unusedSimpArgs false

def trOf (L : List Ev) : Tr := ⟨fun i => (evAt L i).kind, fun i => (evAt L i).thread, fun i => (evAt L i).id⟩
/-- what the new event knows -/
def clkL (D : Det) (x : Ev) : List Int :=
  if x.kind = 8 then joinL (tickL (D.T.getD x.thread.toNat []) x.thread) (D.T.getD x.id.toNat [])
  else if x.kind = 5 then joinL (tickL (D.T.getD x.thread.toNat []) x.thread) (D.O x.id)
  else tickL (D.T.getD x.thread.toNat []) x.thread
theorem dStep_eq (D : Det) (x : Ev) : dStep D x = { T := if x.kind = 7 then (D.T ++ [clkL D x]).set x.thread.toNat (clkL D x) else D.T.set x.thread.toNat (clkL D x), O := if x.kind = 6 then setO D.O x.id (joinL (D.O x.id) (clkL D x)) else D.O, K := D.K ++ [clkL D x] } := by
  unfold dStep clkL
  dsimp only
  by_cases k7 : x.kind = 7
  · simp [k7]
  · by_cases k8 : x.kind = 8
    · simp [k8]
    · by_cases k5 : x.kind = 5
      · simp [k5]
      · by_cases k6 : x.kind = 6
        · simp [k6]
        · simp [k5, k6, k7, k8]
structure Sim (L : List Ev) (n : Nat) (E : List Bool) : Prop where
  run : runT [false] (L.take n) = some E
  nn : (st (trOf L) n).n = E.length
  tl : (detL (L.take n)).T.length = E.length
  tt : ∀ (t : Nat) (u : Int), atZ ((detL (L.take n)).T.getD t []) u = (st (trOf L) n).T t u
  oo : ∀ o u, atZ ((detL (L.take n)).O o) u = (st (trOf L) n).O o u
  ee : ∀ t : Nat, E.getD t false = en (trOf L) n t
  ok : ∀ k, k < n → Ok (trOf L) k
  kk : ∀ k, k < n → ∀ u, atZ (kc L k) u = K (trOf L) k u
theorem atZ_nil (u : Int) : atZ [] u = 0 := atZ_out (by simp; omega)
theorem sim0 (L : List Ev) : Sim L 0 [false] where
  run := rfl
  nn := rfl
  tl := rfl
  tt := by
    intro t u
    show atZ (([[]] : List (List Int)).getD t []) u = 0
    cases t with
    | zero => exact atZ_nil u
    | succ t => simp [atZ_nil]
  oo := by intro o u; exact atZ_nil u
  ee := by
    intro t
    cases t with
    | zero => rfl
    | succ t => simp [en]
  ok := by intro k hk; omega
  kk := by intro k hk; omega
theorem sim_succ {L : List Ev} (h : mayB L = true) (hN : L.length ≤ 60000) {n : Nat} (hn : n < L.length) {E : List Bool} (S : Sim L n E) : ∃ E', Sim L (n + 1) E' := by
  have hx := at_evAt hn
  obtain ⟨x, hxe⟩ : ∃ x, x = evAt L n := ⟨_, rfl⟩
  rw [← hxe] at hx
  obtain ⟨g1, g2⟩ := mayB_step h hx S.run
  have hg := doesF_good g1
  have I := inv_all (trOf L) n S.ok
  have hkd : (trOf L).kd n = x.kind := by rw [hxe]; rfl
  have hth : (trOf L).th n = x.thread := by rw [hxe]; rfl
  have hid : (trOf L).id n = x.id := by rw [hxe]; rfl
  obtain ⟨t, ht⟩ : ∃ t : Nat, x.thread = t := ⟨x.thread.toNat, by have := hg.t0; omega⟩
  have htE : t < E.length := by have := hg.t1; omega
  have hOk : Ok (trOf L) n := by
    refine ⟨by rw [hth]; exact hg.t0, by rw [hth, S.nn]; exact hg.t1, ?_, ?_, ?_⟩
    · rw [hth, ht, ← S.ee]
      have := hg.run
      rw [ht, Int.toNat_natCast] at this
      exact this
    · intro k; rw [hid, S.nn]; exact (hg.spawn (hkd ▸ k)).1
    · intro k
      obtain ⟨j0, j1, j2⟩ := hg.join (hkd ▸ k)
      obtain ⟨j, hj⟩ : ∃ j : Nat, x.id = j := ⟨x.id.toNat, by omega⟩
      rw [hid, hj, ← S.ee]
      rw [hj, Int.toNat_natCast] at j2
      exact j2
  obtain ⟨D, hD⟩ : ∃ D, D = detL (L.take n) := ⟨_, rfl⟩
  have hD' : detL (L.take (n + 1)) = dStep D x := by rw [take_snoc hx, detL_snoc, hD]
  have hKl : D.K.length = n := by rw [hD, detL_len, List.length_take]; omega
  have htl : D.T.length = E.length := by rw [hD]; exact S.tl
  have htt : ∀ (t : Nat) (u : Int), atZ (D.T.getD t []) u = (st (trOf L) n).T t u := by rw [hD]; exact S.tt
  have hoo : ∀ o u, atZ (D.O o) u = (st (trOf L) n).O o u := by rw [hD]; exact S.oo
  have htick : ∀ u, atZ (tickL (D.T.getD t []) t) u = if u = (t : Int) then (st (trOf L) n).T t u + 1 else (st (trOf L) n).T t u := by
    intro u
    have hlow := I.lowT t t
    have hown : atZ (D.T.getD t []) t = (st (trOf L) n).T t t := htt t t
    rw [atZ_tickL _ _ (by rw [hown]; omega)]
    have hE := runT_len _ _ _ S.run
    rw [List.length_take] at hE
    simp at hE
    have hon : tickOn (D.T.getD t []) t = true := (tickOn_iff _ _).2 ⟨by omega, by omega, by rw [hown]; omega⟩
    by_cases hu : u = (t : Int)
    · rw [if_pos ⟨hon, hu⟩, if_pos hu, hown, hu]
    · rw [if_neg (fun h => hu h.2), if_neg hu, htt]
  have hclk : ∀ u, atZ (clkL D x) u = cl (trOf L) (st (trOf L) n) n u := by
    intro u
    unfold clkL cl
    rw [hkd, hth, hid, ht, Int.toNat_natCast]
    dsimp only
    by_cases k8 : x.kind = 8
    · rw [if_pos k8, if_pos k8, atZ_joinL, htick]
      obtain ⟨j0, j1, j2⟩ := hg.join k8
      obtain ⟨j, hj⟩ : ∃ j : Nat, x.id = j := ⟨x.id.toNat, by omega⟩
      rw [hj, Int.toNat_natCast, htt]
    · rw [if_neg k8, if_neg k8]
      by_cases k5 : x.kind = 5
      · rw [if_pos k5, if_pos k5, atZ_joinL, htick, hoo]
      · rw [if_neg k5, if_neg k5, htick]
  have hkc : kc L n = clkL D x := by
    have h1 := kc_at (L := L) (i := n) (n := n + 1) (by omega) (by omega)
    rw [hD', dStep_eq] at h1
    dsimp only at h1
    rw [List.getElem?_append_right (by omega), hKl] at h1
    simpa using h1.symm
  refine ⟨_, g2, ?_, ?_, ?_, ?_, ?_, ?_, ?_⟩
  · rw [n_succ, hkd, S.nn]
    by_cases k7 : x.kind = 7
    · rw [if_pos k7, (hg.spawn k7).2.2]; simp
    · rw [if_neg k7]
      by_cases k9 : x.kind = 9
      · rw [hg.fin k9]; simp
      · rw [hg.same k7 k9]
  · rw [hD', dStep_T, htl]
    by_cases k7 : x.kind = 7
    · rw [if_pos k7, (hg.spawn k7).2.2]; simp
    · rw [if_neg k7]
      by_cases k9 : x.kind = 9
      · rw [hg.fin k9]; simp
      · rw [hg.same k7 k9]
  · intro j u
    rw [hD', dStep_eq]
    dsimp only
    rw [ht, Int.toNat_natCast]
    by_cases k7 : x.kind = 7
    · rw [if_pos k7]
      have hsid := (hg.spawn k7).1
      by_cases hj : (j : Int) = (trOf L).th n ∨ ((trOf L).kd n = 7 ∧ (j : Int) = (trOf L).id n)
      · rw [T_new _ n hj]
        show _ = cl _ _ _ _
        rw [← hclk]
        congr 1
        rw [List.getD_eq_getElem?_getD]
        rw [hth, ht, hid, hsid] at hj
        by_cases hjt : j = t
        · subst hjt; rw [List.getElem?_set_self (by simp; omega)]; rfl
        · rw [List.getElem?_set_ne (fun e => hjt e.symm)]
          have : j = D.T.length := by omega
          rw [this, List.getElem?_append_right (Nat.le_refl _)]
          simp
      · rw [T_old _ n hj, ← htt]
        congr 1
        rw [hth, ht, hid, hsid, hkd] at hj
        rw [List.getD_eq_getElem?_getD, List.getD_eq_getElem?_getD, List.getElem?_set_ne (fun e => hj (.inl (by omega)))]
        rcases Nat.lt_trichotomy j D.T.length with hl | hl | hl
        · rw [List.getElem?_append_left hl]
        · exact absurd (.inr ⟨k7, by omega⟩) hj
        · rw [List.getElem?_append_right (by omega), List.getElem?_eq_none (by simp; omega), List.getElem?_eq_none (by omega)]
    · rw [if_neg k7]
      by_cases hj : (j : Int) = (trOf L).th n ∨ ((trOf L).kd n = 7 ∧ (j : Int) = (trOf L).id n)
      · rw [T_new _ n hj]
        show _ = cl _ _ _ _
        rw [← hclk]
        congr 1
        rw [List.getD_eq_getElem?_getD]
        rw [hth, ht, hkd] at hj
        have hjt : j = t := by
          rcases hj with hj | hj
          · omega
          · exact absurd hj.1 k7
        subst hjt
        rw [List.getElem?_set_self (by omega)]; rfl
      · rw [T_old _ n hj, ← htt]
        congr 1
        rw [hth, ht] at hj
        rw [List.getD_eq_getElem?_getD, List.getD_eq_getElem?_getD, List.getElem?_set_ne (fun e => hj (.inl (by omega)))]
  · intro o u
    rw [hD', dStep_eq]
    dsimp only
    by_cases hk : (trOf L).kd n = 6 ∧ o = (trOf L).id n
    · rw [O_new _ n hk, ← hoo]
      show _ = max _ (cl _ _ _ _)
      rw [← hclk]
      rw [hkd, hid] at hk
      rw [if_pos hk.1, hk.2, show setO D.O x.id (joinL (D.O x.id) (clkL D x)) x.id = joinL (D.O x.id) (clkL D x) from if_pos rfl, atZ_joinL]
    · rw [O_old _ n hk, ← hoo]
      rw [hkd, hid] at hk
      by_cases k6 : x.kind = 6
      · rw [if_pos k6, show setO D.O x.id (joinL (D.O x.id) (clkL D x)) o = D.O o from if_neg (fun e => hk ⟨k6, e⟩)]
      · rw [if_neg k6]
  · intro j
    unfold en
    rw [hkd, hth, ht]
    by_cases k9 : x.kind = 9
    · rw [hg.fin k9, ht, Int.toNat_natCast, List.getD_eq_getElem?_getD]
      by_cases hj : j = t
      · subst hj; rw [List.getElem?_set_self htE, if_pos ⟨k9, rfl⟩]; rfl
      · rw [List.getElem?_set_ne (fun e => hj e.symm), if_neg (fun e => hj (by have := e.2; omega)), ← S.ee, List.getD_eq_getElem?_getD]
    · rw [if_neg (fun e => k9 e.1), ← S.ee]
      by_cases k7 : x.kind = 7
      · rw [(hg.spawn k7).2.2, List.getD_eq_getElem?_getD, List.getD_eq_getElem?_getD]
        rcases Nat.lt_trichotomy j E.length with hl | hl | hl
        · rw [List.getElem?_append_left hl]
        · subst hl; simp
        · rw [List.getElem?_append_right (by omega), List.getElem?_eq_none (by simp; omega), List.getElem?_eq_none (by omega)]
      · rw [hg.same k7 k9]
  · intro k hk
    by_cases e : k = n
    · subst e; exact hOk
    · exact S.ok k (by omega)
  · intro k hk u
    by_cases e : k = n
    · subst e; rw [hkc]; exact hclk u
    · exact S.kk k (by omega) u
theorem sim_all {L : List Ev} (h : mayB L = true) (hN : L.length ≤ 60000) : ∀ n, n ≤ L.length → ∃ E, Sim L n E
  | 0, _ => ⟨_, sim0 L⟩
  | n + 1, hn => by
    obtain ⟨E, S⟩ := sim_all h hN n (by omega)
    exact sim_succ h hN (by omega) S
theorem all_ok {L : List Ev} (h : mayB L = true) (hN : L.length ≤ 60000) : ∀ k, k < L.length → Ok (trOf L) k := by
  obtain ⟨E, S⟩ := sim_all h hN L.length (Nat.le_refl _)
  exact S.ok
/-- THE LAW of the detector -/
theorem ahB_iff {L : List Ev} (h : mayB L = true) (hN : L.length ≤ 60000) {i k : Nat} (hik : i < k) (hk : k < L.length) : ahB L i k = true ↔ HB (trOf L).F i k := by
  obtain ⟨E, S⟩ := sim_all h hN L.length (Nat.le_refl _)
  unfold ahB
  rw [decide_eq_true_iff, S.kk i (by omega), S.kk k hk, HB_F S.ok hk]
  exact ahead_iff S.ok hik hk
end Go.Proofs.Ytpcjcmbhoglnfaa
