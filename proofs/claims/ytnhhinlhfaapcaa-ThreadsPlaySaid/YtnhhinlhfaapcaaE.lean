/- Threads: what a table in memory becomes at a spawn. -/
import Derived.Test.YtnhhinlhfaapcaaD
namespace Go.Proofs.Ytnhhinlhfaapcaa
open Go.RowKit
set_option linter.unusedVariables false
set_option linter.unusedSimpArgs false

/-- a thread's innermost scope gets one more -/
def pushS (L : List (List Nat)) (c : Nat) : List (List Nat) := L.set (L.length - 1) (L.getD (L.length - 1) [] ++ [c])
def pushT (t : Tab) (i c : Nat) : Tab := setTh t i { t.th i with scopes := pushS (t.th i).scopes c }
theorem pushT_dep (t : Tab) (i c k : Nat) : dep (pushT t i c) k = dep t k := by
  unfold dep pushT
  by_cases e : k = i
  · subst e; rw [setTh_at]; simp [pushS]
  · rw [setTh_ne e]
theorem pushT_last {t : Tab} {i c : Nat} (h : 0 < dep t i) : mem (pushT t i c) i (dep t i - 1) = mem t i (dep t i - 1) ++ [c] := by
  unfold mem pushT
  rw [setTh_at]
  show (pushS (t.th i).scopes c).getD (dep t i - 1) [] = _
  unfold pushS dep at *
  rw [List.getD_eq_getElem?_getD, List.getElem?_set_self (by omega)]
  rfl
theorem pushT_else {t : Tab} {i c k m : Nat} (h : ¬ (k = i ∧ m = dep t i - 1)) : mem (pushT t i c) k m = mem t k m := by
  unfold mem pushT
  by_cases e : k = i
  · subst e
    rw [setTh_at]
    show (pushS (t.th k).scopes c).getD m [] = _
    unfold pushS dep at *
    rw [List.getD_eq_getElem?_getD, List.getD_eq_getElem?_getD, List.getElem?_set_ne (by omega)]
    exact List.getD_eq_getElem?_getD.symm
  · rw [setTh_ne e]
theorem own_step {W W' : World} {B e s n : Nat} {v u : Value} {xs : List Value} (h : W.ownsRow B e s v n xs) (hg : W.grownBy W' u.ownBlock) (hne : ∀ q, v.ownBlock = some q → u.ownBlock ≠ some q) : W'.ownsRow B e s v n xs :=
  h.kept hg (by
    cases e : v.ownBlock with
    | none => exact .inl rfl
    | some q => exact .inr (fun e2 => hne q e e2.symm))
theorem RowS.step {W W' : World} {B e n : Nat} {v u : Value} {xs : List Value} (h : RowS W B e v n xs) (hg : W.grownBy W' u.ownBlock) (hne : ∀ q, v.ownBlock = some q → u.ownBlock ≠ some q) : RowS W' B e v n xs :=
  h.kept hg (by
    cases e : v.ownBlock with
    | none => exact .inl rfl
    | some q => exact .inr (fun e2 => hne q e e2.symm))
theorem Blk.step {W W' : World} {g e : Nat} {cs : Array Value} {u : Value} (h : Blk W g e cs) (hg : W.grownBy W' u.ownBlock) (hne : u.ownBlock ≠ some g) : Blk W' g e cs := h.grown hg (fun e => hne e.symm)
section
variable {W : World} {B g gl cl : Nat} {S : Nat → Value} {C : Nat → Nat → Value} {t : Tab}
/-- the innermost scope's row is appended to, and what came of it stored -/
theorem TabX.pushed {W' : World} {i c gs cs : Nat} {nv : Value} {v : Value} (h : TabX W B g v S C t) (hi : i < t.n) (hd : 0 < dep t i) (hS : S i = .slice (some ⟨gs, 0, none⟩) (dep t i) cs)
    (hg : W.grownBy W' (C i (dep t i - 1)).ownBlock) (hown : W'.ownsRow B 3 1 nv ((mem t i (dep t i - 1)).length + 1) ((mem t i (dep t i - 1)).map natV ++ [natV c]))
    (hl : nv.ownBlock = (C i (dep t i - 1)).ownBlock ∨ nv.ownBlock = some W.heap.size) :
    TabX (W'.setCell ⟨gs, dep t i - 1, none⟩ nv) B g v S (updC C i (dep t i - 1) nv) (pushT t i c) := by
  have oC := h.oi i (dep t i - 1) hi (by omega)
  have tyC : ∀ {q}, (C i (dep t i - 1)).ownBlock = some q → Ty W q 3 := fun hq => own_ty oC hq
  have ol' : W'.ownsRow B 60 4 v t.n (ch (fun k => thC (t.th k) (S k)) t.n) := own_step h.ol hg (fun q hq e => (own_ty h.ol hq).ne (tyC e) (by decide) rfl)
  have blk' : Blk W' g 56 #[v] := Blk.step h.blk hg (fun e => h.blk.ty.ne (tyC e) (by decide) rfl)
  have os' : ∀ k, k < t.n → RowS W' B 29 (S k) (dep t k) ((List.range (dep t k)).map (C k)) := fun k hk => (h.os k hk).step hg (fun q hq e => ((h.os k hk).ty hq).ne (tyC e) (by decide) rfl)
  have oi' : ∀ k m, k < t.n → m < dep t k → ¬ (k = i ∧ m = dep t i - 1) → W'.ownsRow B 3 1 (C k m) (mem t k m).length ((mem t k m).map natV) := fun k m hk hm hne => own_step (h.oi k m hk hm) hg (fun q hq e => hne (by
    have := h.di k m i (dep t i - 1) q hk hm hi (by omega) hq e
    exact this))
  have hsty : Ty W' gs 29 := (os' i hi).ty (by rw [hS]; rfl)
  have g2 := gset W' gs (dep t i - 1) nv
  have hfresh : ∀ k m q, k < t.n → m < dep t k → ¬ (k = i ∧ m = dep t i - 1) → (C k m).ownBlock = some q → nv.ownBlock ≠ some q := by
    intro k m q hk hm hne hq e
    rcases hl with hl | hl
    · rw [hl] at e
      exact hne (h.di k m i (dep t i - 1) q hk hm hi (by omega) hq e)
    · rw [hl] at e
      injection e with e
      have := ((h.oi k m hk hm).lt q hq).2
      omega
  have hCu : ∀ k m, ¬ (k = i ∧ m = dep t i - 1) → updC C i (dep t i - 1) nv k m = C k m := fun k m hne => if_neg hne
  have hCe : updC C i (dep t i - 1) nv i (dep t i - 1) = nv := if_pos ⟨rfl, rfl⟩
  refine ⟨h.hB, h.hn, blk'.far (fun e => blk'.ty.ne hsty (by decide) e) nv, ?_, fun k hk => ?_, fun k m hk hm => ?_, h.ds, ?_⟩
  · have := own_far ol' g2 (fun q hq => (own_ty ol' hq).ne hsty (by decide))
    rw [ch_congr (g := fun k => thC ((pushT t i c).th k) (S k)) (fun k hk => by
      unfold pushT
      by_cases e : k = i
      · subst e; rw [setTh_at]; rfl
      · rw [setTh_ne e])] at this
    exact this
  · rw [pushT_dep]
    by_cases e : k = i
    · subst e
      have hs := os' k hk
      rw [hS] at hs ⊢
      have h2 := hs.set_ (j := dep t k - 1) nv
      have e2 : ((List.range (dep t k)).map (C k)).set (dep t k - 1) nv = (List.range (dep t k)).map (updC C k (dep t k - 1) nv k) := by
        apply List.ext_getElem?
        intro m
        rw [List.getElem?_set]
        by_cases em : dep t k - 1 = m
        · subst em
          rw [if_pos rfl, if_pos (by simp; omega), List.getElem?_map, List.getElem?_range (by omega)]
          show some nv = some _
          rw [hCe]
        · rw [if_neg em, List.getElem?_map, List.getElem?_map]
          cases hr : (List.range (dep t k))[m]? with
          | none => rfl
          | some y =>
            have : y = m := by
              obtain ⟨h1, h2⟩ := List.getElem?_eq_some_iff.1 hr
              rw [← h2]; simp
            subst this
            show some _ = some _
            rw [hCu k y (fun hh => em hh.2.symm)]
      rw [e2] at h2
      exact h2
    · rw [List.map_congr_left (fun m hm => hCu k m (fun hh => e hh.1))]
      exact (os' k hk).far g2 (fun q hq e2 => e (h.ds k i q hk hi hq (by rw [hS, e2]; rfl)))
  · rw [pushT_dep] at hm
    by_cases e : k = i ∧ m = dep t i - 1
    · obtain ⟨rfl, rfl⟩ := e
      rw [hCe, pushT_last hd, List.length_append, List.map_append]
      exact own_far hown g2 (fun q hq => (own_ty hown hq).ne hsty (by decide))
    · rw [hCu k m e, pushT_else e]
      exact own_far (oi' k m hk hm e) g2 (fun q hq => (own_ty (oi' k m hk hm e) hq).ne hsty (by decide))
  · intro a k b m q ha hk hb hm hqa hqb
    rw [pushT_dep] at hk hm
    by_cases ea : a = i ∧ k = dep t i - 1
    · by_cases eb : b = i ∧ m = dep t i - 1
      · exact ⟨ea.1.trans eb.1.symm, ea.2.trans eb.2.symm⟩
      · obtain ⟨rfl, rfl⟩ := ea
        rw [hCe] at hqa
        rw [hCu b m eb] at hqb
        exact absurd hqa (hfresh b m q hb hm eb hqb)
    · rw [hCu a k ea] at hqa
      by_cases eb : b = i ∧ m = dep t i - 1
      · obtain ⟨rfl, rfl⟩ := eb
        rw [hCe] at hqb
        exact absurd hqb (hfresh a k q ha hk ea hqa)
      · rw [hCu b m eb] at hqb
        exact h.di a k b m q ha hk hb hm hqa hqb
/-- one more thread -/
def growT (t : Tab) (p : Int) : Tab := ⟨t.n + 1, fun k => if k = t.n then ⟨p, false, false, []⟩ else t.th k⟩
theorem TabX.grown {W' : World} {p : Int} {v v' : Value} (h : TabX W B g v S C t) (hg : W.grownBy W' v.ownBlock) (hown : W'.ownsRow B 60 4 v' (t.n + 1) (ch (fun k => thC (t.th k) (S k)) t.n ++ [.int .i64 p, .bool false, .bool false, .slice none 0 0])) :
    TabX (W'.setCell ⟨g, 0, none⟩ v') B g v' (updS S t.n (.slice none 0 0)) C (growT t p) := by
  have tl : ∀ {q}, v.ownBlock = some q → Ty W q 60 := fun hq => own_ty h.ol hq
  have blk' : Blk W' g 56 #[v] := Blk.step h.blk hg (fun e => h.blk.ty.ne (tl e) (by decide) rfl)
  have hbk := blk'.set_ 0 v'
  have g2 := gset W' g 0 v'
  have tb := blk'.ty
  have hth : ∀ k, k < t.n → (growT t p).th k = t.th k := fun k hk => if_neg (by omega)
  have hd : ∀ k, k < t.n → dep (growT t p) k = dep t k := fun k hk => by unfold dep; rw [hth k hk]
  have hd0 : dep (growT t p) t.n = 0 := by unfold dep growT; simp
  have hSk : ∀ k, k < t.n → updS S t.n (.slice none 0 0) k = S k := fun k hk => if_neg (by omega)
  have hS0 : updS S t.n (.slice none 0 0) t.n = .slice none 0 0 := if_pos rfl
  have lt1 : ∀ k, k < (growT t p).n → k < t.n ∨ k = t.n := fun k hk => by have : k < t.n + 1 := hk; omega
  refine ⟨h.hB, Nat.succ_pos _, hbk, ?_, fun k hk => ?_, fun k m hk hm => ?_, ?_, ?_⟩
  · have h1 := own_far hown g2 (fun q hq => (own_ty hown hq).ne tb (by decide))
    show (W'.setCell ⟨g, 0, none⟩ v').ownsRow B 60 4 v' (t.n + 1) (ch _ (t.n + 1))
    rw [ch_succ, ch_congr (g := fun k => thC (t.th k) (S k)) (fun k hk => by rw [hth k hk, hSk k hk])]
    have e : thC ((growT t p).th t.n) (updS S t.n (.slice none 0 0) t.n) = [.int .i64 p, .bool false, .bool false, .slice none 0 0] := by rw [hS0]; unfold growT; simp [thC]
    rw [e]
    exact h1
  · rcases lt1 k hk with hk | rfl
    · rw [hd k hk, hSk k hk]
      have h1 := (h.os k hk).step hg (fun q hq e => ((h.os k hk).ty hq).ne (tl e) (by decide) rfl)
      exact h1.far g2 (fun q hq => (h1.ty hq).ne tb (by decide))
    · rw [hd0, hS0]
      exact RowS.of (World.ownsRow_nil _ _ _ _)
  · rcases lt1 k hk with hk | rfl
    · rw [hd k hk] at hm
      rw [show mem (growT t p) k m = mem t k m by unfold mem; rw [hth k hk]]
      have h1 := own_step (h.oi k m hk hm) hg (fun q hq e => (own_ty (h.oi k m hk hm) hq).ne (tl e) (by decide) rfl)
      exact own_far h1 g2 (fun q hq => (own_ty h1 hq).ne tb (by decide))
    · rw [hd0] at hm; omega
  · intro a b q ha hb hqa hqb
    rcases lt1 a ha with ha | rfl
    · rcases lt1 b hb with hb | rfl
      · rw [hSk a ha] at hqa
        rw [hSk b hb] at hqb
        exact h.ds a b q ha hb hqa hqb
      · rw [hS0] at hqb; cases hqb
    · rw [hS0] at hqa; cases hqa
  · intro a k b m q ha hk hb hm hqa hqb
    rcases lt1 a ha with ha | rfl
    · rcases lt1 b hb with hb | rfl
      · rw [hd a ha] at hk
        rw [hd b hb] at hm
        exact h.di a k b m q ha hk hb hm hqa hqb
      · rw [hd0] at hm; omega
    · rw [hd0] at hk; omega
end
end Go.Proofs.Ytnhhinlhfaapcaa
