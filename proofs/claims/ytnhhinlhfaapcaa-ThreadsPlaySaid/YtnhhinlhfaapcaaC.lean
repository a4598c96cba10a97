/- Threads: what a table in memory becomes where it is written. -/
import Derived.Test.YtnhhinlhfaapcaaB
import Derived.Deep.Onto
namespace Go.Proofs.Ytnhhinlhfaapcaa
open Go.RowKit
set_option linter.unusedVariables false
set_option linter.unusedSimpArgs false

/-- the type of a block -/
def Ty (W : World) (q : Nat) (e : TypeId) : Prop := ∃ cur r, W.heap[q]? = some (.cells cur e r)
theorem Ty.ne {W : World} {q q' : Nat} {e e' : TypeId} (h : Ty W q e) (h' : Ty W q' e') (hne : e ≠ e') : q ≠ q' := by
  rintro rfl
  obtain ⟨c, r, h⟩ := h
  obtain ⟨c', r', h'⟩ := h'
  rw [h] at h'
  cases h'
  exact hne rfl
theorem own_ty {W : World} {B e s n q : Nat} {v : Value} {xs : List Value} (h : W.ownsRow B e s v n xs) (hv : v.ownBlock = some q) : Ty W q e := by
  rcases h.2 with ⟨rfl, _⟩ | ⟨g, cap, cur, rfl, h2, h3, _⟩
  · cases hv
  · simp [Value.ownBlock] at hv
    subst hv
    exact ⟨cur, _, h3⟩
theorem RowS.ty {W : World} {B e n q : Nat} {v : Value} {xs : List Value} (h : RowS W B e v n xs) (hv : v.ownBlock = some q) : Ty W q e := by
  rcases h.2 with ⟨rfl, _⟩ | ⟨g, cap, cur, rfl, h2, h3, _⟩
  · cases hv
  · simp [Value.ownBlock] at hv
    subst hv
    exact ⟨cur, _, h3⟩
theorem Blk.ty {W : World} {q : Nat} {e : TypeId} {cs : Array Value} (h : Blk W q e cs) : Ty W q e := ⟨cs, _, h⟩
theorem own_far {W W' : World} {B e s n p : Nat} {v : Value} {xs : List Value} (h : W.ownsRow B e s v n xs) (hg : W.grownBy W' (some p)) (hp : ∀ q, v.ownBlock = some q → q ≠ p) : W'.ownsRow B e s v n xs :=
  h.kept hg (by
    cases e : v.ownBlock with
    | none => exact .inl rfl
    | some q => exact .inr (fun e2 => hp q e (by injection e2)))
theorem RowS.far {W W' : World} {B e n p : Nat} {v : Value} {xs : List Value} (h : RowS W B e v n xs) (hg : W.grownBy W' (some p)) (hp : ∀ q, v.ownBlock = some q → q ≠ p) : RowS W' B e v n xs :=
  h.kept hg (by
    cases e : v.ownBlock with
    | none => exact .inl rfl
    | some q => exact .inr (fun e2 => hp q e (by injection e2)))
theorem gset (W : World) (p o : Nat) (u : Value) : W.grownBy (W.setCell ⟨p, o, none⟩ u) (some p) := ⟨rfl, rfl, rfl, by simp [World.setCell], fun k _ hk => Below.heap_setCell _ _ _ k (fun e => hk (by rw [e]))⟩
section
variable {W : World} {B g gl cl : Nat} {S : Nat → Value} {C : Nat → Nat → Value} {t : Tab}
/-- a cell of a thread is written: another table, with the same rows -/
theorem TabX.store {t' : Tab} {S' : Nat → Value} {i j : Nat} {u : Value} (h : TabX W B g (.slice (some ⟨gl, 0, none⟩) t.n cl) S C t) (hi : i < t.n) (hj : j < 4) (hn : t'.n = t.n)
    (hth : ∀ k, k < t.n → thC (t'.th k) (S' k) = if k = i then (thC (t.th k) (S k)).set j u else thC (t.th k) (S k)) :
    (W.setCell ⟨gl, i * 4 + j, none⟩ u).ownsRow B 60 4 (.slice (some ⟨gl, 0, none⟩) t'.n cl) t'.n (ch (fun k => thC (t'.th k) (S' k)) t'.n) := by
  have hst := (h.ol.stored (i * 4 + j) u).1
  rw [ch_set (fun _ => rfl) hi hj] at hst
  rw [hn, ch_congr (fun k hk => hth k hk)]
  exact hst
theorem TabX.tl (h : TabX W B g (.slice (some ⟨gl, 0, none⟩) t.n cl) S C t) : Ty W gl 60 := own_ty h.ol rfl
theorem TabX.same {t' : Tab} {i j : Nat} {u : Value} (h : TabX W B g (.slice (some ⟨gl, 0, none⟩) t.n cl) S C t) (hi : i < t.n) (hj : j < 4) (hn : t'.n = t.n)
    (hth : ∀ k, k < t.n → thC (t'.th k) (S k) = if k = i then (thC (t.th k) (S k)).set j u else thC (t.th k) (S k)) (hsc : ∀ k, (t'.th k).scopes = (t.th k).scopes) :
    TabX (W.setCell ⟨gl, i * 4 + j, none⟩ u) B g (.slice (some ⟨gl, 0, none⟩) t'.n cl) S C t' := by
  have hd : ∀ k, dep t' k = dep t k := fun k => by unfold dep; rw [hsc]
  have hm : ∀ k m, mem t' k m = mem t k m := fun k m => by unfold mem; rw [hsc]
  have hg := gset W gl (i * 4 + j) u
  refine ⟨h.hB, by rw [hn]; exact h.hn, by rw [hn]; exact h.blk.far (fun e => h.tl.ne h.blk.ty (by decide) e.symm) u, h.store hi hj hn hth, fun k hk => ?_, fun k m hk hm' => ?_, ?_, ?_⟩
  · rw [hn] at hk
    rw [hd]
    exact (h.os k hk).far hg (fun q hq => ((h.os k hk).ty hq).ne h.tl (by decide))
  · rw [hn] at hk
    rw [hd] at hm'
    rw [hm]
    exact own_far (h.oi k m hk hm') hg (fun q hq => (own_ty (h.oi k m hk hm') hq).ne h.tl (by decide))
  · intro a b q ha hb
    rw [hn] at ha hb
    exact h.ds a b q ha hb
  · intro a k b m q ha hk hb hm'
    rw [hn] at ha hb
    rw [hd] at hk hm'
    exact h.di a k b m q ha hk hb hm'
end
def setTh (t : Tab) (i : Nat) (x : Th) : Tab := ⟨t.n, fun k => if k = i then x else t.th k⟩
theorem setTh_at (t : Tab) (i : Nat) (x : Th) : (setTh t i x).th i = x := if_pos rfl
theorem setTh_ne {t : Tab} {i k : Nat} {x : Th} (h : k ≠ i) : (setTh t i x).th k = t.th k := if_neg h
/-- a thread that ends -/
def endT (t : Tab) (i : Nat) (p : Bool) : Tab := setTh t i { t.th i with ended := true, panicked := p }
section
variable {W : World} {B g gl cl : Nat} {S : Nat → Value} {C : Nat → Nat → Value} {t : Tab}
theorem TabX.ended {i : Nat} (h : TabX W B g (.slice (some ⟨gl, 0, none⟩) t.n cl) S C t) (hi : i < t.n) (p : Bool) : TabX ((W.setCell ⟨gl, i * 4 + 1, none⟩ (.bool true)).setCell ⟨gl, i * 4 + 2, none⟩ (.bool p)) B g (.slice (some ⟨gl, 0, none⟩) t.n cl) S C (endT t i p) := by
  have h1 := h.same (t' := setTh t i { t.th i with ended := true }) (j := 1) (u := .bool true) hi (by omega) rfl (fun k hk => by
    by_cases e : k = i
    · subst e; rw [if_pos rfl, setTh_at]; rfl
    · rw [if_neg e, setTh_ne e]) (fun k => by
    by_cases e : k = i
    · subst e; rw [setTh_at]
    · rw [setTh_ne e])
  exact h1.same (t' := endT t i p) (j := 2) (u := .bool p) hi (by omega) rfl (fun k hk => by
    by_cases e : k = i
    · subst e; rw [if_pos rfl, setTh_at]; unfold endT; rw [setTh_at]; rfl
    · unfold endT; rw [if_neg e, setTh_ne e, setTh_ne e]) (fun k => by
    by_cases e : k = i
    · subst e; unfold endT; rw [setTh_at, setTh_at]
    · unfold endT; rw [setTh_ne e, setTh_ne e])
theorem TabX.endedr {i : Nat} (h : TabX W B g (.slice (some ⟨gl, 0, none⟩) t.n cl) S C t) (hi : i < t.n) (p : Bool) : TabX ((W.setCell ⟨gl, i * 4 + 2, none⟩ (.bool p)).setCell ⟨gl, i * 4 + 1, none⟩ (.bool true)) B g (.slice (some ⟨gl, 0, none⟩) t.n cl) S C (endT t i p) := by
  have h1 := h.same (t' := setTh t i { t.th i with panicked := p }) (j := 2) (u := .bool p) hi (by omega) rfl (fun k hk => by
    by_cases e : k = i
    · subst e; rw [if_pos rfl, setTh_at]; rfl
    · rw [if_neg e, setTh_ne e]) (fun k => by
    by_cases e : k = i
    · subst e; rw [setTh_at]
    · rw [setTh_ne e])
  exact h1.same (t' := endT t i p) (j := 1) (u := .bool true) hi (by omega) rfl (fun k hk => by
    by_cases e : k = i
    · subst e; rw [if_pos rfl, setTh_at]; unfold endT; rw [setTh_at]; rfl
    · unfold endT; rw [if_neg e, setTh_ne e, setTh_ne e]) (fun k => by
    by_cases e : k = i
    · subst e; unfold endT; rw [setTh_at, setTh_at]
    · unfold endT; rw [setTh_ne e, setTh_ne e])
end
/-- a scope is opened -/
def openT (t : Tab) (i : Nat) : Tab := setTh t i { t.th i with scopes := (t.th i).scopes ++ [[]] }
def updS (S : Nat → Value) (i : Nat) (v : Value) : Nat → Value := fun k => if k = i then v else S k
def updC (C : Nat → Nat → Value) (i m : Nat) (v : Value) : Nat → Nat → Value := fun k q => if k = i ∧ q = m then v else C k q
section
variable {W : World} {B g gl cl : Nat} {S : Nat → Value} {C : Nat → Nat → Value} {t : Tab}
theorem TabX.opened {i N : Nat} {nv : Value} (h : TabX W B g (.slice (some ⟨gl, 0, none⟩) t.n cl) S C t) (hi : i < t.n) (hN : B ≤ N) (hfr : ∀ j q, j < t.n → (S j).ownBlock = some q → q < N)
    (hown : W.ownsRow N 29 1 nv (dep t i + 1) ((List.range (dep t i)).map (C i) ++ [.slice none 0 0])) :
    TabX (W.setCell ⟨gl, i * 4 + 3, none⟩ nv) B g (.slice (some ⟨gl, 0, none⟩) t.n cl) (updS S i nv) (updC C i (dep t i) (.slice none 0 0)) (openT t i) := by
  have hdi : dep (openT t i) i = dep t i + 1 := by unfold dep openT; rw [setTh_at]; simp
  have hdn : ∀ k, k ≠ i → dep (openT t i) k = dep t k := fun k hk => by unfold dep openT; rw [setTh_ne hk]
  have hg := gset W gl (i * 4 + 3) nv
  have hCi : ∀ k, k < dep t i → updC C i (dep t i) (.slice none 0 0) i k = C i k := fun k hk => if_neg (by omega)
  have hCn : ∀ j k, j ≠ i → updC C i (dep t i) (.slice none 0 0) j k = C j k := fun j k hj => if_neg (by omega)
  have hCe : updC C i (dep t i) (.slice none 0 0) i (dep t i) = .slice none 0 0 := if_pos ⟨rfl, rfl⟩
  refine ⟨h.hB, h.hn, h.blk.far (fun e => h.tl.ne h.blk.ty (by decide) e.symm) nv, ?_, fun k hk => ?_, fun k m hk hm => ?_, ?_, ?_⟩
  · refine h.store (t' := openT t i) (S' := updS S i nv) (j := 3) (u := nv) hi (by omega) rfl (fun k hk => ?_)
    by_cases e : k = i
    · subst e; unfold openT updS; rw [if_pos rfl, if_pos rfl, setTh_at]; rfl
    · unfold openT updS; rw [if_neg e, if_neg e, setTh_ne e]
  · by_cases e : k = i
    · subst e
      rw [hdi, show updS S k nv k = nv from if_pos rfl, List.range_succ, List.map_append, List.map_cons, List.map_nil, hCe, List.map_congr_left (fun m hm => hCi m (List.mem_range.1 hm))]
      exact RowS.of (own_far (World.ownsRow.mono hown hN) hg (fun q hq => (own_ty hown hq).ne h.tl (by decide)))
    · rw [hdn k e, show updS S i nv k = S k from if_neg e, List.map_congr_left (fun m hm => hCn k m e)]
      exact (h.os k hk).far hg (fun q hq => ((h.os k hk).ty hq).ne h.tl (by decide))
  · by_cases e : k = i
    · subst e
      rw [hdi] at hm
      by_cases e2 : m = dep t k
      · subst e2
        rw [hCe, show mem (openT t k) k (dep t k) = [] by unfold mem openT dep; rw [setTh_at]; simp]
        exact World.ownsRow_nil _ _ _ _
      · rw [hCi m (by omega), show mem (openT t k) k m = mem t k m by
          unfold mem openT
          rw [setTh_at]
          simp only
          rw [List.getD_eq_getElem?_getD, List.getD_eq_getElem?_getD, List.getElem?_append_left (by unfold dep at hm e2; omega)]]
        exact own_far (h.oi k m hi (by omega)) hg (fun q hq => (own_ty (h.oi k m hi (by omega)) hq).ne h.tl (by decide))
    · rw [hdn k e] at hm
      rw [hCn k m e, show mem (openT t i) k m = mem t k m by unfold mem openT; rw [setTh_ne e]]
      exact own_far (h.oi k m hk hm) hg (fun q hq => (own_ty (h.oi k m hk hm) hq).ne h.tl (by decide))
  · intro a b q ha hb hqa hqb
    by_cases ea : a = i
    · by_cases eb : b = i
      · rw [ea, eb]
      · rw [ea, show updS S i nv i = nv from if_pos rfl] at hqa
        rw [show updS S i nv b = S b from if_neg eb] at hqb
        have := (hown.lt q hqa).1
        have := hfr b q hb hqb
        omega
    · by_cases eb : b = i
      · rw [show updS S i nv a = S a from if_neg ea] at hqa
        rw [eb, show updS S i nv i = nv from if_pos rfl] at hqb
        have := (hown.lt q hqb).1
        have := hfr a q ha hqa
        omega
      · rw [show updS S i nv a = S a from if_neg ea] at hqa
        rw [show updS S i nv b = S b from if_neg eb] at hqb
        exact h.ds a b q ha hb hqa hqb
  · intro a k b m q ha hk hb hm hqa hqb
    have key : ∀ a k, a < t.n → k < dep (openT t i) a → (updC C i (dep t i) (.slice none 0 0) a k).ownBlock = some q → k < dep t a ∧ (C a k).ownBlock = some q := by
      intro a k ha hk hq
      by_cases ea : a = i
      · subst ea
        rw [hdi] at hk
        by_cases ek : k = dep t a
        · subst ek; rw [hCe] at hq; cases hq
        · rw [hCi k (by omega)] at hq; exact ⟨by omega, hq⟩
      · rw [hdn a ea] at hk
        rw [hCn a k ea] at hq
        exact ⟨hk, hq⟩
    obtain ⟨k1, k2⟩ := key a k ha hk hqa
    obtain ⟨m1, m2⟩ := key b m hb hm hqb
    exact h.di a k b m q ha k1 hb m1 k2 m2
end
end Go.Proofs.Ytnhhinlhfaapcaa
