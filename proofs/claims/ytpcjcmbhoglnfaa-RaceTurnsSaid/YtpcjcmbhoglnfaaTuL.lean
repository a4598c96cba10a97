/- Race: the plain law of turns under one lock: there is no race; and the argument of turns, opened. -/
import Derived.Test.YtpcjcmbhoglnfaaThW
import Derived.Test.YtpcjcmbhoglnfaaQ
namespace Go.Proofs.Ytpcjcmbhoglnfaa
open Go.ChangeShapes Go.WideShapes Go.RowKit
set_option linter.unusedVariables false
set_option linter.unusedSimpArgs false

theorem evAt_old {L : List Ev} {x : Ev} {i : Nat} (h : i < L.length) : evAt (L ++ [x]) i = evAt L i := by
  unfold evAt; rw [List.getD_eq_getElem?_getD, List.getD_eq_getElem?_getD, List.getElem?_append_left h]
theorem evAt_new (L : List Ev) (x : Ev) : evAt (L ++ [x]) L.length = x := by
  unfold evAt; rw [List.getD_eq_getElem?_getD, List.getElem?_append_right (Nat.le_refl _), Nat.sub_self]; rfl
/-- let go of by its thread behind i, ahead of n -/
def Rel (L : List Ev) (i n : Nat) : Prop := ∃ r, i < r ∧ r < n ∧ (evAt L r).kind = 6 ∧ (evAt L r).id = 77 ∧ (evAt L r).thread = (evAt L i).thread
def Lnk (L : List Ev) (i k : Nat) : Prop := (evAt L i).thread = (evAt L k).thread ∨ ∃ r a, i < r ∧ r < a ∧ a < k ∧ (evAt L r).kind = 6 ∧ (evAt L a).kind = 5 ∧ (evAt L r).id = 77 ∧ (evAt L a).id = 77 ∧ (evAt L r).thread = (evAt L i).thread ∧ (evAt L a).thread = (evAt L k).thread
def Acc (L : List Ev) (i : Nat) : Prop := accB (evAt L i).kind = true
def TuGood (L : List Ev) : Prop := ∀ i k, i < k → k < L.length → Acc L i → Acc L k → Lnk L i k
def TuShut (L : List Ev) : Prop := ∀ i, i < L.length → Acc L i → Rel L i L.length
def TuOpen (L : List Ev) (t : Int) : Prop := ∃ a, a < L.length ∧ (evAt L a).kind = 5 ∧ (evAt L a).id = 77 ∧ (evAt L a).thread = t ∧ (∀ i, i < a → Acc L i → Rel L i a) ∧ (∀ i, a < i → i < L.length → (evAt L i).thread = t)
theorem Rel.old {L : List Ev} {x : Ev} {i n : Nat} (h : Rel L i n) (hn : n ≤ L.length) : Rel (L ++ [x]) i n := by
  obtain ⟨r, h1, h2, h3, h4, h5⟩ := h
  exact ⟨r, h1, h2, by rw [evAt_old (by omega)]; exact h3, by rw [evAt_old (by omega)]; exact h4, by rw [evAt_old (by omega), evAt_old (by omega)]; exact h5⟩
theorem Rel.more {L : List Ev} {i n m : Nat} (h : Rel L i n) (hm : n ≤ m) : Rel L i m := by
  obtain ⟨r, h1, h2, h3, h4, h5⟩ := h
  exact ⟨r, h1, by omega, h3, h4, h5⟩
theorem Lnk.old {L : List Ev} {x : Ev} {i k : Nat} (h : Lnk L i k) (hi : i < k) (hk : k < L.length) : Lnk (L ++ [x]) i k := by
  rcases h with h | ⟨r, a, h1, h2, h3, h4, h5, h6, h7, h8, h9⟩
  · exact .inl (by rw [evAt_old (by omega), evAt_old (by omega)]; exact h)
  · exact .inr ⟨r, a, h1, h2, h3, by rw [evAt_old (by omega)]; exact h4, by rw [evAt_old (by omega)]; exact h5, by rw [evAt_old (by omega)]; exact h6, by rw [evAt_old (by omega)]; exact h7, by rw [evAt_old (by omega), evAt_old (by omega)]; exact h8, by rw [evAt_old (by omega), evAt_old (by omega)]; exact h9⟩
theorem Acc.old {L : List Ev} {x : Ev} {i : Nat} (hi : i < L.length) (h : Acc (L ++ [x]) i) : Acc L i := by
  unfold Acc at h; rwa [evAt_old hi] at h
theorem TuGood.quiet {L : List Ev} {x : Ev} (h : TuGood L) (hx : accB x.kind = false) : TuGood (L ++ [x]) := by
  intro i k hik hk hi hk2
  rw [List.length_append] at hk
  simp at hk
  rcases Nat.lt_or_ge k L.length with hk' | hk'
  · exact (h i k hik hk' (hi.old (by omega)) (hk2.old hk')).old hik hk'
  · obtain rfl : k = L.length := by omega
    unfold Acc at hk2
    rw [evAt_new, hx] at hk2
    cases hk2
theorem TuShut.quiet {L : List Ev} {x : Ev} (h : TuShut L) (hx : accB x.kind = false) : TuShut (L ++ [x]) := by
  intro i hi ha
  rw [List.length_append] at hi ⊢
  simp at hi
  rcases Nat.lt_or_ge i L.length with hi' | hi'
  · exact ((h i hi' (ha.old hi')).old (Nat.le_refl _)).more (by omega)
  · obtain rfl : i = L.length := by omega
    unfold Acc at ha
    rw [evAt_new, hx] at ha
    cases ha
theorem TuShut.nil : TuShut [] := fun i hi => by simp at hi
theorem TuGood.nil : TuGood [] := fun i k _ hk => by simp at hk
theorem tu_acq {L : List Ev} {x : Ev} (h : TuShut L) (h5 : x.kind = 5) (h77 : x.id = 77) : TuOpen (L ++ [x]) x.thread := by
  refine ⟨L.length, by simp, by rw [evAt_new]; exact h5, by rw [evAt_new]; exact h77, by rw [evAt_new], fun i hi ha => (h i hi (ha.old hi)).old (Nat.le_refl _), fun i h1 h2 => ?_⟩
  rw [List.length_append] at h2
  simp at h2
  omega
theorem tu_acc {L : List Ev} {x : Ev} {t : Int} (h : TuOpen L t) (ht : x.thread = t) : TuOpen (L ++ [x]) t := by
  obtain ⟨a, h1, h2, h3, h4, h5, h6⟩ := h
  refine ⟨a, by rw [List.length_append]; omega, by rw [evAt_old h1]; exact h2, by rw [evAt_old h1]; exact h3, by rw [evAt_old h1]; exact h4, fun i hi ha => (h5 i hi (ha.old (by omega))).old (by omega), fun i hi hi2 => ?_⟩
  rw [List.length_append] at hi2
  simp at hi2
  rcases Nat.lt_or_ge i L.length with hi' | hi'
  · rw [evAt_old hi']; exact h6 i hi hi'
  · obtain rfl : i = L.length := by omega
    rw [evAt_new]; exact ht
theorem tu_accG {L : List Ev} {x : Ev} {t : Int} (h : TuOpen L t) (hg : TuGood L) (ht : x.thread = t) : TuGood (L ++ [x]) := by
  obtain ⟨a, h1, h2, h3, h4, h5, h6⟩ := h
  intro i k hik hk hi hk2
  rw [List.length_append] at hk
  simp at hk
  rcases Nat.lt_or_ge k L.length with hk' | hk'
  · exact (hg i k hik hk' (hi.old (by omega)) (hk2.old hk')).old hik hk'
  · obtain rfl : k = L.length := by omega
    have hi0 := hi.old (L := L) hik
    rcases Nat.lt_trichotomy i a with hia | rfl | hia
    · obtain ⟨r, r1, r2, r3, r4, r5⟩ := h5 i hia hi0
      exact .inr ⟨r, a, r1, r2, h1, by rw [evAt_old (by omega)]; exact r3, by rw [evAt_old h1]; exact h2, by rw [evAt_old (by omega)]; exact r4, by rw [evAt_old h1]; exact h3, by rw [evAt_old (by omega), evAt_old (by omega)]; exact r5, by rw [evAt_old h1, evAt_new, h4, ht]⟩
    · unfold Acc at hi0
      rw [h2] at hi0
      cases hi0
    · exact .inl (by rw [evAt_old hik, evAt_new, h6 i hia hik, ht])
theorem tu_rel {L : List Ev} {x : Ev} {t : Int} (h : TuOpen L t) (ht : x.thread = t) (h6 : x.kind = 6) (h77 : x.id = 77) : TuShut (L ++ [x]) := by
  obtain ⟨a, h1, h2, h3, h4, h5, h7⟩ := h
  intro i hi ha
  rw [List.length_append] at hi ⊢
  simp at hi ⊢
  rcases Nat.lt_or_ge i L.length with hi' | hi'
  · have hi0 := ha.old (L := L) hi'
    rcases Nat.lt_trichotomy i a with hia | rfl | hia
    · exact ((h5 i hia hi0).old (by omega)).more (by omega)
    · unfold Acc at hi0
      rw [h2] at hi0
      cases hi0
    · exact ⟨L.length, hi', by omega, by rw [evAt_new]; exact h6, by rw [evAt_new]; exact h77, by rw [evAt_new, evAt_old hi', ht, h7 i hia hi']⟩
  · obtain rfl : i = L.length := by omega
    unfold Acc at ha
    rw [evAt_new, h6] at ha
    cases ha
theorem lnk_ah {L : List Ev} (h : mayB L = true) (hN : L.length ≤ 60000) {i k : Nat} (hik : i < k) (hk : k < L.length) (hl : Lnk L i k) : ahN L i k = true := by
  rcases hl with hl | ⟨r, a, h1, h2, h3, h4, h5, h6, h7, h8, h9⟩
  · exact ahN_D h hN hik hk (.inl hl)
  · have e1 := ahN_D h hN h1 (by omega) (i := i) (k := r) (.inl h8.symm)
    have e2 := ahN_D h hN h2 (by omega) (i := r) (k := a) (.inr (.inr (.inr ⟨h4, h5, by show (evAt L r).id = (evAt L a).id; rw [h6, h7]⟩)))
    have e3 := ahN_D h hN h3 hk (i := a) (k := k) (.inl h9)
    exact ahN_trans h hN (by omega) hk (ahN_trans h hN (by omega) (by omega) e1 e2) e3
theorem turns_none {L : List Ev} (h : mayB L = true) (hN : L.length ≤ 60000) (hg : TuGood L) : findL L false = [] := by
  have hr : ∀ i k, i < k → k < L.length → rB L i k = false := by
    intro i k hik hk
    unfold rB
    cases hc : confB (evAt L i) (evAt L k)
    · rfl
    · have hc2 := hc
      unfold confB at hc2
      simp only [Bool.and_eq_true] at hc2
      have := lnk_ah h hN hik hk (hg i k hik hk hc2.1.1.1.1.1.1 hc2.1.1.1.1.1.2)
      unfold ahN at this
      rw [Bool.and_eq_true] at this
      rw [this.2]; rfl
  have hu : ∀ k, k < L.length → ∀ m, m ≤ k → rUp L k m = [] := by
    intro k hk m
    induction m with
    | zero => intro _; rfl
    | succ m ih => intro hm; rw [rUp_succ, ih (by omega), hr m k (by omega) hk]; rfl
  have ha : ∀ n, n ≤ L.length → allUp L n = [] := by
    intro n
    induction n with
    | zero => intro _; rfl
    | succ n ih => intro hn; rw [allUp_succ, ih (by omega), hu n (by omega) n (Nat.le_refl _)]; rfl
  unfold findL
  rw [h, ha _ (Nat.le_refl _)]; rfl
/-- where a row may be, its paths are short -/
theorem does_path {E : List Bool} {x : Ev} (h : (doesF E x).1 = true) : x.path.length ≤ 40 := by
  unfold doesF at h
  repeat' split at h
  all_goals simp [pathOk] at h
  all_goals first | omega | (have hp : x.path = [] := (by first | exact h.2 | exact h.1.2 | exact h); rw [hp]; simp)
theorem runT_path : ∀ (l : List Ev) (E E' : List Bool), runT E l = some E' → ∀ x ∈ l, x.path.length ≤ 40
  | [], _, _, _, x, hx => by simp at hx
  | y :: l, E, E', h, x, hx => by
    unfold runT at h
    split at h
    · rename_i hd
      rcases List.mem_cons.1 hx with rfl | hx
      · exact does_path hd
      · exact runT_path l _ _ h x hx
    · cases h
theorem may_path {L : List Ev} (h : mayB L = true) : ∀ x ∈ L, x.path.length ≤ 40 := by
  unfold mayB at h
  cases hr : runT [false] L with
  | none => rw [hr] at h; cases h
  | some E => exact runT_path L _ _ hr

/-! ### a row of turns that came in -/
structure Tn where
  thread : Int
  la : Option Addr
  lc : Nat
  evs : List Ev
instance : Inhabited Tn := ⟨⟨0, none, 0, []⟩⟩
def tnC (x : Tn) : List Value := [.int .i64 x.thread, .slice x.la x.evs.length x.lc]
theorem tnC_len (x : Tn) : (tnC x).length = 2 := rfl
structure TnOk (w : World) (x : Tn) : Prop where
  wt : (Lit.int .i64 x.thread).wf = true
  rd : Rd w w.heap.size 4 evC x.la x.evs
  ok : ∀ y ∈ x.evs, EvOk w w.heap.size y
  cap : x.evs.length ≤ x.lc
  big : x.lc ≤ maxLen
theorem cells42 : Try.prog.cellsOf 42 = 2 := by kernel_rfl
theorem cells22 : Try.prog.cellsOf 22 = 1 := by kernel_rfl
section
variable {H : Type} {enc : TypeId × Value → H} {w : World} {base : Nat} {spare : Nat → Bool} {held : Bool}
theorem read42 (n : Nat) (cs : List Value) (y : DataW H × List MemPlace) (h : DataW.trod enc Try.prog w base spare held n 42 cs = some y) : ∃ x : Tn, cs = tnC x ∧ TnOk w x := by
  obtain ⟨hlen, m, hf⟩ := read_fields Try.underlying42 h
  rw [cells42] at hlen
  match cs, hlen with
  | [c0, c1], _ =>
    obtain ⟨z0, h0⟩ := hf 0 _ rfl
    obtain ⟨z1, h1⟩ := hf 1 _ rfl
    simp [cells3q, cells22] at h0 h1
    obtain ⟨a0, e0, g0⟩ := read_int Try.underlying3 h0
    obtain ⟨a, len, cap, e1, h4⟩ := read_slice Try.underlying22 h1
    obtain ⟨P, rfl, k1, k2, k3, k4⟩ := open_reads Try.underlying22 4 cells26 (by omega) evC evC_len (fun x => EvOk w w.heap.size x) read26 h4
    simp at e0 e1
    exact ⟨⟨a0, a, cap, P⟩, by simp [tnC, e0, e1], g0, k1, k2, k3, k4⟩
theorem open40 {r : Reach} {b0 : Nat} {v : Value} {d : DataW H} {p : List MemPlace} (hok : Value.okWide Try.prog w r b0 40 v) (h : DataW.Trod enc Try.prog w base spare held 40 v d p) :
    ∃ (A : Option Addr) (c : Nat) (L : List Tn), v = .slice A L.length c ∧ Rd w w.heap.size 2 tnC A L ∧ (∀ x ∈ L, TnOk w x) ∧ L.length ≤ c ∧ c ≤ maxLen := by
  obtain ⟨a, len, cap, rfl⟩ := okWide_slice Try.underlying40 hok
  obtain ⟨L, rfl, h1, h2, h3, h4⟩ := open_reads Try.underlying40 2 cells42 (by omega) tnC tnC_len (fun x => TnOk w x) read42 h
  exact ⟨a, cap, L, rfl, h1, h2, h3, h4⟩
end
end Go.Proofs.Ytpcjcmbhoglnfaa
