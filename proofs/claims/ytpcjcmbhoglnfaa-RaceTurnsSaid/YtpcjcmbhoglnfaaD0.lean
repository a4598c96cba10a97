/- Race: the detector in memory: words and laws; no walk. -/
import Derived.Test.YtpcjcmbhoglnfaaY
namespace Go.Proofs.Ytpcjcmbhoglnfaa
open Go.RowKit Go.ChangeMaps Go.MapKept
open Go.Maps (Keyed)
set_option linter.unusedVariables false
set_option linter.unusedSimpArgs false

/-! ### blocks by their element's type -/
def Ty (w : World) (g : Nat) (t : TypeId) : Prop := ∃ cs r, w.heap[g]? = some (.cells cs t r)
theorem Blk.ty {w : World} {g : Nat} {t : TypeId} {cs : Array Value} (h : Blk w g t cs) : Ty w g t := ⟨cs, _, h⟩
theorem own_ty {w : World} {B e s n g : Nat} {v : Value} {xs : List Value} (h : w.ownsRow B e s v n xs) (hv : v.ownBlock = some g) : Ty w g e := by
  rcases h.2 with ⟨rfl, _⟩ | ⟨g', cap, cur, rfl, _, hh, _⟩
  · cases hv
  · have : g' = g := by simpa [Value.ownBlock] using hv
    subst this
    exact ⟨cur, _, hh⟩
theorem Ty.ne {w : World} {g g' : Nat} {t t' : TypeId} (h : Ty w g t) (h' : Ty w g' t') (hne : t ≠ t') : g ≠ g' := by
  rintro rfl
  obtain ⟨cs, r, h⟩ := h
  obtain ⟨cs', r', h'⟩ := h'
  rw [h] at h'
  cases h'
  exact hne rfl
theorem Ty.lt {w : World} {g : Nat} {t : TypeId} (h : Ty w g t) : g < w.heap.size := by
  obtain ⟨cs, r, h⟩ := h
  exact (Array.getElem?_eq_some_iff.1 h).1

/-- no block is touched but cells of types 65 and 24, and maps -/
def KeepU (w w' : World) : Prop := w.heap.size ≤ w'.heap.size ∧ ∀ (k : Nat) (cs : Array Value) (t : TypeId) (r : Nat × Nat), w.heap[k]? = some (.cells cs t r) → t ≠ 65 → t ≠ 24 → w'.heap[k]? = some (.cells cs t r)
theorem KeepU.trans {a b c : World} (h : KeepU a b) (k : KeepU b c) : KeepU a c := ⟨Nat.le_trans h.1 k.1, fun i cs t r hi h1 h2 => k.2 i cs t r (h.2 i cs t r hi h1 h2) h1 h2⟩
theorem KeepU.of_below {w w' : World} (h : Below w.heap.size w w') : KeepU w w' := ⟨h.size, fun k cs t r hk _ _ => (h.block k (Array.getElem?_eq_some_iff.1 hk).1).trans hk⟩
theorem KeepU.of_ty {w w' : World} {g : Nat} {t0 : TypeId} (hg : w.grownBy w' (some g)) (ht : Ty w g t0) (h : t0 = 65 ∨ t0 = 24) : KeepU w w' := by
  refine ⟨hg.size, fun k cs t r hk h1 h2 => (hg.block k (Array.getElem?_eq_some_iff.1 hk).1 ?_).trans hk⟩
  intro e
  rw [Option.some.injEq] at e
  subst e
  obtain ⟨cs', r', h'⟩ := ht
  rw [h'] at hk
  cases hk
  rcases h with h | h
  · exact h1 h
  · exact h2 h
theorem KeepU.of_map {w w' : World} {g N : Nat} {f : Value → Option Value} (hg : w.grownBy w' (some g)) (hm : MapIs Try.prog 3 w g N f) : KeepU w w' := by
  refine ⟨hg.size, fun k cs t r hk h1 h2 => (hg.block k (Array.getElem?_eq_some_iff.1 hk).1 ?_).trans hk⟩
  intro e
  rw [Option.some.injEq] at e
  subst e
  obtain ⟨es, clock, hb, _⟩ := hm
  rw [hb] at hk
  cases hk
theorem KeepU.own {w w' : World} (h : KeepU w w') {B e s n : Nat} {v : Value} {xs : List Value} (ho : w.ownsRow B e s v n xs) (h1 : e ≠ 65) (h2 : e ≠ 24) : w'.ownsRow B e s v n xs := by
  refine ⟨ho.1, ?_⟩
  rcases ho.2 with hn | ⟨g, cap, cur, rfl, hb, hh, r⟩
  · exact .inl hn
  · exact .inr ⟨g, cap, cur, rfl, hb, h.2 _ _ _ _ hh h1 h2, r⟩
theorem KeepU.blk {w w' : World} (h : KeepU w w') {g : Nat} {t : TypeId} {cs : Array Value} (hb : Blk w g t cs) (h1 : t ≠ 65) (h2 : t ≠ 24) : Blk w' g t cs := h.2 _ _ _ _ hb h1 h2

/-! ### clocks in memory -/
def Ck (w : World) (v : Value) (C : List Int) : Prop := w.ownsRow 0 3 1 v C.length (C.flatMap intC)
theorem Ck.keep {w w' : World} {v : Value} {C : List Int} (h : Ck w v C) (hk : KeepU w w') : Ck w' v C := hk.own h (by decide) (by decide)
theorem Ck.nil (w : World) : Ck w (.slice none 0 0) [] := World.ownsRow_nil _ _ _ _
theorem Ck.made {w w' : World} {v : Value} {C : List Int} (h : w'.ownsRow w.heap.size 3 1 v C.length (C.flatMap intC)) : Ck w' v C := by
  refine ⟨h.1, ?_⟩
  rcases h.2 with hn | ⟨g, cap, cur, rfl, _, r⟩
  · exact .inl hn
  · exact .inr ⟨g, cap, cur, rfl, Nat.zero_le _, r⟩
theorem Ck.rd {w : World} {v : Value} {C : List Int} (h : Ck w v C) : ∃ A c, v = .slice A C.length c ∧ Rd w w.heap.size 1 intC A C := by
  obtain ⟨A, c, e, hr, _⟩ := own_rd intC_len h
  exact ⟨A, c, e, hr⟩
def Cks (w : World) (xs : List Value) (Cs : List (List Int)) : Prop := xs.length = Cs.length ∧ ∀ (i : Nat) (v : Value) (C : List Int), xs[i]? = some v → Cs[i]? = some C → Ck w v C
theorem Cks.keep {w w' : World} {xs : List Value} {Cs : List (List Int)} (h : Cks w xs Cs) (hk : KeepU w w') : Cks w' xs Cs := ⟨h.1, fun i v C h1 h2 => (h.2 i v C h1 h2).keep hk⟩
theorem Cks.snoc {w : World} {xs : List Value} {Cs : List (List Int)} (h : Cks w xs Cs) {v : Value} {C : List Int} (hv : Ck w v C) : Cks w (xs ++ [v]) (Cs ++ [C]) := by
  refine ⟨by simp [h.1], fun i v' C' h1 h2 => ?_⟩
  rcases Nat.lt_or_ge i xs.length with hi | hi
  · rw [List.getElem?_append_left hi] at h1
    rw [List.getElem?_append_left (by rw [← h.1]; exact hi)] at h2
    exact h.2 i v' C' h1 h2
  · rw [List.getElem?_append_right hi] at h1
    rw [List.getElem?_append_right (by rw [← h.1]; exact hi)] at h2
    rw [← h.1] at h2
    match hj : i - xs.length with
    | 0 => rw [hj] at h1 h2; simp at h1 h2; subst h1 h2; exact hv
    | j + 1 => rw [hj] at h1; simp at h1
theorem Cks.set {w : World} {xs : List Value} {Cs : List (List Int)} (h : Cks w xs Cs) (k : Nat) {v : Value} {C : List Int} (hv : Ck w v C) : Cks w (xs.set k v) (Cs.set k C) := by
  refine ⟨by simp [h.1], fun i v' C' h1 h2 => ?_⟩
  by_cases e : k = i
  · subst e
    have hl : k < xs.length := by have := (List.getElem?_eq_some_iff.1 h1).1; simpa using this
    rw [List.getElem?_set_self hl] at h1
    rw [List.getElem?_set_self (by rw [← h.1]; exact hl)] at h2
    cases h1; cases h2; exact hv
  · rw [List.getElem?_set_ne e] at h1 h2
    exact h.2 i v' C' h1 h2
theorem Cks.at_ {w : World} {xs : List Value} {Cs : List (List Int)} (h : Cks w xs Cs) {i : Nat} {C : List Int} (hC : Cs[i]? = some C) : ∃ v, xs[i]? = some v ∧ Ck w v C := by
  have hl : i < xs.length := by rw [h.1]; exact (List.getElem?_eq_some_iff.1 hC).1
  exact ⟨_, List.getElem?_eq_getElem hl, h.2 i _ C (List.getElem?_eq_getElem hl) hC⟩

/-! ### the detector -/
structure Det where
  T : List (List Int)
  O : Int → List Int
  K : List (List Int)
structure DSx (w : World) (B gd gm N : Nat) (vT vK : Value) (xT xK : List Value) (f : Value → Option Value) (D : Det) : Prop where
  hB : B ≤ gd
  hm : B ≤ gm
  blk : Blk w gd 65 #[vT, .map (some gm), vK]
  oT : w.ownsRow B 24 1 vT D.T.length xT
  oK : w.ownsRow B 24 1 vK D.K.length xK
  cT : Cks w xT D.T
  cK : Cks w xK D.K
  mp : MapIs Try.prog 3 w gm N f
  mo : ∀ i, (Lit.int .i64 i).wf = true → (∀ v, f (.int .i64 i) = some v → Ck w v (D.O i)) ∧ (f (.int .i64 i) = none → D.O i = [])
  ne : ∀ g, vT.ownBlock = some g → vK.ownBlock ≠ some g
def DS (w : World) (B gd N : Nat) (D : Det) : Prop := ∃ gm vT vK xT xK f, DSx w B gd gm N vT vK xT xK f D

theorem MapIs.not_ty {w : World} {g g' N : Nat} {t : TypeId} {f : Value → Option Value} (h : MapIs Try.prog 3 w g N f) (h' : Ty w g' t) : g ≠ g' := by
  rintro rfl
  obtain ⟨es, clock, hb, _⟩ := h
  obtain ⟨cs, r, h'⟩ := h'
  rw [hb] at h'
  cases h'
section
variable {w w' : World} {B gd gm N : Nat} {vT vK : Value} {xT xK : List Value} {f : Value → Option Value} {D : Det}
theorem DSx.lt (h : DSx w B gd gm N vT vK xT xK f D) : gd < w.heap.size := h.blk.lt
theorem DSx.base (h : DSx w B gd gm N vT vK xT xK f D) : B ≤ w.heap.size := by have := h.hB; have := h.blk.lt; omega
theorem own_below {w w' : World} {B e s n : Nat} {v : Value} {xs : List Value} (h : w.ownsRow B e s v n xs) (hb : Below w.heap.size w w') : w'.ownsRow B e s v n xs := by
  refine h.kept (row := none) ⟨hb.os, hb.tape, hb.output, hb.size, fun i hi _ => hb.block i hi⟩ ?_
  cases e : v.ownBlock with
  | none => exact .inl rfl
  | some g => exact .inr (by simp)
theorem DSx.below (h : DSx w B gd gm N vT vK xT xK f D) (hb : Below w.heap.size w w') : DSx w' B gd gm N vT vK xT xK f D :=
  ⟨h.hB, h.hm, h.blk.below hb h.blk.lt, own_below h.oT hb, own_below h.oK hb, h.cT.keep (.of_below hb), h.cK.keep (.of_below hb), h.mp.below hb h.mp.lt,
    fun i hi => ⟨fun v hv => ((h.mo i hi).1 v hv).keep (.of_below hb), (h.mo i hi).2⟩, h.ne⟩
theorem DSx.mono (h : DSx w B gd gm N vT vK xT xK f D) {N' : Nat} (hN : N ≤ N') : DSx w B gd gm N' vT vK xT xK f D := ⟨h.hB, h.hm, h.blk, h.oT, h.oK, h.cT, h.cK, h.mp.mono hN, h.mo, h.ne⟩
theorem Blk.gty {g g' : Nat} {t t' : TypeId} {cs : Array Value} (h : Blk w g t cs) (hg : w.grownBy w' (some g')) (ht : Ty w g' t') (hne : t ≠ t') : Blk w' g t cs :=
  h.grown hg (fun e => h.ty.ne ht hne (Option.some.inj e))
theorem own_gty {B e s n g' : Nat} {t' : TypeId} {v : Value} {xs : List Value} (h : w.ownsRow B e s v n xs) (hg : w.grownBy w' (some g')) (ht : Ty w g' t') (hne : e ≠ t') : w'.ownsRow B e s v n xs := by
  refine h.kept hg ?_
  cases e' : v.ownBlock with
  | none => exact .inl rfl
  | some g => exact .inr (fun e2 => (own_ty h e').ne ht hne (Option.some.inj e2))
theorem MapIs.gty {g g' : Nat} {t : TypeId} (h : MapIs Try.prog 3 w g N f) (hg : w.grownBy w' (some g')) (ht : Ty w g' t) : MapIs Try.prog 3 w' g N f :=
  h.grown hg (fun e => h.not_ty ht (Option.some.inj e))

/-- one of the two rows has been turned, and the detector's cell for it -/
theorem DSx.turnT (h : DSx w B gd gm N vT vK xT xK f D) {w2 : World} {v' : Value} {xs : List Value} {T' : List (List Int)} (hg : w.grownBy w2 vT.ownBlock) (hT : ∀ g, vT.ownBlock = some g → Ty w g 24)
    (hv : v'.ownBlock = vT.ownBlock ∨ v'.ownBlock = some w.heap.size) (ho : w2.ownsRow B 24 1 v' T'.length xs) (hc : Cks w xs T') :
    DSx (w2.setCell ⟨gd, 0, none⟩ v') B gd gm N v' vK xs xK f { D with T := T' } ∧ KeepU w (w2.setCell ⟨gd, 0, none⟩ v') ∧ Below B w (w2.setCell ⟨gd, 0, none⟩ v') ∧ w2.cell? ⟨gd, 0, none⟩ = some vT ∧ w2.frozen? ⟨gd, 0, none⟩ = false := by
  have hk1 : KeepU w w2 := by
    cases e : vT.ownBlock with
    | none => rw [e] at hg; exact ⟨hg.size, fun k cs t r hk _ _ => (hg.block k (Array.getElem?_eq_some_iff.1 hk).1 (by simp)).trans hk⟩
    | some g => rw [e] at hg; exact .of_ty hg (hT g e) (.inr rfl)
  have hb2 : Blk w2 gd 65 #[vT, .map (some gm), vK] := h.blk.grown hg (by
    cases e : vT.ownBlock with
    | none => simp
    | some g => exact fun e2 => h.blk.ty.ne (hT g e) (by decide) (Option.some.inj e2))
  have hoK2 : w2.ownsRow B 24 1 vK D.K.length xK := h.oK.kept hg (by
    cases e : vK.ownBlock with
    | none => exact .inl rfl
    | some g => exact .inr (fun e2 => h.ne g e2.symm e))
  have hm2 : MapIs Try.prog 3 w2 gm N f := h.mp.grown hg (by
    cases e : vT.ownBlock with
    | none => simp
    | some g => exact fun e2 => h.mp.not_ty (hT g e) (Option.some.inj e2))
  have hgs : w2.grownBy (w2.setCell ⟨gd, 0, none⟩ v') (some gd) := grown_at _ _ _ _
  have hk2 : KeepU w2 (w2.setCell ⟨gd, 0, none⟩ v') := .of_ty hgs hb2.ty (.inl rfl)
  have hk := hk1.trans hk2
  refine ⟨⟨h.hB, h.hm, ?_, own_gty ho hgs hb2.ty (by decide), own_gty hoK2 hgs hb2.ty (by decide), hc.keep hk, h.cK.keep hk, hm2.gty hgs hb2.ty, fun i hi => ⟨fun v hv => ((h.mo i hi).1 v hv).keep hk, (h.mo i hi).2⟩, ?_⟩, hk, ?_, ?_, hb2.frozen 0⟩
  · have := hb2.set_ 0 v'
    exact this
  · intro g hg1 hg2
    rcases hv with hv | hv
    · exact h.ne g (hv ▸ hg1) hg2
    · rw [hv] at hg1
      have := (own_ty h.oK hg2).lt
      rw [Option.some.injEq] at hg1
      omega
  · exact ((Below.refl B w).grown hg h.base (fun k e => (h.oT.lt k e).1)).setCell (p := ⟨gd, 0, none⟩) h.hB _
  · exact hb2.cell 0
theorem DSx.turnK (h : DSx w B gd gm N vT vK xT xK f D) {w2 : World} {v' : Value} {xs : List Value} {K' : List (List Int)} (hg : w.grownBy w2 vK.ownBlock) (hT : ∀ g, vK.ownBlock = some g → Ty w g 24)
    (hv : v'.ownBlock = vK.ownBlock ∨ v'.ownBlock = some w.heap.size) (ho : w2.ownsRow B 24 1 v' K'.length xs) (hc : Cks w xs K') :
    DSx (w2.setCell ⟨gd, 2, none⟩ v') B gd gm N vT v' xT xs f { D with K := K' } ∧ KeepU w (w2.setCell ⟨gd, 2, none⟩ v') ∧ Below B w (w2.setCell ⟨gd, 2, none⟩ v') ∧ w2.cell? ⟨gd, 2, none⟩ = some vK ∧ w2.frozen? ⟨gd, 2, none⟩ = false := by
  have hk1 : KeepU w w2 := by
    cases e : vK.ownBlock with
    | none => rw [e] at hg; exact ⟨hg.size, fun k cs t r hk _ _ => (hg.block k (Array.getElem?_eq_some_iff.1 hk).1 (by simp)).trans hk⟩
    | some g => rw [e] at hg; exact .of_ty hg (hT g e) (.inr rfl)
  have hb2 : Blk w2 gd 65 #[vT, .map (some gm), vK] := h.blk.grown hg (by
    cases e : vK.ownBlock with
    | none => simp
    | some g => exact fun e2 => h.blk.ty.ne (hT g e) (by decide) (Option.some.inj e2))
  have hoT2 : w2.ownsRow B 24 1 vT D.T.length xT := h.oT.kept hg (by
    cases e : vT.ownBlock with
    | none => exact .inl rfl
    | some g => exact .inr (fun e2 => h.ne g e e2.symm))
  have hm2 : MapIs Try.prog 3 w2 gm N f := h.mp.grown hg (by
    cases e : vK.ownBlock with
    | none => simp
    | some g => exact fun e2 => h.mp.not_ty (hT g e) (Option.some.inj e2))
  have hgs : w2.grownBy (w2.setCell ⟨gd, 2, none⟩ v') (some gd) := grown_at _ _ _ _
  have hk2 : KeepU w2 (w2.setCell ⟨gd, 2, none⟩ v') := .of_ty hgs hb2.ty (.inl rfl)
  have hk := hk1.trans hk2
  refine ⟨⟨h.hB, h.hm, ?_, own_gty hoT2 hgs hb2.ty (by decide), own_gty ho hgs hb2.ty (by decide), h.cT.keep hk, hc.keep hk, hm2.gty hgs hb2.ty, fun i hi => ⟨fun v hv => ((h.mo i hi).1 v hv).keep hk, (h.mo i hi).2⟩, ?_⟩, hk, ?_, ?_, hb2.frozen 2⟩
  · have := hb2.set_ 2 v'
    exact this
  · intro g hg1 hg2
    rcases hv with hv | hv
    · exact h.ne g hg1 (hv ▸ hg2)
    · rw [hv] at hg2
      have := (own_ty h.oT hg1).lt
      rw [Option.some.injEq] at hg2
      omega
  · exact ((Below.refl B w).grown hg h.base (fun k e => (h.oK.lt k e).1)).setCell (p := ⟨gd, 2, none⟩) h.hB _
  · exact hb2.cell 2
/-- a thread's clock has been put -/
theorem DSx.putT {gT n c : Nat} (h : DSx w B gd gm N (.slice (some ⟨gT, 0, none⟩) n c) vK xT xK f D) (hn : D.T.length = n) (t : Nat) (v : Value) (C : List Int) (hv : Ck w v C) :
    DSx (w.setCell ⟨gT, t, none⟩ v) B gd gm N (.slice (some ⟨gT, 0, none⟩) n c) vK (xT.set t v) xK f { D with T := D.T.set t C } ∧ KeepU w (w.setCell ⟨gT, t, none⟩ v) ∧ Below B w (w.setCell ⟨gT, t, none⟩ v) := by
  have oT := h.oT
  rw [hn] at oT
  have hty : Ty w gT 24 := own_ty oT rfl
  have hgs : w.grownBy (w.setCell ⟨gT, t, none⟩ v) (some gT) := grown_at _ _ _ _
  have hk : KeepU w (w.setCell ⟨gT, t, none⟩ v) := .of_ty hgs hty (.inr rfl)
  refine ⟨⟨h.hB, h.hm, h.blk.gty hgs hty (by decide), ?_, ?_, (h.cT.keep hk).set t (hv.keep hk), h.cK.keep hk, h.mp.gty hgs hty, fun i hi => ⟨fun v hv => ((h.mo i hi).1 v hv).keep hk, (h.mo i hi).2⟩, h.ne⟩, hk, ?_⟩
  · rw [List.length_set, hn]
    exact (oT.stored t v).1
  · refine h.oK.kept hgs ?_
    cases e : vK.ownBlock with
    | none => exact .inl rfl
    | some g => exact .inr (fun e2 => h.ne gT rfl (by rw [e, e2]))
  · exact (Below.refl B w).setCell (p := ⟨gT, t, none⟩) (oT.lt gT rfl).1 _
def setO (O : Int → List Int) (i : Int) (C : List Int) : Int → List Int := fun j => if j = i then C else O j
/-- the map: a number's clock asked -/
theorem DSx.ask (h : DSx w B gd gm N vT vK xT xK f D) {i : Int} (hi : (Lit.int .i64 i).wf = true) :
    ∃ v, Ck w v (D.O i) ∧ (Instr.lookup 63 (.map (some gm)) (.int .i64 i) false).run Try.prog w = .ok v w := by
  have hz : (zeroValue 24).run Try.prog w = .ok (.slice none 0 0) w := by kernel_rfl
  have hk : keyOf Try.prog 3 (.int .i64 i) = some _ := Go.Maps.keyOf_int_mk Try.underlying3 hi
  have hrun := h.mp.lookup (Go.Maps.int_keyed Try.underlying3) Try.underlying63 hz hk false
  cases e : f (.int .i64 i) with
  | none =>
    refine ⟨.slice none 0 0, ?_, by rw [hrun, e]; rfl⟩
    rw [(h.mo i hi).2 e]
    exact Ck.nil w
  | some v => exact ⟨v, (h.mo i hi).1 v e, by rw [hrun, e]; rfl⟩
/-- the map: a number's clock put -/
theorem DSx.putO (h : DSx w B gd gm N vT vK xT xK f D) {i : Int} (hi : (Lit.int .i64 i).wf = true) (v : Value) (C : List Int) (hv : Ck w v C) :
    ∃ w', (Instr.mapUpdate 63 (.map (some gm)) (.int .i64 i) v).run Try.prog w = .ok () w' ∧ (∃ f', DSx w' B gd gm (N + 1) vT vK xT xK f' { D with O := setO D.O i C }) ∧ KeepU w w' ∧ Below B w w' := by
  have hk : keyOf Try.prog 3 (.int .i64 i) = some _ := Go.Maps.keyOf_int_mk Try.underlying3 hi
  obtain ⟨w', hrun, hm, hg⟩ := h.mp.update (Go.Maps.int_keyed Try.underlying3) Try.underlying63 hk v
  have hkp : KeepU w w' := .of_map hg h.mp
  have hother : ∀ {e s n : Nat} {v : Value} {xs : List Value}, w.ownsRow B e s v n xs → w'.ownsRow B e s v n xs := by
    intro e s n v xs ho
    refine ho.kept hg ?_
    cases e2 : v.ownBlock with
    | none => exact .inl rfl
    | some g => exact .inr (fun e3 => h.mp.not_ty (own_ty ho e2) (Option.some.inj e3).symm)
  refine ⟨w', hrun, ⟨upd f (.int .i64 i) (some v), h.hB, h.hm, h.blk.grown hg (fun e => h.mp.not_ty h.blk.ty (Option.some.inj e).symm), hother h.oT, hother h.oK, h.cT.keep hkp, h.cK.keep hkp, hm, ?_, h.ne⟩, hkp, (Below.refl B w).grown hg h.base (fun k e => by cases e; exact h.hm)⟩
  intro j hj
  by_cases e : j = i
  · subst e
    rw [upd_same]
    refine ⟨fun u hu => ?_, fun hu => by cases hu⟩
    cases hu
    show Ck w' v (setO D.O j C j)
    rw [show setO D.O j C j = C from if_pos rfl]
    exact hv.keep hkp
  · rw [upd_other _ _ (by simpa using e)]
    show (∀ v, f (.int .i64 j) = some v → Ck w' v (setO D.O i C j)) ∧ (f (.int .i64 j) = none → setO D.O i C j = [])
    rw [show setO D.O i C j = D.O j from if_neg e]
    exact ⟨fun u hu => ((h.mo j hj).1 u hu).keep hkp, (h.mo j hj).2⟩
theorem DSx.cell0 (h : DSx w B gd gm N vT vK xT xK f D) : w.cell? ⟨gd, 0, none⟩ = some vT := h.blk.cell 0
theorem DSx.cell1 (h : DSx w B gd gm N vT vK xT xK f D) : w.cell? ⟨gd, 1, none⟩ = some (.map (some gm)) := h.blk.cell 1
theorem DSx.cell2 (h : DSx w B gd gm N vT vK xT xK f D) : w.cell? ⟨gd, 2, none⟩ = some vK := h.blk.cell 2
theorem DSx.row {gT n c : Nat} (h : DSx w B gd gm N (.slice (some ⟨gT, 0, none⟩) n c) vK xT xK f D) (hn : D.T.length = n) {t : Nat} {C : List Int} (hC : D.T[t]? = some C) :
    ∃ A cc, w.cell? ⟨gT, t, none⟩ = some (.slice A C.length cc) ∧ Rd w w.heap.size 1 intC A C := by
  obtain ⟨v, hv, hck⟩ := h.cT.at_ hC
  obtain ⟨A, cc, rfl, hr⟩ := hck.rd
  have oT := h.oT
  rw [hn] at oT
  have hl : t < n := by rw [← hn]; exact (List.getElem?_eq_some_iff.1 hC).1
  have := oT.cellAt t (by omega)
  exact ⟨A, cc, this.trans hv, hr⟩
end
/-- an event more -/
def dStep (D : Det) (x : Ev) : Det :=
  let t := x.thread.toNat
  let c0 := tickL (D.T.getD t []) x.thread
  if x.kind = 7 then { T := (D.T ++ [c0]).set t c0, O := D.O, K := D.K ++ [c0] }
  else if x.kind = 8 then { T := D.T.set t (joinL c0 (D.T.getD x.id.toNat [])), O := D.O, K := D.K ++ [joinL c0 (D.T.getD x.id.toNat [])] }
  else if x.kind = 5 then { T := D.T.set t (joinL c0 (D.O x.id)), O := D.O, K := D.K ++ [joinL c0 (D.O x.id)] }
  else if x.kind = 6 then { T := D.T.set t c0, O := setO D.O x.id (joinL (D.O x.id) c0), K := D.K ++ [c0] }
  else { T := D.T.set t c0, O := D.O, K := D.K ++ [c0] }
end Go.Proofs.Ytpcjcmbhoglnfaa
