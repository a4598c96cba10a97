/- Race: the contract of the detector's does: what is held. -/
import Derived.Test.YtpcjcmbhoglnfaaD0
import Derived.StillTailTactics
import Derived.Deep.RegionHeld3
namespace Go.Proofs.Ytpcjcmbhoglnfaa
open Go.RowKit Go.ChangeMaps Go.MapKept
set_option linter.unusedVariables false
set_option linter.unusedSimpArgs false

theorem info24 : (Try.prog.info? 24).map (fun i => (i.zero, i.size, i.bytes)) = some (some (.slice none 0 0), 1, 24) := by kernel_rfl
structure DetOk (D : Det) : Prop where
  n0 : 1 ≤ D.T.length
  n1 : D.T.length ≤ 70000
  k1 : D.K.length ≤ 70000
  lT : ∀ C ∈ D.T, C.length ≤ 65536
  lO : ∀ i, (D.O i).length ≤ 65536
theorem Ck.form {w : World} {v : Value} {C : List Int} (h : Ck w v C) : ∃ A l c, v = .slice A l c ∧ C.length = l := by
  obtain ⟨A, c, rfl⟩ := own_slice h
  exact ⟨A, _, c, rfl, rfl⟩
theorem keep_row {w w2 : World} {B s n : Nat} {v : Value} {xs : List Value} (ho : w.ownsRow B 24 s v n xs) (hg : w.grownBy w2 v.ownBlock) : KeepU w w2 := by
  cases e : v.ownBlock with
  | none => rw [e] at hg; exact ⟨hg.size, fun k cs t r hk _ _ => (hg.block k (Array.getElem?_eq_some_iff.1 hk).1 (by simp)).trans hk⟩
  | some g => rw [e] at hg; exact .of_ty hg (own_ty ho e) (.inr rfl)
theorem DSx.appK {w w2 : World} {B gd gm N : Nat} {vT vK v v' : Value} {xT xK : List Value} {f : Value → Option Value} {D : Det} {C : List Int} (h : DSx w B gd gm N vT vK xT xK f D) (hv : Ck w v C) (hg : w.grownBy w2 vK.ownBlock)
    (hx : v'.ownBlock = vK.ownBlock ∨ v'.ownBlock = some w.heap.size) (ho : w2.ownsRow B 24 1 v' (D.K.length + 1) (xK ++ [v])) :
    DSx (w2.setCell ⟨gd, 2, none⟩ v') B gd gm N vT v' xT (xK ++ [v]) f { D with K := D.K ++ [C] } ∧ KeepU w (w2.setCell ⟨gd, 2, none⟩ v') ∧ Below B w (w2.setCell ⟨gd, 2, none⟩ v') ∧ w2.cell? ⟨gd, 2, none⟩ = some vK ∧ w2.frozen? ⟨gd, 2, none⟩ = false :=
  h.turnK hg (fun g e => own_ty h.oK e) hx (by rw [List.length_append]; exact ho) (h.cK.snoc hv)
theorem DSx.appT {w w2 : World} {B gd gm N : Nat} {vT vK v v' : Value} {xT xK : List Value} {f : Value → Option Value} {D : Det} {C : List Int} (h : DSx w B gd gm N vT vK xT xK f D) (hv : Ck w v C) (hg : w.grownBy w2 vT.ownBlock)
    (hx : v'.ownBlock = vT.ownBlock ∨ v'.ownBlock = some w.heap.size) (ho : w2.ownsRow B 24 1 v' (D.T.length + 1) (xT ++ [v])) :
    DSx (w2.setCell ⟨gd, 0, none⟩ v') B gd gm N v' vK (xT ++ [v]) xK f { D with T := D.T ++ [C] } ∧ KeepU w (w2.setCell ⟨gd, 0, none⟩ v') ∧ Below B w (w2.setCell ⟨gd, 0, none⟩ v') ∧ w2.cell? ⟨gd, 0, none⟩ = some vT ∧ w2.frozen? ⟨gd, 0, none⟩ = false :=
  h.turnT hg (fun g e => own_ty h.oT e) hx (by rw [List.length_append]; exact ho) (h.cT.snoc hv)
def slC (x : Option Addr × Nat × Nat) : List Value := [.slice x.1 x.2.1 x.2.2]
theorem slC_len (x : Option Addr × Nat × Nat) : (slC x).length = 1 := rfl
theorem slC_one (x : Option Addr × Nat × Nat) : ∀ u ∈ slC x, u.oneCell' = true := by intro u hu; simp [slC] at hu; subst hu; rfl
theorem Rd.slot (w : World) (A : Option Addr) (l c : Nat) (t : TypeId) : Rd (w.alloc (.cells #[.slice A l c] t)) (w.heap.size + 1) 1 slC (some ⟨w.heap.size, 0, none⟩) [(A, l, c)] := by
  refine .inr ⟨w.heap.size, 0, rfl, by omega, fun i x hx j u hu => ?_⟩
  rw [(Blk.new w t _).cell]
  match i, hx with
  | 0, hx =>
    simp at hx; subst hx
    match j, hu with
    | 0, hu => simp [slC] at hu; subst hu; rfl
    | j + 1, hu => simp [slC] at hu
  | i + 1, hx => simp at hx
theorem tick_len (C : List Int) (t : Nat) (h : C.length ≤ 65536) : (tickL C t).length ≤ 65536 := by
  unfold tickL
  rw [formL_length]
  refine Nat.le_trans (trim_le _ _) ?_
  unfold tickN
  split
  · rename_i h1
    have := (tickOn_iff C t).1 h1
    omega
  · exact h
theorem join_len (C D : List Int) (h1 : C.length ≤ 65536) (h2 : D.length ≤ 65536) : (joinL C D).length ≤ 65536 := by
  unfold joinL
  rw [formL_length]
  exact Nat.le_trans (trim_le _ _) (by omega)
theorem own_frz {w : World} {B g n m c : Nat} {xs : List Value} (h : w.ownsRow B 24 1 (.slice (some ⟨g, 0, none⟩) n c) m xs) (hm : m = n) (j : Nat) : w.frozen? ⟨g, j, none⟩ = false := by subst hm; exact h.frozenAt j
/-- what does leaves -/
def DDP (w : World) (B gd N : Nat) (D : Det) (x : Ev) (r : Ending) (w' : World) : Prop := r = .returned (.tuple #[]) ∧ DS w' B gd (N + 1) (dStep D x) ∧ KeepU w w' ∧ Below B w w'
/-- what is held while it goes on -/
structure Mid (w : World) (B gd gm N gT n cT : Nat) (vK : Value) (xT xK : List Value) (f : Value → Option Value) (D : Det) (gb : Nat) (x : Ev) (l : Nat) (W : World) : Prop where
  d : DSx W B gd gm N (.slice (some ⟨gT, 0, none⟩) n cT) vK xT xK f D
  n : D.T.length = n
  bx : Blk W gb 26 (evA x l)
  k : KeepU w W
  b : Below B w W
section
variable {w W W' : World} {B gd gm N gT n cT : Nat} {vK : Value} {xT xK : List Value} {f : Value → Option Value} {D : Det} {gb l : Nat} {x : Ev}
theorem Mid.below (h : Mid w B gd gm N gT n cT vK xT xK f D gb x l W) (hb : Below W.heap.size W W') : Mid w B gd gm N gT n cT vK xT xK f D gb x l W' :=
  ⟨h.d.below hb, h.n, h.bx.below hb h.bx.lt, h.k.trans (.of_below hb), h.b.trans (hb.mono h.d.base)⟩
theorem Mid.drew (h : Mid w B gd gm N gT n cT vK xT xK f D gb x l W) : Mid w B gd gm N gT n cT vK xT xK f D gb x l W.drew := h.below (Below.refl _ W).drew
theorem Mid.drewN (h : Mid w B gd gm N gT n cT vK xT xK f D gb x l W) (k : Nat) : Mid w B gd gm N gT n cT vK xT xK f D gb x l (W.drewN k) := h.below (below_drewN (Below.refl _ W) k)
theorem Mid.cells (h : Mid w B gd gm N gT n cT vK xT xK f D gb x l W) :
    W.cell? ⟨gd, 0, none⟩ = some (.slice (some ⟨gT, 0, none⟩) n cT) ∧ W.cell? ⟨gd, 1, none⟩ = some (.map (some gm)) ∧ W.cell? ⟨gd, 2, none⟩ = some vK ∧
    W.cell? ⟨gb, 0, none⟩ = some (.int .u8 x.kind) ∧ W.cell? ⟨gb, 1, none⟩ = some (.int .i64 x.thread) ∧ W.cell? ⟨gb, 2, none⟩ = some (.int .i64 x.id) :=
  ⟨h.d.cell0, h.d.cell1, h.d.cell2, h.bx.cell 0, h.bx.cell 1, h.bx.cell 2⟩
theorem evA_ne (h : Mid w B gd gm N gT n cT vK xT xK f D gb x l W) : gb ≠ gd ∧ gb ≠ gT ∧ gb ≠ gm ∧ gd ≠ gT := by
  have hT : Ty W gT 24 := own_ty h.d.oT rfl
  exact ⟨h.bx.ty.ne h.d.blk.ty (by decide), h.bx.ty.ne hT (by decide), fun e => h.d.mp.not_ty h.bx.ty e.symm, h.d.blk.ty.ne hT (by decide)⟩
/-- the thread's clock put, and told behind the others -/
theorem Mid.fin1 (h : Mid w B gd gm N gT n cT vK xT xK f D gb x l W) (t : Nat) {v : Value} {C : List Int} (hv : Ck W v C) :
    Mid w B gd gm N gT n cT vK (xT.set t v) xK f { D with T := D.T.set t C } gb x l (W.setCell ⟨gT, t, none⟩ v) ∧ Ck (W.setCell ⟨gT, t, none⟩ v) v C := by
  obtain ⟨h1, h2, h3⟩ := h.d.putT h.n t v C hv
  exact ⟨⟨h1, by rw [List.length_set]; exact h.n, h.bx.far (p := ⟨gT, t, none⟩) (evA_ne h).2.1 v, h.k.trans h2, h.b.trans h3⟩, hv.keep h2⟩
end
end Go.Proofs.Ytpcjcmbhoglnfaa
