/- Race: the contract of the detector's does. -/
import Derived.Test.YtpcjcmbhoglnfaaD2
import Derived.Test.YtpcjcmbhoglnfaaD3
import Derived.Test.YtpcjcmbhoglnfaaD4
import Derived.Test.YtpcjcmbhoglnfaaD5
import Derived.Test.YtpcjcmbhoglnfaaD6
import Derived.StillTailTactics
import Derived.Deep.RegionHeld3
namespace Go.Proofs.Ytpcjcmbhoglnfaa
open Go.RowKit Go.ChangeMaps Go.MapKept
set_option linter.unusedVariables false
set_option linter.unusedSimpArgs false

/-- an event that the detector can take: its threads are there -/
structure EvFit (D : Det) (x : Ev) : Prop where
  t0 : 0 ≤ x.thread
  t1 : x.thread < D.T.length
  j : x.kind = 8 → 0 ≤ x.id ∧ x.id < D.T.length
  wi : (Lit.int .i64 x.id).wf = true
theorem ddoes_any {w : World} {B gd N : Nat} {D : Det} (x : Ev) (l : Nat) (hfit : EvFit D x) (hd : DS w B gd N D) (ok : DetOk D) :
    Calls Try.prog 29 #[.pointer (some ⟨gd, 0, none⟩), .agg #[.int .u8 x.kind, .int .i64 x.thread, .int .i64 x.id, .slice x.pa l x.pc]] w (DDP w B gd N D x) := by
  obtain ⟨gm, vT, vK, xT, xK, f, hd⟩ := hd
  obtain ⟨t, ht⟩ : ∃ t : Nat, x.thread = t := ⟨x.thread.toNat, by have := hfit.t0; omega⟩
  have htl : t < D.T.length := by have := hfit.t1; omega
  obtain ⟨C, hC⟩ : ∃ C, D.T[t]? = some C := ⟨_, List.getElem?_eq_getElem htl⟩
  obtain ⟨q, hq⟩ : ∃ q, D.T.length = q + 1 := ⟨D.T.length - 1, by omega⟩
  have ho := hd.oT
  rw [hq] at ho
  obtain ⟨gT, cT, rfl⟩ := own_succ ho
  rw [ht]
  by_cases k7 : x.kind = 7
  · rw [k7]; exact ddoes_spawn x l k7 t C ht hC hfit.wi hd hq ok
  by_cases k8 : x.kind = 8
  · obtain ⟨j0, j1⟩ := hfit.j k8
    obtain ⟨j, hj⟩ : ∃ j : Nat, x.id = j := ⟨x.id.toNat, by omega⟩
    obtain ⟨C2, hC2⟩ : ∃ C2, D.T[j]? = some C2 := ⟨_, List.getElem?_eq_getElem (by omega)⟩
    rw [k8]; exact ddoes_join x l k8 j C2 hj hC2 t C ht hC hfit.wi hd hq ok
  by_cases k5 : x.kind = 5
  · rw [k5]; exact ddoes_acq x l k5 t C ht hC hfit.wi hd hq ok
  by_cases k6 : x.kind = 6
  · rw [k6]; exact ddoes_rel x l k6 t C ht hC hfit.wi hd hq ok
  exact ddoes_else x l k5 k6 k7 k8 t C ht hC hfit.wi hd hq ok
end Go.Proofs.Ytpcjcmbhoglnfaa
