/- Race: contracts of start, ahead, races. -/
import Derived.Test.YtpcjcmbhoglnfaaE
namespace Go.Proofs.Ytpcjcmbhoglnfaa
open Go.RowKit Go.ChangeMaps Go.MapKept
set_option linter.unusedVariables false
set_option linter.unusedSimpArgs false

theorem start_any (w : World) : Calls Try.prog 28 #[] w fun r w' => ∃ gd, r = .returned (.pointer (some ⟨gd, 0, none⟩)) ∧ DS w' w.heap.size gd 0 det0 ∧ Below w.heap.size w w' := by
  have hmm := @run_makeMap Try.prog
  go_enter Try.func28, Try.ntmps28
  go_wp2
  go_ret
  refine ⟨w.heap.size + 1 + 1, rfl, ⟨w.heap.size + 1, .slice (some ⟨w.heap.size, 0, none⟩) 1 1, .slice none 0 0, [.slice none 0 0], [], fun _ => none, ?_⟩, ?_⟩
  · have hT := World.ownsRow_lit (base := w.heap.size) (e := 24) (size := 1) w #[.slice none 0 0] 1 (Nat.le_refl _) (by unfold maxLen; omega) rfl
    refine ⟨by omega, by omega, Blk.at_ (by simp), (hT.alloc _).alloc _, World.ownsRow_nil _ _ _ _, ⟨rfl, ?_⟩, ⟨rfl, by simp⟩, ?_, fun i hi => ⟨(fun v hv => by cases hv), fun _ => rfl⟩, by simp [Value.ownBlock]⟩
    · intro i v C h1 h2
      match i, h1, h2 with
      | 0, h1, h2 =>
        simp [det0] at h1 h2
        subst h1 h2
        exact Ck.nil _
      | i + 1, h1, h2 => simp at h1
    · have := (MapIs.made (w.alloc (.cells #[.slice none 0 0] 24)) Try.prog 3).alloc (.cells #[.slice (some ⟨w.heap.size, 0, none⟩) 1 1, .map (some (w.heap.size + 1)), .slice none 0 0] 65)
      rw [World.size_alloc] at this
      exact this
  · exact (((Below.refl _ w).alloc (Nat.le_refl _) _).alloc (by simp) _).alloc (by simp; omega) _

theorem DSx.rowK {w : World} {B gd gm N gK n c : Nat} {vT : Value} {xT xK : List Value} {f : Value → Option Value} {D : Det} (h : DSx w B gd gm N vT (.slice (some ⟨gK, 0, none⟩) n c) xT xK f D) (hn : D.K.length = n) {t : Nat} {C : List Int} (hC : D.K[t]? = some C) :
    ∃ A cc, w.cell? ⟨gK, t, none⟩ = some (.slice A C.length cc) ∧ Rd w w.heap.size 1 intC A C := by
  obtain ⟨v, hv, hck⟩ := h.cK.at_ hC
  obtain ⟨A, cc, rfl, hr⟩ := hck.rd
  have oK := h.oK
  rw [hn] at oK
  have hl : t < n := by rw [← hn]; exact (List.getElem?_eq_some_iff.1 hC).1
  have := oK.cellAt t (by omega)
  exact ⟨A, cc, this.trans hv, hr⟩
/-- the cells of an event in a row -/
theorem Rd.ev {w : World} {B : Nat} {A : Option Addr} {L : List Ev} (h : Rd w B 4 evC A L) {k : Nat} {x : Ev} (hk : L[k]? = some x) :
    ∃ b off, A = some ⟨b, off, none⟩ ∧ b < B ∧ w.cell? ⟨b, off + k * 4, none⟩ = some (.int .u8 x.kind) ∧ w.cell? ⟨b, off + k * 4 + 1, none⟩ = some (.int .i64 x.thread) ∧ w.cell? ⟨b, off + k * 4 + 2, none⟩ = some (.int .i64 x.id) ∧ w.cell? ⟨b, off + k * 4 + 3, none⟩ = some (.slice x.pa x.path.length x.pc) := by
  obtain ⟨hl, e⟩ := List.getElem?_eq_some_iff.1 hk
  obtain ⟨b, off, hA, hb, hc⟩ := h.at_ hl
  rw [e] at hc
  exact ⟨b, off, hA, hb, by simpa using hc 0 _ rfl, hc 1 _ rfl, hc 2 _ rfl, hc 3 _ rfl⟩

set_option maxRecDepth 100000 in
set_option maxHeartbeats 3200000 in
theorem dahead_any {w : World} {B gd N : Nat} {D : Det} (A : Option Addr) (len c : Nat) (L : List Ev) (hlen : L.length = len) (rd : Rd w w.heap.size 4 evC A L) (i k : Nat) (hik : i ≠ k) {x : Ev} {Ci Cx : List Int} (hx : L[i]? = some x) (hi : D.K[i]? = some Ci) (hk : D.K[k]? = some Cx) (hd : DS w B gd N D) (hK9 : D.K.length ≤ 100000) :
    Calls Try.prog 30 #[.pointer (some ⟨gd, 0, none⟩), .slice A len c, .int .i64 i, .int .i64 k] w fun r w' => r = .returned (.bool (decide (atZ Ci x.thread ≤ atZ Cx x.thread))) ∧ ∃ n, w' = w.drewN n := by
  obtain ⟨gm, vT, vK, xT, xK, f, hd⟩ := hd
  obtain ⟨n, hn⟩ : ∃ n, D.K.length = n := ⟨_, rfl⟩
  have hil : i < n := by rw [← hn]; exact (List.getElem?_eq_some_iff.1 hi).1
  have hkl : k < n := by rw [← hn]; exact (List.getElem?_eq_some_iff.1 hk).1
  have hxl : i < len := by rw [← hlen]; exact (List.getElem?_eq_some_iff.1 hx).1
  obtain ⟨q, hq⟩ : ∃ q, n = q + 1 := ⟨n - 1, by omega⟩
  have ho := hd.oK
  rw [hn, hq] at ho
  obtain ⟨gK, cK, rfl⟩ := own_succ ho
  rw [← hq] at hd
  obtain ⟨b, off, rfl, hb, c0, c1, c2, c3⟩ := rd.ev hx
  obtain ⟨Ai, cci, ri, rdi⟩ := hd.rowK hn hi
  obtain ⟨Ak, cck, rk, rdk⟩ := hd.rowK hn hk
  have h2 := hd.cell2
  obtain ⟨li, hli⟩ : ∃ m, Ci.length = m := ⟨_, rfl⟩
  obtain ⟨lk, hlk⟩ : ∃ m, Cx.length = m := ⟨_, rfl⟩
  rw [hli] at ri
  rw [hlk] at rk
  obtain ⟨a1, ha1⟩ : ∃ a, a = atZ Ci x.thread := ⟨_, rfl⟩
  obtain ⟨a2, ha2⟩ : ∃ a, a = atZ Cx x.thread := ⟨_, rfl⟩
  have HA1 : ∀ m, Hid (Calls Try.prog 37 #[.slice Ai li cci, .int .i64 x.thread] (w.drewN m) fun r w' => r = .returned (.int .i64 a1) ∧ w.drewN m = w') := fun m => Lib.hid (by rw [ha1]; exact at_c hli (rdi.drewN m))
  have HA2 : ∀ m, Hid (Calls Try.prog 37 #[.slice Ak lk cck, .int .i64 x.thread] (w.drewN m) fun r w' => r = .returned (.int .i64 a2) ∧ w.drewN m = w') := fun m => Lib.hid (by rw [ha2]; exact at_c hlk (rdk.drewN m))
  rw [← ha1, ← ha2]
  have e1 : (i : Int) < (n : Int) := by omega
  have e2 : (k : Int) < (n : Int) := by omega
  have e3 : (i : Int) < (len : Int) := by omega
  have e4 : (0 : Int) ≤ (i : Int) := by omega
  have e5 : (0 : Int) ≤ (k : Int) := by omega
  clear ha1 ha2 hli hlk rdi rdk hd ho hn hlen rd hx hi hk c0 c2 c3 hq
  go_enter Try.func30, Try.ntmps30
  go_wp2
  go_quiet (first | (go_at_call_of 37 (Value.slice Ai li cci); exact quiet_left (HA1 _).out) | (go_at_call_of 37 (Value.slice Ak lk cck); exact quiet_left (HA2 _).out))
  go_wp2
  go_ret
  exact ⟨rfl, _, rfl⟩
end Go.Proofs.Ytpcjcmbhoglnfaa
