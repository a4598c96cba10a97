/- Race: contracts of slices.Equal, begins, plain, writes, Access. -/
import Derived.Test.YtpcjcmbhoglnfaaW
namespace Go.Proofs.Ytpcjcmbhoglnfaa
open Go.RowKit
set_option linter.unusedVariables false
set_option linter.unusedSimpArgs false

theorem take_eq_succ {L M : List Int} {k : Nat} {x y : Int} (h : L.take k = M.take k) (hx : L[k]? = some x) (hy : M[k]? = some y) (hxy : x = y) : L.take (k + 1) = M.take (k + 1) := by
  rw [List.take_add_one, List.take_add_one, h, hx, hy, hxy]
set_option maxHeartbeats 1600000 in
theorem equal_any (A1 A2 : Option Addr) (l1 c1 l2 c2 B : Nat) (L M : List Int) (w : World) (h1 : L.length = l1) (h2 : M.length = l2) (r1 : Rd w B 1 intC A1 L) (r2 : Rd w B 1 intC A2 M) (hN : l1 ≤ 1000000) :
    Calls Try.prog 50 #[.slice A1 l1 c1, .slice A2 l2 c2] w fun r w' => r = .returned (.bool (decide (L = M))) ∧ ∃ n, w' = w.drewN n := by
  by_cases hne : l1 = l2
  · subst hne
    have H1 := Lib.hid h1
    have H2 := Lib.hid h2
    clear h1 h2
    go_enter Try.func50, Try.ntmps50
    go_wp2
    go_loopw [13] (fun i wr => ∃ k : Nat, k ≤ l1 ∧ i = .int .i64 k ∧ L.take k = M.take k ∧ ∃ n, wr = w.drewN n) (fun i _ => l1 - (intOf i).toNat)
    case atStart => exact ⟨0, by omega, rfl, rfl, 0, rfl⟩
    case round =>
      obtain ⟨k, hk, rfl, htk, nd, rfl⟩ := hrel
      have HTK := Lib.hid htk
      clear htk
      by_cases hlt : k < l1
      · obtain ⟨b, off, x, hx, rfl, hb, hc⟩ := r1.int (k := k) (by rw [H1.out]; exact hlt)
        obtain ⟨b', off', y, hy, rfl, hb', hc'⟩ := r2.int (k := k) (by rw [H2.out]; exact hlt)
        have HX := Lib.hid hx
        have HY := Lib.hid hy
        have hi : (k : Int) < (l1 : Int) := by omega
        have hi0 : (0 : Int) ≤ (k : Int) := by omega
        clear hx hy
        by_cases hxy : x = y
        · subst hxy
          have bn : (x != x) = false := by simp
          go_wp2
          go_quiet (fail)
          go_wp2
          go_roundw
          case rel => exact ⟨k + 1, by omega, by go_num, take_eq_succ HTK.out HX.out HY.out rfl, _, rfl⟩
          case measure => simp [intOf] <;> omega
        · have bn : (x != y) = true := by simpa using hxy
          have hLM : ¬ L = M := by
            intro e
            have h1 := HX.out
            rw [e, HY.out] at h1
            cases h1
            exact hxy rfl
          have hd : decide (L = M) = false := decide_eq_false hLM
          have HD := Lib.hid hd
          clear hLM hd hxy
          go_wp2
          go_quiet (fail)
          go_wp2
          go_ret
          exact ⟨by rw [HD.out]; rfl, _, World.drewN_drewN _ _ _⟩
      · obtain rfl : k = l1 := by omega
        have hd : decide (L = M) = true := by
          have := HTK.out
          rw [List.take_of_length_le (by rw [H1.out]; exact Nat.le_refl _), List.take_of_length_le (by rw [H2.out]; exact Nat.le_refl _)] at this
          exact decide_eq_true this
        have HD := Lib.hid hd
        clear hd
        go_wp2
        go_ret
        exact ⟨by rw [HD.out]; rfl, _, rfl⟩
  · have hd : decide (L = M) = false := decide_eq_false fun e => hne (by rw [← h1, ← h2, e])
    rw [hd]
    have bn : ((l1 : Int) != (l2 : Int)) = true := by rw [bne_iff_ne]; omega
    clear hd h1 h2 hne
    go_enter Try.func50, Try.ntmps50
    go_wp2
    go_ret
    exact ⟨rfl, 0, rfl⟩

/-- is a path a beginning of another one? -/
def begB (P Q : List Int) : Bool := decide (P.length ≤ Q.length) && decide (P = Q.take P.length)
set_option maxHeartbeats 1600000 in
theorem begins_any (A1 A2 : Option Addr) (l1 c1 l2 c2 B : Nat) (P Q : List Int) (w : World) (h1 : P.length = l1) (h2 : Q.length = l2) (r1 : Rd w B 1 intC A1 P) (r2 : Rd w B 1 intC A2 Q) (hN : l1 ≤ 1000000) (hc : l2 ≤ c2) :
    Calls Try.prog 47 #[.slice A1 l1 c1, .slice A2 l2 c2] w fun r w' => r = .returned (.bool (begB P Q)) ∧ ∃ n, w' = w.drewN n := by
  by_cases hle : l1 ≤ l2
  · have hb : begB P Q = decide (P = Q.take l1) := by unfold begB; rw [h1, h2]; simp [hle]
    have he := equal_any A1 A2 l1 c1 l1 c2 B P (Q.take l1) w h1 (by rw [List.length_take]; omega) r1 (r2.take l1) hN
    rw [hb]
    obtain ⟨b, hbb⟩ : ∃ b, b = decide (P = Q.take l1) := ⟨_, rfl⟩
    rw [← hbb] at he ⊢
    have hi : (l1 : Int) ≤ (l2 : Int) := by omega
    have hlc : l1 ≤ c2 := by omega
    have hic : (l1 : Int) ≤ (c2 : Int) := by omega
    have HE := Lib.hid he
    clear hbb hb he h1 h2 r1 r2
    go_enter Try.func47, Try.ntmps47
    go_wp2_with fail
    refine HE.out.mono ?_
    rintro r w' ⟨rfl, nd, rfl⟩
    go_wp2
    go_ret
    exact ⟨rfl, _, rfl⟩
  · have hb : begB P Q = false := by unfold begB; rw [h1, h2]; simp [hle]
    rw [hb]
    have hi : decide ((l1 : Int) ≤ (l2 : Int)) = false := by simp; omega
    have hi2 : decide (l1 ≤ l2) = false := by simpa using hle
    clear hb h1 h2 r1 r2
    go_enter Try.func47, Try.ntmps47
    go_wp2
    go_ret
    exact ⟨rfl, 0, rfl⟩

/-! ### of one event -/
def accB (k : Int) : Bool := decide (k = 1) || decide (k = 2) || decide (k = 4) || decide (k = 3)
def wrB (k : Int) : Bool := decide (k = 2) || decide (k = 3)

set_option maxHeartbeats 1600000 in
theorem access_any {k t i : Int} {pa : Option Addr} {pl pc : Nat} {w : World} (b : Bool) (hb : accB k = b) :
    Calls Try.prog 20 #[.agg #[.int .u8 k, .int .i64 t, .int .i64 i, .slice pa pl pc]] w fun r w' => r = .returned (.bool b) ∧ Below w.heap.size w w' := by
  subst hb
  by_cases k1 : k = 1
  · subst k1
    rw [show accB 1 = true from rfl]
    go_enter Try.func20, Try.ntmps20
    go_wp2
    go_ret
    exact ⟨rfl, (Below.refl _ w).alloc (Nat.le_refl _) _⟩
  by_cases k2 : k = 2
  · subst k2
    rw [show accB 2 = true from rfl]
    go_enter Try.func20, Try.ntmps20
    go_wp2
    go_ret
    exact ⟨rfl, (Below.refl _ w).alloc (Nat.le_refl _) _⟩
  by_cases k4 : k = 4
  · subst k4
    rw [show accB 4 = true from rfl]
    go_enter Try.func20, Try.ntmps20
    go_wp2
    go_ret
    exact ⟨rfl, (Below.refl _ w).alloc (Nat.le_refl _) _⟩
  by_cases k3 : k = 3
  · subst k3
    rw [show accB 3 = true from rfl]
    go_enter Try.func20, Try.ntmps20
    go_wp2
    go_ret
    exact ⟨rfl, (Below.refl _ w).alloc (Nat.le_refl _) _⟩
  rw [show accB k = false from by simp [accB, k1, k2, k4, k3]]
  have b1 : (k == 1) = false := by simpa using k1
  have b2 : (k == 2) = false := by simpa using k2
  have b4 : (k == 4) = false := by simpa using k4
  have b3 : (k == 3) = false := by simpa using k3
  clear k1 k2 k4 k3
  go_enter Try.func20, Try.ntmps20
  go_wp2
  go_ret
  exact ⟨rfl, (Below.refl _ w).alloc (Nat.le_refl _) _⟩

set_option maxHeartbeats 1600000 in
theorem writes_any {k t i : Int} {pa : Option Addr} {pl pc : Nat} {w : World} (b : Bool) (hb : wrB k = b) :
    Calls Try.prog 46 #[.agg #[.int .u8 k, .int .i64 t, .int .i64 i, .slice pa pl pc]] w fun r w' => r = .returned (.bool b) ∧ Below w.heap.size w w' := by
  subst hb
  by_cases k2 : k = 2
  · subst k2
    rw [show wrB 2 = true from rfl]
    go_enter Try.func46, Try.ntmps46
    go_wp2
    go_ret
    exact ⟨rfl, (Below.refl _ w).alloc (Nat.le_refl _) _⟩
  by_cases k3 : k = 3
  · subst k3
    rw [show wrB 3 = true from rfl]
    go_enter Try.func46, Try.ntmps46
    go_wp2
    go_ret
    exact ⟨rfl, (Below.refl _ w).alloc (Nat.le_refl _) _⟩
  rw [show wrB k = false from by simp [wrB, k2, k3]]
  have b2 : (k == 2) = false := by simpa using k2
  have b3 : (k == 3) = false := by simpa using k3
  clear k2 k3
  go_enter Try.func46, Try.ntmps46
  go_wp2
  go_ret
  exact ⟨rfl, (Below.refl _ w).alloc (Nat.le_refl _) _⟩

/-- an event's path, as far as it counts -/
def plainP (x : Ev) : List Int := if x.kind = 3 then [] else x.path
def plainA (x : Ev) : Option Addr := if x.kind = 3 then none else x.pa
def plainC (x : Ev) : Nat := if x.kind = 3 then 0 else x.pc
theorem plain_any (x : Ev) (l : Nat) (w : World) (hl : x.path.length = l) :
    Calls Try.prog 45 #[.agg #[.int .u8 x.kind, .int .i64 x.thread, .int .i64 x.id, .slice x.pa l x.pc]] w fun r w' => r = .returned (.slice (plainA x) (plainP x).length (plainC x)) ∧ Below w.heap.size w w' := by
  obtain ⟨k, t, i, pa, pc, P⟩ := x
  simp only at hl
  by_cases k3 : k = 3
  · subst k3
    rw [show plainA ⟨3, t, i, pa, pc, P⟩ = none from rfl, show plainP ⟨3, t, i, pa, pc, P⟩ = [] from rfl, show plainC ⟨3, t, i, pa, pc, P⟩ = 0 from rfl]
    clear hl
    go_enter Try.func45, Try.ntmps45
    go_wp2
    go_ret
    exact ⟨rfl, (Below.refl _ w).alloc (Nat.le_refl _) _⟩
  · rw [show plainA ⟨k, t, i, pa, pc, P⟩ = pa from if_neg k3, show plainP ⟨k, t, i, pa, pc, P⟩ = P from if_neg k3, show plainC ⟨k, t, i, pa, pc, P⟩ = pc from if_neg k3, hl]
    have b3 : (k == 3) = false := by simpa using k3
    clear hl k3
    go_enter Try.func45, Try.ntmps45
    go_wp2
    go_ret
    exact ⟨rfl, (Below.refl _ w).alloc (Nat.le_refl _) _⟩
theorem plain_rd {x : Ev} {w : World} {B : Nat} (h : EvOk w B x) : Rd w B 1 intC (plainA x) (plainP x) ∧ (plainP x).length ≤ plainC x ∧ (plainP x).length ≤ x.path.length := by
  unfold plainA plainP plainC
  split
  · exact ⟨.inl rfl, by simp, by simp⟩
  · exact ⟨h.rd, h.cap, Nat.le_refl _⟩
def confB (x y : Ev) : Bool := accB x.kind && accB y.kind && decide (x.thread ≠ y.thread) && decide (x.id = y.id) && (begB (plainP x) (plainP y) || begB (plainP y) (plainP x)) && (wrB x.kind || wrB y.kind) && (decide (x.kind ≠ 4) || decide (y.kind ≠ 4))
end Go.Proofs.Ytpcjcmbhoglnfaa
