/- Race: what a clock's functions come to, in plain lists; and the contracts of At (the program's, the document's), of the closures and of form. -/
import Derived.Test.YtpcjcmbhoglnfaaChecked
import Derived.Test.YtpcjcmbhoglnfaaApp
import Derived.Deep.RegionHeld3
import Derived.Deep.RegionWith
namespace Go.Proofs.Ytpcjcmbhoglnfaa
open Go.RowKit
set_option linter.unusedVariables false

def intC (x : Int) : List Value := [.int .i64 x]
theorem intC_len (x : Int) : (intC x).length = 1 := rfl
theorem intC_one (x : Int) : ∀ u ∈ intC x, u.oneCell' = true := by intro u hu; simp [intC] at hu; subst hu; rfl

/-- a clock's number of thread n -/
def atZ (C : List Int) (n : Int) : Int := if 0 ≤ n ∧ n < C.length then C.getD n.toNat 0 else 0
/-- how many numbers are left when the noughts at the end are struck -/
def trim (g : Nat → Int) : Nat → Nat
  | 0 => 0
  | n + 1 => if g n = 0 then trim g n else n + 1
def formL (g : Nat → Int) (n : Nat) : List Int := (List.range (trim g n)).map g

theorem atZ_in {C : List Int} {k : Nat} {x : Int} (h : C[k]? = some x) : atZ C k = x := by
  have hk : k < C.length := (List.getElem?_eq_some_iff.1 h).1
  unfold atZ
  rw [if_pos ⟨by omega, by omega⟩, Int.toNat_natCast, List.getD_eq_getElem?_getD, h]; rfl
theorem atZ_out {C : List Int} {n : Int} (h : n < 0 ∨ (C.length : Int) ≤ n) : atZ C n = 0 := by
  unfold atZ; rw [if_neg (by omega)]
theorem trim_le (g : Nat → Int) : ∀ n, trim g n ≤ n
  | 0 => Nat.le_refl _
  | n + 1 => by unfold trim; split; exact Nat.le_trans (trim_le g n) (by omega); exact Nat.le_refl _

theorem Rd.int {w : World} {B : Nat} {A : Option Addr} {L : List Int} (h : Rd w B 1 intC A L) {k : Nat} (hk : k < L.length) :
    ∃ b off x, L[k]? = some x ∧ A = some ⟨b, off, none⟩ ∧ b < B ∧ w.cell? ⟨b, off + k, none⟩ = some (.int .i64 x) := by
  obtain ⟨b, off, hA, hb, hc⟩ := h.at_ hk
  exact ⟨b, off, L[k], List.getElem?_eq_getElem hk, hA, hb, by simpa using hc 0 _ rfl⟩

theorem at_c {A : Option Addr} {len c B : Nat} {C : List Int} {n : Int} {w : World} (hlen : C.length = len) (h : Rd w B 1 intC A C) :
    Calls Try.prog 37 #[.slice A len c, .int .i64 n] w fun r w' => r = .returned (.int .i64 (atZ C n)) ∧ w = w' := by
  by_cases hout : n < 0 ∨ (len : Int) ≤ n
  · have hz := Lib.hid (atZ_out (C := C) (by rw [hlen]; exact hout))
    rcases hout with hn | hn
    · go_enter Try.func37, Try.ntmps37
      go_wp2
      go_ret
      exact ⟨by rw [hz.out]; rfl, rfl⟩
    · have h0 : 0 ≤ n := by omega
      go_enter Try.func37, Try.ntmps37
      go_wp2
      go_ret
      exact ⟨by rw [hz.out]; rfl, rfl⟩
  · obtain ⟨k, rfl⟩ : ∃ k : Nat, n = k := ⟨n.toNat, by omega⟩
    have hk : k < len := by omega
    have hk' : (k : Int) < (len : Int) := by omega
    obtain ⟨b, off, x, hx, rfl, hb, hc⟩ := h.int (k := k) (by omega)
    have hz := Lib.hid (atZ_in hx)
    clear hout hx hlen
    go_enter Try.func37, Try.ntmps37
    go_wp2
    go_ret
    exact ⟨by rw [hz.out]; rfl, rfl⟩

/-! ### the closures -/
def tickG (C : List Int) (tick : Bool) (n : Int) (i : Nat) : Int := if tick = true ∧ (i : Int) = n then wrap64 (atZ C i + 1) else atZ C i
theorem tick1_any (bt bn bc : Nat) (tick : Bool) (n : Int) (A : Option Addr) (len c B : Nat) (C : List Int) (i : Nat) (w : World) (ht : Blk w bt 4 #[.bool tick]) (hn : Blk w bn 3 #[.int .i64 n]) (hc : Blk w bc 24 #[.slice A len c]) (hlen : C.length = len) (h : Rd w B 1 intC A C) :
    Calls Try.prog 43 #[.int .i64 i, .pointer (some ⟨bt, 0, none⟩), .pointer (some ⟨bn, 0, none⟩), .pointer (some ⟨bc, 0, none⟩)] w fun r w' => r = .returned (.int .i64 (tickG C tick n i)) ∧ w = w' := by
  have q0 := ht.cell 0
  have q1 := hn.cell 0
  have q2 := hc.cell 0
  simp at q0 q1 q2
  have HA := Lib.hid (at_c (n := i) (c := c) hlen h)
  clear h hlen ht hn hc
  cases tick
  · have e : tickG C false n i = atZ C i := by simp [tickG]
    rw [e]
    clear e
    go_enter Try.func43, Try.ntmps43
    go_wp2_with (go_at_call 37; refine HA.out.mono ?_; rintro r w' ⟨rfl, rfl⟩)
    go_ret
    exact ⟨rfl, rfl⟩
  · by_cases hi : (i : Int) = n
    · have e : tickG C true n i = wrap64 (atZ C i + 1) := by simp [tickG, hi]
      rw [e]
      clear e
      subst hi
      go_enter Try.func43, Try.ntmps43
      go_wp2_with (go_at_call 37; refine HA.out.mono ?_; rintro r w' ⟨rfl, rfl⟩)
      go_ret
      exact ⟨rfl, rfl⟩
    · have e : tickG C true n i = atZ C i := by simp [tickG, hi]
      rw [e]
      have b0 : ((i : Int) == n) = false := by simpa using hi
      clear e hi
      go_enter Try.func43, Try.ntmps43
      go_wp2_with (go_at_call 37; refine HA.out.mono ?_; rintro r w' ⟨rfl, rfl⟩)
      go_ret
      exact ⟨rfl, rfl⟩
def joinG (C D : List Int) (i : Nat) : Int := max (atZ C i) (atZ D i)
theorem join1_any (b1 b2 : Nat) (A1 A2 : Option Addr) (l1 c1 l2 c2 B : Nat) (C D : List Int) (i : Nat) (w : World) (h1 : Blk w b1 24 #[.slice A1 l1 c1]) (h2 : Blk w b2 24 #[.slice A2 l2 c2]) (hl1 : C.length = l1) (hl2 : D.length = l2) (r1 : Rd w B 1 intC A1 C) (r2 : Rd w B 1 intC A2 D) :
    Calls Try.prog 44 #[.int .i64 i, .pointer (some ⟨b1, 0, none⟩), .pointer (some ⟨b2, 0, none⟩)] w fun r w' => r = .returned (.int .i64 (joinG C D i)) ∧ ∃ n, w' = w.drewN n := by
  have q0 := h1.cell 0
  have q1 := h2.cell 0
  simp at q0 q1
  have HA := fun n => Lib.hid (at_c (n := i) (c := c1) (w := w.drewN n) hl1 r1)
  have HB := fun n => Lib.hid (at_c (n := i) (c := c2) (w := w.drewN n) hl2 r2)
  clear h1 h2 hl1 hl2 r1 r2
  go_enter Try.func44, Try.ntmps44
  go_wp2
  go_quiet (first | (go_at_call_of 37 (Value.slice A1 l1 c1); exact quiet_left (HA _).out) | (go_at_call_of 37 (Value.slice A2 l2 c2); exact quiet_left (HB _).out))
  go_wp2
  all_goals
    go_ret
    refine ⟨?_, _, rfl⟩
    first
      | (have e : joinG C D i = atZ D i := by unfold joinG; omega
         rw [e]; rfl)
      | (have e : joinG C D i = atZ C i := by unfold joinG; omega
         rw [e]; rfl)

/-! ### form, over either closure -/
theorem trim_succ_ne (g : Nat → Int) (n : Nat) (h : g n ≠ 0) : trim g (n + 1) = n + 1 := by unfold trim; rw [if_neg h]
theorem trim_succ_eq (g : Nat → Int) (n : Nat) (h : g n = 0) : trim g (n + 1) = trim g n := by conv => lhs; unfold trim; rw [if_pos h]
theorem flat_intC (L : List Int) : L.flatMap intC = L.map (Value.int .i64) := by
  induction L with
  | nil => rfl
  | cons x L ih => simp [intC, ih]
theorem info3 : (Try.prog.info? 3).map (fun i => (i.zero, i.size, i.bytes)) = some (some (.int .i64 0), 1, 8) := by kernel_rfl
def upL (g : Nat → Int) (k : Nat) : List Int := (List.range k).map g
theorem upL_succ (g : Nat → Int) (k : Nat) : upL g (k + 1) = upL g k ++ [g k] := by simp [upL, List.range_succ]
theorem upL_len (g : Nat → Int) (k : Nat) : (upL g k).length = k := by simp [upL]

set_option maxHeartbeats 800000 in
theorem formT (N : Nat) (g : Nat → Int) (x1 x2 x3 : Value) (w : World) (hN : N ≤ 1000000)
    (hF : ∀ W, Below w.heap.size w W → ∀ i : Nat, i < N → Calls Try.prog 43 #[.int .i64 i, x1, x2, x3] W fun r W' => r = .returned (.int .i64 (g i)) ∧ ∃ n, W' = W.drewN n) :
    Calls Try.prog 42 #[.int .i64 N, .func (.func 43) #[] #[x1, x2, x3]] w fun r w' => ∃ v, r = .returned v ∧ w'.ownsRow w.heap.size 3 1 v (formL g N).length ((formL g N).flatMap intC) ∧ Below w.heap.size w w' := by
  obtain ⟨i0, hi0, hz0, hz1, hz2⟩ := info_parts info3
  have HF := Lib.hid hF
  clear hF
  go_enter Try.func42, Try.ntmps42
  go_wp2
  go_loopw [0] (fun n wr => ∃ m : Nat, m ≤ N ∧ n = .int .i64 m ∧ trim g N = trim g m ∧ Below w.heap.size w wr) (fun n _ => (intOf n).toNat)
  case atStart => exact ⟨N, Nat.le_refl _, rfl, rfl, Below.refl _ _⟩
  case round =>
    obtain ⟨m, hm, rfl, htr, hB⟩ := hrel
    have HTR := Lib.hid htr
    clear htr
    have hnext : ∀ q : Nat, q ≤ N → trim g N = q → ∀ W, Below w.heap.size w W → True := fun _ _ _ _ _ => trivial
    clear hnext
    rcases Nat.eq_zero_or_pos m with h0 | h0
    · subst h0
      have hend := HTR.out
      have HEND := Lib.hid hend
      clear hend
      go_wp2
      refine wp_loop_rounds 1 ?_
      rw [rounds_succ]
      go_wp2
      go_ret
      have hf : formL g N = [] := by unfold formL; rw [HEND.out]; rfl
      exact ⟨_, rfl, by rw [hf]; exact World.ownsRow_nil _ _ _ _, hB⟩
    · obtain ⟨j, rfl⟩ : ∃ j, m = j + 1 := ⟨m - 1, by omega⟩
      by_cases hg0 : g j = 0
      · have HG := Lib.hid (trim_succ_eq g j hg0)
        have hcall := HF.out wr hB j (by omega)
        rw [hg0] at hcall
        clear hg0
        go_wp2_with (go_at_call 43; refine hcall.mono ?_; rintro r W' ⟨rfl, nd, rfl⟩)
        go_roundw
        case rel => exact ⟨j, by omega, by go_num, HTR.out.trans HG.out, below_drewN hB _⟩
        case measure => simp [intOf] <;> omega
      · have HG := Lib.hid (trim_succ_ne g j hg0)
        have hcall := HF.out wr hB j (by omega)
        obtain ⟨gj, hgj⟩ : ∃ x, x = g j := ⟨_, rfl⟩
        rw [← hgj] at hcall hg0
        have b0 : (gj == 0) = false := by simpa using hg0
        clear hg0 hgj
        go_wp2_with (go_at_call 43; refine hcall.mono ?_; rintro r W' ⟨rfl, nd, rfl⟩)
        have hBd := below_drewN hB nd
        clear hB
        go_loopw [5, 19] (fun v i wq => ∃ k : Nat, k ≤ j + 1 ∧ i = .int .i64 k ∧ wq.ownsRow w.heap.size 3 1 v k ((upL g k).flatMap intC) ∧ Below w.heap.size w wq) (fun _ i _ => j + 1 - (intOf i).toNat)
        case atStart => exact ⟨0, by omega, rfl, World.ownsRow_nil _ _ _ _, hBd⟩
        case round =>
          obtain ⟨k, hk, rfl, hown, hBq⟩ := hrel
          clear hBd
          by_cases hkj : k < j + 1
          · have hcall2 := HF.out wr hBq k (by omega)
            have hki : (k : Int) < (j : Int) + 1 := by omega
            obtain ⟨gk, hgk⟩ : ∃ x, x = g k := ⟨_, rfl⟩
            rw [← hgk] at hcall2
            have HGK := Lib.hid hgk
            have HOWN := Lib.hid hown
            clear hgk hown hcall
            go_wp2_with (first
              | (go_at_call 43; refine hcall2.mono ?_; rintro r W' ⟨rfl, nq, rfl⟩)
              | (at_builtin; refine wpList_append_own _ rfl _ _ 24 rfl w.heap.size 3 i0 (.int .i64 0) 1 8 Try.underlying24 hi0 hz0 hz1 hz2 rfl (by decide) _ k _ rfl (HOWN.out.alloc _) ⟨wr.heap.size, 0, none⟩ 1 1 [.int .i64 gk] rfl rfl (cell_one_new _ _ _) (intC_one gk) (by unfold maxLen; omega) (by omega) (by have := hBq.size; simp; omega) ?_; intro v' w2 hown2 hg2 _))
            have hB2 : Below w.heap.size w w2 := (((below_drewN hBq nq).alloc hBq.size _).grown hg2 (by have := hBq.size; simp; omega) (fun k e => (HOWN.out.lt k e).1))
            have hown3 : w2.ownsRow w.heap.size 3 1 v' (k + 1) ((upL g (k + 1)).flatMap intC) := by
              rw [upL_succ, List.flatMap_append, ← HGK.out]
              simpa [intC] using hown2
            clear hown2 hg2
            go_wp2
            go_roundw
            case rel => exact ⟨k + 1, by omega, by go_num, hown3, hB2⟩
            case measure => simp [intOf] <;> omega
          · obtain rfl : k = j + 1 := by omega
            go_wp2
            go_ret
            have hf : formL g N = upL g (j + 1) := by unfold formL upL; rw [HTR.out, HG.out]
            exact ⟨_, rfl, by rw [hf, upL_len]; exact hown, hBq⟩

set_option maxHeartbeats 800000 in
theorem formJ (N : Nat) (g : Nat → Int) (x1 x2 : Value) (w : World) (hN : N ≤ 1000000)
    (hF : ∀ W, Below w.heap.size w W → ∀ i : Nat, i < N → Calls Try.prog 44 #[.int .i64 i, x1, x2] W fun r W' => r = .returned (.int .i64 (g i)) ∧ ∃ n, W' = W.drewN n) :
    Calls Try.prog 42 #[.int .i64 N, .func (.func 44) #[] #[x1, x2]] w fun r w' => ∃ v, r = .returned v ∧ w'.ownsRow w.heap.size 3 1 v (formL g N).length ((formL g N).flatMap intC) ∧ Below w.heap.size w w' := by
  obtain ⟨i0, hi0, hz0, hz1, hz2⟩ := info_parts info3
  have HF := Lib.hid hF
  clear hF
  go_enter Try.func42, Try.ntmps42
  go_wp2
  go_loopw [0] (fun n wr => ∃ m : Nat, m ≤ N ∧ n = .int .i64 m ∧ trim g N = trim g m ∧ Below w.heap.size w wr) (fun n _ => (intOf n).toNat)
  case atStart => exact ⟨N, Nat.le_refl _, rfl, rfl, Below.refl _ _⟩
  case round =>
    obtain ⟨m, hm, rfl, htr, hB⟩ := hrel
    have HTR := Lib.hid htr
    clear htr
    have hnext : ∀ q : Nat, q ≤ N → trim g N = q → ∀ W, Below w.heap.size w W → True := fun _ _ _ _ _ => trivial
    clear hnext
    rcases Nat.eq_zero_or_pos m with h0 | h0
    · subst h0
      have hend := HTR.out
      have HEND := Lib.hid hend
      clear hend
      go_wp2
      refine wp_loop_rounds 1 ?_
      rw [rounds_succ]
      go_wp2
      go_ret
      have hf : formL g N = [] := by unfold formL; rw [HEND.out]; rfl
      exact ⟨_, rfl, by rw [hf]; exact World.ownsRow_nil _ _ _ _, hB⟩
    · obtain ⟨j, rfl⟩ : ∃ j, m = j + 1 := ⟨m - 1, by omega⟩
      by_cases hg0 : g j = 0
      · have HG := Lib.hid (trim_succ_eq g j hg0)
        have hcall := HF.out wr hB j (by omega)
        rw [hg0] at hcall
        clear hg0
        go_wp2_with (go_at_call 44; refine hcall.mono ?_; rintro r W' ⟨rfl, nd, rfl⟩)
        go_roundw
        case rel => exact ⟨j, by omega, by go_num, HTR.out.trans HG.out, below_drewN hB _⟩
        case measure => simp [intOf] <;> omega
      · have HG := Lib.hid (trim_succ_ne g j hg0)
        have hcall := HF.out wr hB j (by omega)
        obtain ⟨gj, hgj⟩ : ∃ x, x = g j := ⟨_, rfl⟩
        rw [← hgj] at hcall hg0
        have b0 : (gj == 0) = false := by simpa using hg0
        clear hg0 hgj
        go_wp2_with (go_at_call 44; refine hcall.mono ?_; rintro r W' ⟨rfl, nd, rfl⟩)
        have hBd := below_drewN hB nd
        clear hB
        go_loopw [5, 19] (fun v i wq => ∃ k : Nat, k ≤ j + 1 ∧ i = .int .i64 k ∧ wq.ownsRow w.heap.size 3 1 v k ((upL g k).flatMap intC) ∧ Below w.heap.size w wq) (fun _ i _ => j + 1 - (intOf i).toNat)
        case atStart => exact ⟨0, by omega, rfl, World.ownsRow_nil _ _ _ _, hBd⟩
        case round =>
          obtain ⟨k, hk, rfl, hown, hBq⟩ := hrel
          clear hBd
          by_cases hkj : k < j + 1
          · have hcall2 := HF.out wr hBq k (by omega)
            have hki : (k : Int) < (j : Int) + 1 := by omega
            obtain ⟨gk, hgk⟩ : ∃ x, x = g k := ⟨_, rfl⟩
            rw [← hgk] at hcall2
            have HGK := Lib.hid hgk
            have HOWN := Lib.hid hown
            clear hgk hown hcall
            go_wp2_with (first
              | (go_at_call 44; refine hcall2.mono ?_; rintro r W' ⟨rfl, nq, rfl⟩)
              | (at_builtin; refine wpList_append_own _ rfl _ _ 24 rfl w.heap.size 3 i0 (.int .i64 0) 1 8 Try.underlying24 hi0 hz0 hz1 hz2 rfl (by decide) _ k _ rfl (HOWN.out.alloc _) ⟨wr.heap.size, 0, none⟩ 1 1 [.int .i64 gk] rfl rfl (cell_one_new _ _ _) (intC_one gk) (by unfold maxLen; omega) (by omega) (by have := hBq.size; simp; omega) ?_; intro v' w2 hown2 hg2 _))
            have hB2 : Below w.heap.size w w2 := (((below_drewN hBq nq).alloc hBq.size _).grown hg2 (by have := hBq.size; simp; omega) (fun k e => (HOWN.out.lt k e).1))
            have hown3 : w2.ownsRow w.heap.size 3 1 v' (k + 1) ((upL g (k + 1)).flatMap intC) := by
              rw [upL_succ, List.flatMap_append, ← HGK.out]
              simpa [intC] using hown2
            clear hown2 hg2
            go_wp2
            go_roundw
            case rel => exact ⟨k + 1, by omega, by go_num, hown3, hB2⟩
            case measure => simp [intOf] <;> omega
          · obtain rfl : k = j + 1 := by omega
            go_wp2
            go_ret
            have hf : formL g N = upL g (j + 1) := by unfold formL upL; rw [HTR.out, HG.out]
            exact ⟨_, rfl, by rw [hf, upL_len]; exact hown, hBq⟩

end Go.Proofs.Ytpcjcmbhoglnfaa
