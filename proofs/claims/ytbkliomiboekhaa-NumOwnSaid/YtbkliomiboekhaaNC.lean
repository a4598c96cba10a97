/- Numbers: contracts of Mul64, times, into, rest. -/
import Derived.Test.YtbkliomiboekhaaNB
import Derived.Shelf.Bits.Mul64
namespace Go.Proofs.Ytbkliomiboekhaa
open Go.RowKit
set_option linter.unusedVariables false

set_option maxHeartbeats 1000000 in
theorem mul64_nat (x y : Nat) (hx : x < 18446744073709551616) (hy : y < 18446744073709551616) (w : World) :
    Calls Try.prog 43 #[.int .u64 x, .int .u64 y] w fun e w' => e = .returned (.tuple #[.int .u64 ((x * y / 18446744073709551616 : Nat) : Int), .int .u64 ((x * y % 18446744073709551616 : Nat) : Int)]) ∧ w = w' := by
  obtain ⟨bd, bt, bw, hhi⟩ := Lib.mul64_hi x y hx hy
  have ba := Lib.half_mul_le (a := x / 4294967296) (b := y / 4294967296) (by omega) (by omega)
  have bb := Lib.half_mul_le (a := x / 4294967296) (b := y % 4294967296) (by omega) (by omega)
  have bc := Lib.half_mul_le (a := x % 4294967296) (b := y / 4294967296) (by omega) (by omega)
  have ba' : x / 4294967296 * (y / 4294967296) < 18446744073709551616 := by omega
  have bb' : x / 4294967296 * (y % 4294967296) < 18446744073709551616 := by omega
  have bc' : x % 4294967296 * (y / 4294967296) < 18446744073709551616 := by omega
  have bh1 : x / 4294967296 * (y / 4294967296) + (x / 4294967296 * (y % 4294967296) + x % 4294967296 * (y % 4294967296) / 4294967296) / 4294967296 < 18446744073709551616 := by omega
  have bh : x / 4294967296 * (y / 4294967296) + (x / 4294967296 * (y % 4294967296) + x % 4294967296 * (y % 4294967296) / 4294967296) / 4294967296 + ((x / 4294967296 * (y % 4294967296) + x % 4294967296 * (y % 4294967296) / 4294967296) % 4294967296 + x % 4294967296 * (y / 4294967296)) / 4294967296 < 18446744073709551616 := by omega
  go_enter Try.func43, Try.ntmps43
  go_wp2
  simp only [Mul64.maskN x hx, Mul64.maskN y hy, Mul64.divN, Mul64.mulN, Mul64.addN, Mul64.wrapN _ bd, Mul64.wrapN _ bb', Mul64.wrapN _ bt, Mul64.maskN _ bt, Mul64.wrapN _ bc', Mul64.wrapN _ bw, Mul64.wrapN _ ba', Mul64.wrapN _ bh1, Mul64.wrapN _ bh, Mul64.wrapM (x * y)]
  rw [hhi]
  go_ret2
  exact ⟨rfl, rfl⟩
theorem mul64_any (x y : Int) (hx : Sz x) (hy : Sz y) (w : World) :
    Calls Try.prog 43 #[.int .u64 x, .int .u64 y] w fun e w' => e = .returned (.tuple #[.int .u64 (x * y / 18446744073709551616), .int .u64 (x * y % 18446744073709551616)]) ∧ w = w' := by
  obtain ⟨x0, x1⟩ := hx
  obtain ⟨y0, y1⟩ := hy
  obtain ⟨X, rfl⟩ := Int.eq_ofNat_of_zero_le x0
  obtain ⟨Y, rfl⟩ := Int.eq_ofNat_of_zero_le y0
  refine (mul64_nat X Y (by omega) (by omega) w).mono ?_
  rintro e w' ⟨rfl, rfl⟩
  exact ⟨by simp, rfl⟩

theorem times_val {l m : Bool} {s t p : Int} (h : s * t = p) : sv l s * sv m t = sv (l != m) p := by
  subst h
  cases l <;> cases m <;> simp [sv, Int.neg_mul, Int.mul_neg]
theorem sv_zero (l : Bool) : sv l 0 = 0 := by cases l <;> simp [sv]

set_option maxHeartbeats 1000000 in
/-- times -/
theorem times_any (l m : Bool) (s t : Int) (w : World) (hs : Sz s) (ht : Sz t) :
    Calls Try.prog 33 #[.agg #[.bool l, .int .u64 s], .agg #[.bool m, .int .u64 t]] w (Outc (sv l s * sv m t) w) := by
  have hp0 : 0 ≤ s * t := Int.mul_nonneg hs.1 ht.1
  obtain ⟨p, hp⟩ : ∃ p, p = s * t := ⟨_, rfl⟩
  have hc := fun w => mul64_any s t hs ht w
  rw [times_val hp.symm]
  rw [← hp] at hp0 hc
  clear hp hs ht
  by_cases hf : p < 18446744073709551616
  · have e1 : p / 18446744073709551616 = 0 := by omega
    have e2 : p % 18446744073709551616 = p := by omega
    simp only [e1, e2] at hc
    have SZ := Lib.hid (show Sz p from ⟨by omega, by omega⟩)
    clear e1 e2
    by_cases h0 : p = 0
    · subst h0
      have V := Lib.hid (show sv false 0 = sv (l != m) 0 by rw [sv_zero, sv_zero])
      have HC := Lib.hid hc
      clear hc hf
      go_enter Try.func33, Try.ntmps33
      cases l <;> cases m
      all_goals
        go_wp2_with (go_at_call 43; refine (HC.out _).mono ?_; rintro r w' ⟨rfl, rfl⟩)
        refine bodyPost_ret (v := .tuple #[.agg #[.bool false, .int .u64 0], .bool true]) (by simp [results, Try.results33, go_sem]) rfl ?_
        exact Outc.yes _ _ rfl SZ.out V.out (by go_simp; exact bel3 _ _ _ _)
    · have d1 : decide (0 < p) = true := decide_eq_true (by omega)
      have HC := Lib.hid hc
      clear hc hf hp0 h0
      go_enter Try.func33, Try.ntmps33
      cases l <;> cases m
      all_goals
        go_wp2_with (go_at_call 43; refine (HC.out _).mono ?_; rintro r w' ⟨rfl, rfl⟩)
        refine bodyPost_ret (v := .tuple #[.agg #[.bool _, .int .u64 p], .bool true]) (by simp [results, Try.results33, go_sem]; rfl) rfl ?_
        exact Outc.yes _ _ rfl SZ.out rfl (by go_simp; exact bel3 _ _ _ _)
  · obtain ⟨q, hq⟩ : ∃ q, q = p % 18446744073709551616 := ⟨_, rfl⟩
    obtain ⟨u, hu⟩ : ∃ u, u = p / 18446744073709551616 := ⟨_, rfl⟩
    have SZ := Lib.hid (show Sz q from ⟨by omega, by omega⟩)
    have hu1 : (u == 0) = false := by rw [beq_eq_false_iff_ne]; omega
    have OUT := Lib.hid (show Far (sv (l != m) p) by unfold Far; cases (l != m) <;> simp [sv] <;> omega)
    simp only [← hq, ← hu] at hc
    have hq0 : 0 ≤ q := by omega
    clear hq hu hf hp0
    have HC := Lib.hid hc
    clear hc
    have hd : ∃ d, decide (0 < q) = d := ⟨_, rfl⟩
    obtain ⟨d, hd⟩ := hd
    clear hq0
    cases d
    all_goals
      cases l <;> cases m
      all_goals
        go_enter Try.func33, Try.ntmps33
        go_wp2_with (go_at_call 43; refine (HC.out _).mono ?_; rintro r w' ⟨rfl, rfl⟩)
        refine bodyPost_ret (v := .tuple #[.agg #[.bool _, .int .u64 q], .bool false]) (by simp [results, Try.results33, go_sem]; rfl) rfl ?_
        exact Outc.no _ _ rfl SZ.out OUT.out (by go_simp; exact bel3 _ _ _ _)
end Go.Proofs.Ytbkliomiboekhaa
