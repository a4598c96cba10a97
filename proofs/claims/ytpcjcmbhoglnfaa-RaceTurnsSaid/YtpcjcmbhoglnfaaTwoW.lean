/- RaceTwo: the walk. -/
import Derived.Test.YtpcjcmbhoglnfaaBa
namespace Go.Proofs.Ytpcjcmbhoglnfaa
open Go.RowKit
set_option linter.unusedVariables false
set_option linter.unusedSimpArgs false

theorem u64_rem (a : Int) (n : Nat) (hn : 0 < n) : ∃ p : Nat, p < n ∧ (IntKind.u64.wrap a).tmod (n : Int) = (p : Int) := by
  have h0 : 0 ≤ IntKind.u64.wrap a := by
    simp only [IntKind.wrap, IntKind.bits, IntKind.signed]
    simp
    omega
  obtain ⟨u, hu⟩ : ∃ u : Nat, IntKind.u64.wrap a = u := ⟨_, (Int.toNat_of_nonneg h0).symm⟩
  refine ⟨u % n, Nat.mod_lt _ hn, ?_⟩
  rw [hu]
  exact (Int.ofNat_tmod u n).symm
theorem info26 : (Try.prog.info? 26).map (fun i => (i.zero, i.size, i.bytes)) = some (some (.agg #[.int .u8 0, .int .i64 0, .int .i64 0, .slice none 0 0]), 4, 48) := by kernel_rfl
theorem evC_one (x : Ev) : ∀ u ∈ evC x, u.oneCell' = true := by intro u hu; simp [evC] at hu; rcases hu with rfl | rfl | rfl | rfl <;> rfl
theorem EvRow.own {w : World} {B n : Nat} {v : Value} {L : List Ev} (h : w.ownsRow B 26 4 v n (L.flatMap evC)) (hl : L.length = n) (h3 : n ≤ 300) (ok : ∀ x ∈ L, EvOk w w.heap.size x) (hp : ∀ x ∈ L, x.path.length ≤ 1000000) : ∃ A c, v = .slice A n c ∧ EvRow w A n c L := by
  subst hl
  obtain ⟨A, c, e, hr, hc, _⟩ := own_rd evC_len h
  exact ⟨A, c, e, rfl, h3, hr, ok, hp, hc⟩
theorem EvOk.nil {w : World} {B : Nat} {k t i : Int} (hk : (Lit.int .u8 k).wf = true) (ht : (Lit.int .i64 t).wf = true) (hi : (Lit.int .i64 i).wf = true) : EvOk w B ⟨k, t, i, none, 0, []⟩ :=
  ⟨hk, ht, hi, .inl rfl, by simp, by simp, by simp [maxLen]⟩
def twoL (p q : Nat) (b : Bool) : List Ev := [⟨7, 0, 1, none, 0, []⟩, ⟨7, 0, 2, none, 0, []⟩, ⟨2, 1, 9, none, 0, []⟩] ++ (if b then [⟨6, 1, p, none, 0, []⟩, ⟨5, 2, q, none, 0, []⟩] else [⟨5, 2, q, none, 0, []⟩, ⟨6, 1, p, none, 0, []⟩]) ++ [⟨2, 2, 9, none, 0, []⟩]
theorem two_all : ∀ (p q : Fin 4) (b : Bool), errL (twoL p q b) = 0 ∧ firstIs (twoL p q b) = !(b && decide (p.val = q.val)) ∧ firstAt (twoL p q b) = (if b && decide (p.val = q.val) then 0 else 5) ∧ firstWith (twoL p q b) = (if b && decide (p.val = q.val) then 0 else 2) := by decide +kernel
theorem two_ok (p q : Nat) (hp : p < 4) (hq : q < 4) (b : Bool) (w : World) : (∀ x ∈ twoL p q b, EvOk w w.heap.size x) ∧ ∀ x ∈ twoL p q b, x.path.length ≤ 1000000 := by
  have wp : (Lit.int .i64 (p : Int)).wf = true := by simp [Lit.wf, IntKind.min, IntKind.max, IntKind.signed, IntKind.bits]; omega
  have wq : (Lit.int .i64 (q : Int)).wf = true := by simp [Lit.wf, IntKind.min, IntKind.max, IntKind.signed, IntKind.bits]; omega
  unfold twoL
  cases b
  all_goals
    constructor
    · intro x hx
      simp at hx
      rcases hx with rfl | rfl | rfl | rfl | rfl | rfl
      all_goals exact EvOk.nil (by decide) (by decide) (by first | assumption | decide)
    · intro x hx
      simp at hx
      rcases hx with rfl | rfl | rfl | rfl | rfl | rfl
      all_goals simp

set_option maxRecDepth 100000 in
set_option maxHeartbeats 6400000 in
theorem raceTwo_walk (a0 a1 : Int) (a2 : Bool) (w : World) (i0 : (Lit.int .i64 a0).wf = true) (i1 : (Lit.int .i64 a1).wf = true) :
    Calls Try.prog 6 #[.int .i64 a0, .int .i64 a1, .bool a2] w fun r w' => r = .returned (.bool true) ∧ Below w.heap.size w w' := by
  clear i0 i1
  obtain ⟨p, hp, ep⟩ := u64_rem a0 4 (by omega)
  obtain ⟨q, hq, eq⟩ := u64_rem a1 4 (by omega)
  obtain ⟨i0, hi0, hz0, hz1, hz2⟩ := info_parts info26
  have ep : (IntKind.u64.wrap a0).tmod 4 = (p : Int) := ep
  have eq : (IntKind.u64.wrap a1).tmod 4 = (q : Int) := eq
  cases a2
  · have hall := two_all ⟨p, hp⟩ ⟨q, hq⟩ false
    have hok := two_ok p q hp hq false
    have HALL := Lib.hid hall
    have HOK := Lib.hid hok
    clear hall hok
    have hl3 := World.ownsRow_lit (base := w.heap.size) (e := 26) (size := 4) w #[.int .u8 7, .int .i64 0, .int .i64 1, .slice none 0 0, .int .u8 7, .int .i64 0, .int .i64 2, .slice none 0 0, .int .u8 2, .int .i64 1, .int .i64 9, .slice none 0 0] 3 (Nat.le_refl _) (by unfold maxLen; omega) rfl
    have HL3 := Lib.hid hl3
    clear hl3
    have hRD : ∀ o1 o2 o3 : Obj, Rd ((((w.alloc o1).alloc o2).alloc o3).alloc (.cells #[.int .u8 5, .int .i64 2, .int .i64 q, .slice none 0 0, .int .u8 6, .int .i64 1, .int .i64 p, .slice none 0 0] 26)) (w.heap.size + 1 + 1 + 1 + 1) 4 evC (some ⟨w.heap.size + 1 + 1 + 1, 0, none⟩) [⟨5, 2, q, none, 0, []⟩, ⟨6, 1, p, none, 0, []⟩] := by
      intro o1 o2 o3
      have h := Rd.lit evC_len (((w.alloc o1).alloc o2).alloc o3) 26 [⟨5, 2, q, none, 0, []⟩, ⟨6, 1, p, none, 0, []⟩] #[.int .u8 5, .int .i64 2, .int .i64 q, .slice none 0 0, .int .u8 6, .int .i64 1, .int .i64 p, .slice none 0 0] rfl
      simp only [World.size_alloc] at h
      exact h
    have HRD := Lib.hid hRD
    clear hRD
    go_enter Try.func6, Try.ntmps6
    go_wp2_with (at_builtin; go_loud (refine wpList_append_rd _ rfl _ _ 22 rfl w.heap.size 26 i0 (.agg #[.int .u8 0, .int .i64 0, .int .i64 0, .slice none 0 0]) 4 48 Try.underlying22 hi0 hz0 hz1 hz2 rfl (by decide) _ 3 _ rfl (((HL3.out.alloc _).alloc _).alloc _) _ _ 2 _ evC evC_len evC_one [⟨5, 2, q, none, 0, []⟩, ⟨6, 1, p, none, 0, []⟩] rfl rfl (HRD.out _ _ _) (by unfold maxLen; omega) (by omega) (by simp; omega) ?_))
    intro v5 w5 hown5 hg5 hx5
    have hbl5 : Below w.heap.size w w5 := (((((Below.refl _ w).alloc (Nat.le_refl _) _).alloc (by simp) _).alloc (by simp; omega) _).alloc (by simp; omega) _).grown hg5 (by simp; omega) (fun q e => Nat.le_of_eq (by simpa [Value.ownBlock] using e))
    obtain ⟨g5, c5, rfl⟩ := own_succ hown5
    have HB5 := Lib.hid hbl5
    have HO5 := Lib.hid hown5
    clear hown5 hbl5 hg5 hx5
    go_wp2_with (at_builtin; go_loud (refine wpList_append_rd _ rfl _ _ 22 rfl w.heap.size 26 i0 (.agg #[.int .u8 0, .int .i64 0, .int .i64 0, .slice none 0 0]) 4 48 Try.underlying22 hi0 hz0 hz1 hz2 rfl (by decide) _ 5 _ rfl (HO5.out.alloc _) _ _ 1 _ evC evC_len evC_one [⟨2, 2, 9, none, 0, []⟩] rfl rfl (Rd.lit evC_len _ 26 [⟨2, 2, 9, none, 0, []⟩] #[.int .u8 2, .int .i64 2, .int .i64 9, .slice none 0 0] rfl) (by unfold maxLen; omega) (by omega) (by have := HB5.out.size; simp; omega) ?_))
    intro v6 w6 hown6 hg6 hx6
    have hbl6 : Below w.heap.size w w6 := (HB5.out.alloc HB5.out.size _).grown hg6 (by have := HB5.out.size; simp; omega) (fun q e => (HO5.out.lt q e).1)
    have hown7 : w6.ownsRow w.heap.size 26 4 v6 6 ((twoL p q false).flatMap evC) := hown6
    obtain ⟨A6, c6, rfl, hrow⟩ := EvRow.own hown7 rfl (by omega) (HOK.out w6).1 (HOK.out w6).2
    have hf := first_any _ _ _ _ hrow
    obtain ⟨h1, h2, h3, h4⟩ := HALL.out
    have HB6 := Lib.hid hbl6
    by_cases hpq : p = q
    · subst hpq
      simp at h1 h2 h3 h4
      rw [h1, h2, h3, h4] at hf
      have HF := Lib.hid hf
      clear hown6 hown7 hbl6 hg6 hx6 hrow hf h1 h2 h3 h4 HALL HOK
      go_wp2_with fail
      refine HF.out.mono ?_
      rintro r w7 ⟨rfl, hb7⟩
      have HB7 := Lib.hid (HB6.out.trans (hb7.mono HB6.out.size))
      clear hb7 HF
      go_wp2_with fail
      refine (awake_any _).mono ?_
      rintro r w8 ⟨rfl, hb8⟩
      have HB8 := Lib.hid (HB7.out.trans (hb8.mono HB7.out.size))
      clear hb8
      go_wp2
      go_ret
      exact ⟨rfl, HB8.out⟩
    · have zpq : ¬ ((p : Int) = (q : Int)) := by omega
      have zpd : ((p : Int) == (q : Int)) = false := by rw [beq_eq_false_iff_ne]; exact zpq
      simp [hpq] at h1 h2 h3 h4
      rw [h1, h2, h3, h4] at hf
      have HF := Lib.hid hf
      clear hpq
      clear hown6 hown7 hbl6 hg6 hx6 hrow hf h1 h2 h3 h4 HALL HOK
      go_wp2_with fail
      refine HF.out.mono ?_
      rintro r w7 ⟨rfl, hb7⟩
      have HB7 := Lib.hid (HB6.out.trans (hb7.mono HB6.out.size))
      clear hb7 HF
      go_wp2_with fail
      refine (awake_any _).mono ?_
      rintro r w8 ⟨rfl, hb8⟩
      have HB8 := Lib.hid (HB7.out.trans (hb8.mono HB7.out.size))
      clear hb8
      go_wp2
      go_ret
      exact ⟨rfl, HB8.out⟩
  · have hall := two_all ⟨p, hp⟩ ⟨q, hq⟩ true
    have hok := two_ok p q hp hq true
    have HALL := Lib.hid hall
    have HOK := Lib.hid hok
    clear hall hok
    have hl3 := World.ownsRow_lit (base := w.heap.size) (e := 26) (size := 4) w #[.int .u8 7, .int .i64 0, .int .i64 1, .slice none 0 0, .int .u8 7, .int .i64 0, .int .i64 2, .slice none 0 0, .int .u8 2, .int .i64 1, .int .i64 9, .slice none 0 0] 3 (Nat.le_refl _) (by unfold maxLen; omega) rfl
    have HL3 := Lib.hid hl3
    clear hl3
    have hRD : ∀ o1 o2 o3 : Obj, Rd ((((w.alloc o1).alloc o2).alloc o3).alloc (.cells #[.int .u8 6, .int .i64 1, .int .i64 p, .slice none 0 0, .int .u8 5, .int .i64 2, .int .i64 q, .slice none 0 0] 26)) (w.heap.size + 1 + 1 + 1 + 1) 4 evC (some ⟨w.heap.size + 1 + 1 + 1, 0, none⟩) [⟨6, 1, p, none, 0, []⟩, ⟨5, 2, q, none, 0, []⟩] := by
      intro o1 o2 o3
      have h := Rd.lit evC_len (((w.alloc o1).alloc o2).alloc o3) 26 [⟨6, 1, p, none, 0, []⟩, ⟨5, 2, q, none, 0, []⟩] #[.int .u8 6, .int .i64 1, .int .i64 p, .slice none 0 0, .int .u8 5, .int .i64 2, .int .i64 q, .slice none 0 0] rfl
      simp only [World.size_alloc] at h
      exact h
    have HRD := Lib.hid hRD
    clear hRD
    go_enter Try.func6, Try.ntmps6
    go_wp2_with (at_builtin; go_loud (refine wpList_append_rd _ rfl _ _ 22 rfl w.heap.size 26 i0 (.agg #[.int .u8 0, .int .i64 0, .int .i64 0, .slice none 0 0]) 4 48 Try.underlying22 hi0 hz0 hz1 hz2 rfl (by decide) _ 3 _ rfl (((HL3.out.alloc _).alloc _).alloc _) _ _ 2 _ evC evC_len evC_one [⟨6, 1, p, none, 0, []⟩, ⟨5, 2, q, none, 0, []⟩] rfl rfl (HRD.out _ _ _) (by unfold maxLen; omega) (by omega) (by simp; omega) ?_))
    intro v5 w5 hown5 hg5 hx5
    have hbl5 : Below w.heap.size w w5 := (((((Below.refl _ w).alloc (Nat.le_refl _) _).alloc (by simp) _).alloc (by simp; omega) _).alloc (by simp; omega) _).grown hg5 (by simp; omega) (fun q e => Nat.le_of_eq (by simpa [Value.ownBlock] using e))
    obtain ⟨g5, c5, rfl⟩ := own_succ hown5
    have HB5 := Lib.hid hbl5
    have HO5 := Lib.hid hown5
    clear hown5 hbl5 hg5 hx5
    go_wp2_with (at_builtin; go_loud (refine wpList_append_rd _ rfl _ _ 22 rfl w.heap.size 26 i0 (.agg #[.int .u8 0, .int .i64 0, .int .i64 0, .slice none 0 0]) 4 48 Try.underlying22 hi0 hz0 hz1 hz2 rfl (by decide) _ 5 _ rfl (HO5.out.alloc _) _ _ 1 _ evC evC_len evC_one [⟨2, 2, 9, none, 0, []⟩] rfl rfl (Rd.lit evC_len _ 26 [⟨2, 2, 9, none, 0, []⟩] #[.int .u8 2, .int .i64 2, .int .i64 9, .slice none 0 0] rfl) (by unfold maxLen; omega) (by omega) (by have := HB5.out.size; simp; omega) ?_))
    intro v6 w6 hown6 hg6 hx6
    have hbl6 : Below w.heap.size w w6 := (HB5.out.alloc HB5.out.size _).grown hg6 (by have := HB5.out.size; simp; omega) (fun q e => (HO5.out.lt q e).1)
    have hown7 : w6.ownsRow w.heap.size 26 4 v6 6 ((twoL p q true).flatMap evC) := hown6
    obtain ⟨A6, c6, rfl, hrow⟩ := EvRow.own hown7 rfl (by omega) (HOK.out w6).1 (HOK.out w6).2
    have hf := first_any _ _ _ _ hrow
    obtain ⟨h1, h2, h3, h4⟩ := HALL.out
    have HB6 := Lib.hid hbl6
    by_cases hpq : p = q
    · subst hpq
      simp at h1 h2 h3 h4
      rw [h1, h2, h3, h4] at hf
      have HF := Lib.hid hf
      clear hown6 hown7 hbl6 hg6 hx6 hrow hf h1 h2 h3 h4 HALL HOK
      go_wp2_with fail
      refine HF.out.mono ?_
      rintro r w7 ⟨rfl, hb7⟩
      have HB7 := Lib.hid (HB6.out.trans (hb7.mono HB6.out.size))
      clear hb7 HF
      go_wp2_with fail
      refine (awake_any _).mono ?_
      rintro r w8 ⟨rfl, hb8⟩
      have HB8 := Lib.hid (HB7.out.trans (hb8.mono HB7.out.size))
      clear hb8
      go_wp2
      go_ret
      exact ⟨rfl, HB8.out⟩
    · have zpq : ¬ ((p : Int) = (q : Int)) := by omega
      have zpd : ((p : Int) == (q : Int)) = false := by rw [beq_eq_false_iff_ne]; exact zpq
      simp [hpq] at h1 h2 h3 h4
      rw [h1, h2, h3, h4] at hf
      have HF := Lib.hid hf
      clear hpq
      clear hown6 hown7 hbl6 hg6 hx6 hrow hf h1 h2 h3 h4 HALL HOK
      go_wp2_with fail
      refine HF.out.mono ?_
      rintro r w7 ⟨rfl, hb7⟩
      have HB7 := Lib.hid (HB6.out.trans (hb7.mono HB6.out.size))
      clear hb7 HF
      go_wp2_with fail
      refine (awake_any _).mono ?_
      rintro r w8 ⟨rfl, hb8⟩
      have HB8 := Lib.hid (HB7.out.trans (hb8.mono HB7.out.size))
      clear hb8
      go_wp2
      go_ret
      exact ⟨rfl, HB8.out⟩
end Go.Proofs.Ytpcjcmbhoglnfaa
