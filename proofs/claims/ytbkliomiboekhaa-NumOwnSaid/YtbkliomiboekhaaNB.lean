/- Numbers: contracts of plus, less. -/
import Derived.Test.YtbkliomiboekhaaNA
import Derived.Deep.RegionWith
import Derived.Deep.RegionHeld3
namespace Go.Proofs.Ytbkliomiboekhaa
open Go.RowKit
set_option linter.unusedVariables false

theorem plus_sum {l : Bool} {s t : Int} : sv l s + sv l t = sv l (s + t) := by cases l <;> simp [sv]; omega
set_option maxHeartbeats 1000000 in
theorem plus_same (l : Bool) (s t : Int) (w : World) (hs : Sz s) (ht : Sz t) :
    Calls Try.prog 31 #[.agg #[.bool l, .int .u64 s], .agg #[.bool l, .int .u64 t]] w (Outc (sv l s + sv l t) w) := by
  obtain ⟨s0, s1⟩ := hs
  obtain ⟨t0, t1⟩ := ht
  rw [plus_sum]
  have hadd := fun w => add64_0 s t s0 s1 t0 t1 w
  by_cases hf : s + t < 18446744073709551616
  · have e1 : (s + t) % 18446744073709551616 = s + t := by omega
    have e2 : (s + t) / 18446744073709551616 = 0 := by omega
    have SZ := Lib.hid (show Sz (s + t) from ⟨by omega, by omega⟩)
    simp only [e1, e2] at hadd
    clear s0 s1 t0 t1 hf e1 e2
    go_enter Try.func31, Try.ntmps31
    cases l
    all_goals
      go_wp2_with (simp only [hadd])
      refine bodyPost_ret (v := .tuple #[.agg #[.bool _, .int .u64 (s + t)], .bool true]) (by simp [results, Try.results31, go_sem]; rfl) rfl ?_
      exact Outc.yes _ _ rfl SZ.out rfl (bel3 _ _ _ _)
  · have e2 : (s + t) / 18446744073709551616 = 1 := by omega
    have SZ := Lib.hid (show Sz ((s + t) % 18446744073709551616) from ⟨by omega, by omega⟩)
    have OUT := Lib.hid (show Far (sv l (s + t)) by unfold Far; cases l <;> simp [sv] <;> omega)
    simp only [e2] at hadd
    clear s0 s1 t0 t1 hf e2
    go_enter Try.func31, Try.ntmps31
    cases l
    all_goals
      go_wp2_with (simp only [hadd])
      refine bodyPost_ret (v := .tuple #[.agg #[.bool _, .int .u64 ((s + t) % 18446744073709551616)], .bool false]) (by simp [results, Try.results31, go_sem]; rfl) rfl ?_
      exact Outc.no _ _ rfl SZ.out OUT.out (bel3 _ _ _ _)

set_option maxHeartbeats 1000000 in
theorem plus_diff (l m : Bool) (s t : Int) (w : World) (hs : Sz s) (ht : Sz t) (hlm : m = !l) :
    Calls Try.prog 31 #[.agg #[.bool l, .int .u64 s], .agg #[.bool m, .int .u64 t]] w (Outc (sv l s + sv m t) w) := by
  subst hlm
  obtain ⟨s0, s1⟩ := hs
  obtain ⟨t0, t1⟩ := ht
  rcases Int.lt_trichotomy s t with hlt | heq | hgt
  · have d1 : decide (s < t) = true := decide_eq_true hlt
    have SZ := Lib.hid (show Sz (t - s) from ⟨by omega, by omega⟩)
    have E := Lib.hid (show IntKind.u64.wrap (t - s) = t - s by rw [IntKind.wrap_u64]; omega)
    have V := Lib.hid (show sv (!l) (t - s) = sv l s + sv (!l) t by cases l <;> simp [sv] <;> omega)
    clear s0 s1 t0 t1
    go_enter Try.func31, Try.ntmps31
    cases l
    all_goals
      go_wp2
      refine bodyPost_ret (v := .tuple #[.agg #[.bool _, .int .u64 (t - s)], .bool true]) (by simp [results, Try.results31, go_sem, E.out]; rfl) rfl ?_
      exact Outc.yes _ _ rfl SZ.out V.out (by go_simp; exact bel3 _ _ _ _)
  · subst heq
    have d1 : decide (s < s) = false := decide_eq_false (Int.lt_irrefl s)
    have V := Lib.hid (show sv false 0 = sv l s + sv (!l) s by cases l <;> simp [sv] <;> omega)
    have SZ := Lib.hid (show Sz 0 from ⟨by omega, by omega⟩)
    clear s0 s1 t0 t1
    go_enter Try.func31, Try.ntmps31
    cases l
    all_goals
      go_wp2
      refine bodyPost_ret (v := .tuple #[.agg #[.bool false, .int .u64 0], .bool true]) (by simp [results, Try.results31, go_sem]) rfl ?_
      exact Outc.yes _ _ rfl SZ.out V.out (by go_simp; exact bel3 _ _ _ _)
  · have d1 : decide (s < t) = false := decide_eq_false (by omega)
    have d2 : decide (t < s) = true := decide_eq_true hgt
    have SZ := Lib.hid (show Sz (s - t) from ⟨by omega, by omega⟩)
    have E := Lib.hid (show IntKind.u64.wrap (s - t) = s - t by rw [IntKind.wrap_u64]; omega)
    have V := Lib.hid (show sv l (s - t) = sv l s + sv (!l) t by cases l <;> simp [sv] <;> omega)
    clear s0 s1 t0 t1
    go_enter Try.func31, Try.ntmps31
    cases l
    all_goals
      go_wp2
      refine bodyPost_ret (v := .tuple #[.agg #[.bool _, .int .u64 (s - t)], .bool true]) (by simp [results, Try.results31, go_sem, E.out]; rfl) rfl ?_
      exact Outc.yes _ _ rfl SZ.out V.out (by go_simp; exact bel3 _ _ _ _)
theorem plus_any (l m : Bool) (s t : Int) (w : World) (hs : Sz s) (ht : Sz t) :
    Calls Try.prog 31 #[.agg #[.bool l, .int .u64 s], .agg #[.bool m, .int .u64 t]] w (Outc (sv l s + sv m t) w) := by
  by_cases h : m = l
  · subst h; exact plus_same m s t w hs ht
  · exact plus_diff l m s t w hs ht (by cases l <;> cases m <;> simp_all)

theorem bcell {W w1 : World} (hb : Below W.heap.size W w1) : (∀ b o, b < W.heap.size → w1.cell? ⟨b, o, none⟩ = W.cell? ⟨b, o, none⟩) ∧ (∀ b o, b < W.heap.size → w1.frozen? ⟨b, o, none⟩ = W.frozen? ⟨b, o, none⟩) :=
  ⟨fun b o h => hb.cell (p := ⟨b, o, none⟩) h, fun b o h => hb.frozen (p := ⟨b, o, none⟩) h⟩

def Trip (w : World) (l : Bool) (s : Int) (m : Bool) (t : Int) (W : World) : Prop :=
  (W.cell? ⟨w.heap.size, 0, none⟩ = some (.bool l) ∧ W.cell? ⟨w.heap.size, 1, none⟩ = some (.int .u64 s) ∧ W.cell? ⟨w.heap.size + 1, 0, none⟩ = some (.bool m) ∧ W.cell? ⟨w.heap.size + 1, 1, none⟩ = some (.int .u64 t)) ∧
    Blk W (w.heap.size + 1 + 1) 46 #[.bool false, .int .u64 0] ∧ w.heap.size + 1 + 1 < W.heap.size ∧ Below w.heap.size w W
theorem Trip.start (w : World) (l : Bool) (s : Int) (m : Bool) (t : Int) : Trip w l s m t (((w.alloc (.cells #[.bool l, .int .u64 s] 46)).alloc (.cells #[.bool m, .int .u64 t] 46)).alloc (.cells #[.bool false, .int .u64 0] 46)) := by
  have h1 : Blk (((w.alloc (.cells #[.bool l, .int .u64 s] 46)).alloc (.cells #[.bool m, .int .u64 t] 46)).alloc (.cells #[.bool false, .int .u64 0] 46)) w.heap.size 46 #[.bool l, .int .u64 s] := ((Blk.new w _ _).alloc _).alloc _
  have h2 : Blk (((w.alloc (.cells #[.bool l, .int .u64 s] 46)).alloc (.cells #[.bool m, .int .u64 t] 46)).alloc (.cells #[.bool false, .int .u64 0] 46)) (w.heap.size + 1) 46 #[.bool m, .int .u64 t] := by
    have := (Blk.new (w.alloc (.cells #[.bool l, .int .u64 s] 46)) 46 #[.bool m, .int .u64 t]).alloc (.cells #[.bool false, .int .u64 0] 46)
    rwa [World.size_alloc] at this
  have h3 : Blk (((w.alloc (.cells #[.bool l, .int .u64 s] 46)).alloc (.cells #[.bool m, .int .u64 t] 46)).alloc (.cells #[.bool false, .int .u64 0] 46)) (w.heap.size + 1 + 1) 46 #[.bool false, .int .u64 0] := by
    have := Blk.new ((w.alloc (.cells #[.bool l, .int .u64 s] 46)).alloc (.cells #[.bool m, .int .u64 t] 46)) 46 #[.bool false, .int .u64 0]
    rwa [World.size_alloc, World.size_alloc] at this
  exact ⟨⟨h1.cell 0, h1.cell 1, h2.cell 0, h2.cell 1⟩, h3, h3.lt, bel3 _ _ _ _⟩
theorem Trip.drew {w : World} {l : Bool} {s : Int} {m : Bool} {t : Int} {W : World} (h : Trip w l s m t W) : Trip w l s m t W.drew := ⟨h.1, h.2.1, h.2.2.1, h.2.2.2.drew⟩
theorem Trip.keep {w : World} {l : Bool} {s : Int} {m : Bool} {t : Int} {W w1 : World} (h : Trip w l s m t W) (hb : Below W.heap.size W w1) : Trip w l s m t w1 := by
  obtain ⟨⟨h1, h2, h3, h4⟩, h5, h6, h7⟩ := h
  exact ⟨⟨(hb.cell (by show w.heap.size < W.heap.size; omega)).trans h1, (hb.cell (by show w.heap.size < W.heap.size; omega)).trans h2, (hb.cell (by show w.heap.size + 1 < W.heap.size; omega)).trans h3, (hb.cell (by show w.heap.size + 1 < W.heap.size; omega)).trans h4⟩,
    h5.below hb h6, Nat.lt_of_lt_of_le h6 hb.size, h7.trans (hb.mono (by omega))⟩

theorem Trip.far {w : World} {l : Bool} {s : Int} {m : Bool} {t : Int} {W : World} (h : Trip w l s m t W) (u v : Value) :
    (((W.setCell ⟨w.heap.size + 1 + 1, 0, none⟩ u).setCell ⟨w.heap.size + 1 + 1, 1, none⟩ v).cell? ⟨w.heap.size, 0, none⟩ = some (.bool l) ∧ ((W.setCell ⟨w.heap.size + 1 + 1, 0, none⟩ u).setCell ⟨w.heap.size + 1 + 1, 1, none⟩ v).cell? ⟨w.heap.size, 1, none⟩ = some (.int .u64 s) ∧
      ((W.setCell ⟨w.heap.size + 1 + 1, 0, none⟩ u).setCell ⟨w.heap.size + 1 + 1, 1, none⟩ v).cell? ⟨w.heap.size + 1, 0, none⟩ = some (.bool m) ∧ ((W.setCell ⟨w.heap.size + 1 + 1, 0, none⟩ u).setCell ⟨w.heap.size + 1 + 1, 1, none⟩ v).cell? ⟨w.heap.size + 1, 1, none⟩ = some (.int .u64 t)) := by
  obtain ⟨⟨h1, h2, h3, h4⟩, _⟩ := h
  refine ⟨?_, ?_, ?_, ?_⟩
  all_goals
    rw [World.cell?_setCell_other _ _ _ _ (by simp <;> omega), World.cell?_setCell_other _ _ _ _ (by simp <;> omega)]
    assumption

/-- less: takes one from another one -/
theorem less_any (l m : Bool) (s t : Int) (w : World) (hs : Sz s) (ht : Sz t) :
    Calls Try.prog 32 #[.agg #[.bool l, .int .u64 s], .agg #[.bool m, .int .u64 t]] w (Outc (sv l s - sv m t) w) := by
  have HS := Lib.hid hs
  have HT := Lib.hid ht
  clear hs ht
  go_enter Try.func32, Try.ntmps32
  go_wp2
  have hT := Trip.start w l s m t
  obtain ⟨W0, hW0⟩ : ∃ W0, W0 = (((w.alloc (.cells #[.bool l, .int .u64 s] 46)).alloc (.cells #[.bool m, .int .u64 t] 46)).alloc (.cells #[.bool false, .int .u64 0] 46)) := ⟨_, rfl⟩
  rw [← hW0] at hT ⊢
  clear hW0
  have HT0 := Lib.hid hT.drew
  have hS0 := hT.1
  clear hT
  go_region_held3 (fun w' => w'.cell? ⟨w.heap.size, 0, none⟩ = some (.bool l) ∧ w'.cell? ⟨w.heap.size, 1, none⟩ = some (.int .u64 s) ∧ w'.cell? ⟨w.heap.size + 1, 0, none⟩ = some (.bool m) ∧ w'.cell? ⟨w.heap.size + 1, 1, none⟩ = some (.int .u64 t)) (first | exact hS0 | exact hS1 | exact hS2 | exact hS3 _ _)
   (first
    | (go_at_call 42; refine (turned_any m t _).mono ?_; rintro r w1 ⟨m2, rfl, hm2, hb1⟩; have HT1 := Lib.hid (HT0.out.keep hb1); have hS1 := HT1.out.1; have HM2 := Lib.hid hm2; clear hm2 hb1)
    | (go_at_call 31; refine (plus_any l m2 s t _ HS.out HT.out).mono ?_; rintro r w2 ⟨l3, s3, f3, rfl, hs3, hv3, hn3, hb2⟩; have HT2 := Lib.hid (HT1.out.keep hb2); have hS2 := HT2.out.1; have hS3 := HT2.out.far; have c1 := HT2.out.2.1.cell 0; have c2 := HT2.out.2.1.cell 1; have c3 := HT2.out.2.1.frozen 0; have c4 := HT2.out.2.1.frozen 1; have H3 := Lib.hid (And.intro hs3 (And.intro hv3 hn3)); clear hs3 hv3 hn3 hb2))
  go_wp2
  have B1 := (HT2.out.2.1.set_ 0 (.bool l3))
  have B2 := B1.set_ 1 (.int .u64 s3)
  have k0 : (w2.setCell ⟨w.heap.size + 1 + 1, 0, none⟩ (.bool l3)).cell? ⟨w.heap.size + 1 + 1, 0, none⟩ = some (.bool l3) := B1.cell 0
  have k1 : ((w2.setCell ⟨w.heap.size + 1 + 1, 0, none⟩ (.bool l3)).setCell ⟨w.heap.size + 1 + 1, 1, none⟩ (.int .u64 s3)).cell? ⟨w.heap.size + 1 + 1, 1, none⟩ = some (.int .u64 s3) := B2.cell 1
  refine bodyPost_ret (v := .tuple #[.agg #[.bool l3, .int .u64 s3], .bool f3]) (by simp [results, Try.results32, go_sem, k0, k1]) rfl ?_
  have hv : sv l s + sv m2 t = sv l s - sv m t := by rw [HM2.out]; omega
  have H4 := H3.out
  rw [hv] at H4
  exact ⟨l3, s3, f3, rfl, H4.1, H4.2.1, H4.2.2, (HT2.out.2.2.2.setCell (by simp; omega) _).setCell (by simp; omega) _⟩

/-! ### Mul64, times, into, rest -/
end Go.Proofs.Ytbkliomiboekhaa
