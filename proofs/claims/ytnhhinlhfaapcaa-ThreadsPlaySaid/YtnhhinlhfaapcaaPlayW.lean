/- Threads: ThreadsPlay: whatever is opened, spawned, ended, closed: each call answers what the document says, and the table is as it says. -/
import Derived.Test.YtnhhinlhfaapcaaAl
namespace Go.Proofs.Ytnhhinlhfaapcaa
open Go.ChangeShapes Go.WideShapes Go.RowKit
set_option linter.unusedVariables false
set_option linter.unusedSimpArgs false

/-- the document's table behind the first calls of a list -/
def rrunA (L : List Ac) : RTab := L.foldl ractF rNewT
theorem rrunA_take {L : List Ac} {k : Nat} {a : Ac} (h : L[k]? = some a) : rrunA (L.take (k + 1)) = ractF (rrunA (L.take k)) a := by
  rw [List.take_add_one, h]
  simp [rrunA]
theorem Sim.run (L : List Ac) : Sim L.length (runA L) (rrunA L) := by
  have : ∀ (L : List Ac) (k : Nat) (t : Tab) (R : RTab), Sim k t R → Sim (k + L.length) (L.foldl actF t) (L.foldl ractF R) := by
    intro L
    induction L with
    | nil => intro k t R h; exact h
    | cons a L ih =>
      intro k t R h
      have := ih (k + 1) _ _ (h.act a)
      rw [List.foldl_cons, List.foldl_cons, List.length_cons, show k + (L.length + 1) = k + 1 + L.length by omega]
      exact this
  have h := this L 0 newT rNewT sim_new
  rwa [Nat.zero_add] at h
theorem actF_of {t : Tab} {a : Ac} {q : Int} (h : a.kind.tmod 4 = q) : actF t a = if q = 0 then opnF t a.n else if q = 1 then spnF t a.n else if q = 2 then endF t a.n a.pan else clsF t a.n := by unfold actF; rw [h]
theorem ractF_of {R : RTab} {a : Ac} {q : Int} (h : a.kind.tmod 4 = q) : ractF R a = if q = 0 then rOpn R a.n else if q = 1 then rSpn R a.n else if q = 2 then rEnd R a.n a.pan else rCls R a.n := by unfold ractF; rw [h]
set_option maxRecDepth 100000 in
set_option maxHeartbeats 12800000 in
theorem threadsPlay_walk (A0 : Option Addr) (c0 : Nat) (L0 : List Ac) (w : World) (rd0 : Rd w w.heap.size 3 acC A0 L0) (g0 : ∀ x ∈ L0, AcOk x) (hc0 : L0.length ≤ c0) (hm0 : c0 ≤ maxLen) :
    Calls Try.prog 7 #[.slice A0 L0.length c0] w fun e w' => e = .returned (.bool true) ∧ Below w.heap.size w w' := by
  obtain ⟨nl, hnl⟩ : ∃ n, L0.length = n := ⟨_, rfl⟩
  have HNL := Lib.hid hnl
  rw [hnl] at hc0 ⊢
  have HRD := Lib.hid rd0
  have HG := Lib.hid g0
  clear rd0 g0 hnl hm0
  by_cases h150 : 150 < nl
  · have h150I : (150 : Int) < (nl : Int) := by omega
    go_enter Try.func7, Try.ntmps7
    go_wp2
    go_ret
    exact ⟨rfl, Below.refl _ _⟩
  have h150I : ¬ (150 : Int) < (nl : Int) := by omega
  go_enter Try.func7, Try.ntmps7
  go_wp2_with fail
  refine (new_any w).mono ?_
  rintro r w1 ⟨rfl, hT, hB⟩
  have HT0 := Lib.hid hT
  have HB0 := Lib.hid hB
  clear hT hB
  go_wp2_with fail
  refine (r_new w1).mono ?_
  rintro r w2 ⟨rfl, hR, hB⟩
  have HBO := Lib.hid (Both.new HT0.out hB hR)
  have HB2 := Lib.hid (HB0.out.trans (hB.mono HB0.out.size))
  have hsz1 := HB0.out.size
  clear hR hB
  go_wp2
  go_loopw [5, 6, 7, 8, 9, 10, 11, 12, 13, 14, 32, 49, 79, 106] (fun i v6 v7 v8 v9 v10 v11 v12 v13 v14 v32 v49 v79 v106 wr => ∃ k : Nat, k ≤ nl ∧ i = .int .i64 k ∧ Both wr w.heap.size (w.heap.size + 1) w1.heap.size (w1.heap.size + 1) (runA (L0.take k)) (rrunA (L0.take k)) ∧ Below w.heap.size w wr) (fun i _ _ _ _ _ _ _ _ _ _ _ _ _ _ => nl - (intOf i).toNat)
  case atStart => exact ⟨0, by omega, rfl, HBO.out, HB2.out⟩
  case round =>
    obtain ⟨k, hk, rfl, hBo, hB⟩ := hrel
    have HBO := Lib.hid hBo
    have HB := Lib.hid hB
    clear hBo hB
    have hlk : (L0.take k).length ≤ k := List.length_take_le _ _
    have HTOK := Lib.hid ((Tok.run (L0.take k)).up hlk)
    have HSIM := Lib.hid ((Sim.run (L0.take k)).up hlk)
    clear hlk
    by_cases hlt : k < nl
    · have hlI : (k : Int) < (nl : Int) := by omega
      have hk0 : (0 : Int) ≤ (k : Int) := by omega
      obtain ⟨x, hx⟩ : ∃ x, L0[k]? = some x := ⟨_, List.getElem?_eq_getElem (by rw [HNL.out]; exact hlt)⟩
      have hok := HG.out x (List.mem_of_getElem? hx)
      obtain ⟨b, off, rfl, hb, d0, d1, d2⟩ := (HRD.out.below HB.out).ac hx
      have HRA := Lib.hid (runA_take hx)
      have HRR := Lib.hid (rrunA_take hx)
      obtain ⟨t, ht⟩ : ∃ t, runA (L0.take k) = t := ⟨_, rfl⟩
      obtain ⟨R, hR⟩ : ∃ R, rrunA (L0.take k) = R := ⟨_, rfl⟩
      rw [ht] at HBO HTOK HSIM HRA
      rw [hR] at HBO HSIM HRR
      clear ht hR hx
      have HTOK2 := Lib.hid (HTOK.out.act x)
      have HSIM2 := Lib.hid (HSIM.out.act x)
      have HSM := Lib.hid (HSIM.out.small HTOK.out (by omega))
      obtain ⟨q, hq⟩ : ∃ q, x.kind.tmod 4 = q := ⟨_, rfl⟩
      have hq0 : 0 ≤ q ∧ q < 4 := by
        rw [← hq]
        exact ⟨Int.tmod_nonneg _ hok.k0, Int.tmod_lt_of_pos _ (by omega)⟩
      have HAF := Lib.hid (actF_of (t := t) hq)
      have HRF := Lib.hid (ractF_of (R := R) hq)
      have hkd0 := hok.k0
      have hkd1 := hok.k1
      clear hok
      obtain ⟨kd, n, pan⟩ := x
      simp only at hq hkd0 hkd1 d0 d1 d2 HAF HRF
      have HBI := Lib.hid hb
      clear hb
      rcases (by omega : q = 0 ∨ q = 1 ∨ q = 2 ∨ q = 3) with e | e | e | e
      · subst e
        clear hq0
        obtain ⟨e, he⟩ : ∃ e : Int, (if refB t n 0 then (2 : Int) else 0) = e := ⟨_, rfl⟩
        have he2 : (if (rat R n).ended then (2 : Int) else 0) = e := by rw [← HSIM.out.ref0]; exact he
        have H1 := Lib.hid (bt_open (HBO.out.below (Below.refl _ wr).drew) HTOK.out (by omega) n e he)
        have H2 := Lib.hid (fun W (h : Both W w.heap.size (w.heap.size + 1) w1.heap.size (w1.heap.size + 1) (opnF t n) R) => br_open h HSM.out.2 n e he2)
        have HC := Lib.hid (show ∀ W, Below w.heap.size wr W → W.cell? ⟨b, off + k * 3 + 1, none⟩ = some (.int .i64 n) from fun W hb => (hb.cell (p := ⟨b, off + k * 3 + 1, none⟩) HBI.out).trans d1)
        have hS0 := HC.out wr.drew (Below.refl _ wr).drew
        have z : (e == e) = true := by simp
        clear he he2
        go_upto_region 11 with fail
        go_region_held3 (fun W => W.cell? ⟨b, off + k * 3 + 1, none⟩ = some (.int .i64 n)) (first | exact hS0 | exact hS1 | exact hS2)
          (first
            | (go_at_call 20; refine H1.out.mono ?_; rintro r W1 ⟨rfl, hBo1, hb1⟩; have HBO1 := Lib.hid hBo1; have HB1 := Lib.hid (((Below.refl w.heap.size wr).drew).trans hb1); have hS1 := HC.out W1 HB1.out; clear hBo1 hb1)
            | (go_at_call 24; refine (H2.out _ HBO1.out).mono ?_; rintro r W3 ⟨rfl, hBo3, hb3⟩; have HBO3 := Lib.hid hBo3; have HB3' := Lib.hid (HB1.out.trans (hb3.mono hsz1)); have hS2 := HC.out W3 HB3'.out; clear hBo3 hb3))
        have HB3 := Lib.hid (HB.out.trans HB3'.out)
        clear hS0 hS1 hS2 d0 d1 d2 z
        have HBO4 := Lib.hid (show Both W3 w.heap.size (w.heap.size + 1) w1.heap.size (w1.heap.size + 1) (runA (L0.take (k + 1))) (rrunA (L0.take (k + 1))) by rw [HRA.out, HRR.out, HAF.out, HRF.out]; exact HBO3.out)
        go_wp2_with fail
        refine (alike_any _ _ _ _ (k + 1) _ _ _ HBO4.out (by rw [HRA.out]; exact HTOK2.out) (by rw [HRA.out, HRR.out]; exact HSIM2.out) (by omega)).mono ?_
        rintro r w9 ⟨rfl, hB9⟩
        have HBO9 := Lib.hid (HBO4.out.below hB9)
        have HB9 := Lib.hid (HB3.out.trans (hB9.mono HB3.out.size))
        clear hB9 HBO4
        go_wp2
        go_roundw
        case rel => exact ⟨k + 1, by omega, by go_num, HBO9.out, HB9.out⟩
        case measure => simp [intOf] <;> omega
      · subst e
        clear hq0
        obtain ⟨m, hm⟩ : ∃ m, spnN t n = m := ⟨_, rfl⟩
        obtain ⟨e, he⟩ : ∃ e, spnE t n = e := ⟨_, rfl⟩
        have hm2 : rSpnN R n = m := by rw [← HSIM.out.spnN_]; exact hm
        have he2 : rSpnE R n = e := by rw [← HSIM.out.spnE_]; exact he
        have H1 := Lib.hid (bt_spawn HBO.out HTOK.out (by omega) n m e hm he)
        have H2 := Lib.hid (fun W (h : Both W w.heap.size (w.heap.size + 1) w1.heap.size (w1.heap.size + 1) (spnF t n) R) => br_spawn h HSM.out.1 HSM.out.2 n m e hm2 he2)
        have z1 : (m == m) = true := by simp
        have z2 : (e == e) = true := by simp
        clear hm he hm2 he2
        have HC := Lib.hid (show ∀ W, Below w.heap.size wr W → W.cell? ⟨b, off + k * 3 + 1, none⟩ = some (.int .i64 n) from fun W hb => (hb.cell (p := ⟨b, off + k * 3 + 1, none⟩) HBI.out).trans d1)
        go_wp2_with fail
        refine H1.out.mono ?_
        rintro r W1 ⟨rfl, hBo1, hb1⟩
        have HBO1 := Lib.hid hBo1
        have HB1 := Lib.hid hb1
        have d1' := HC.out W1 hb1
        clear hBo1 hb1
        go_wp2_with fail
        refine (H2.out _ HBO1.out).mono ?_
        rintro r W3 ⟨rfl, hBo3, hb3⟩
        have HBO3 := Lib.hid hBo3
        have HB3 := Lib.hid (HB.out.trans (HB1.out.trans (hb3.mono hsz1)))
        clear hBo3 hb3 d0 d1 d2 d1'
        have HBO4 := Lib.hid (show Both W3 w.heap.size (w.heap.size + 1) w1.heap.size (w1.heap.size + 1) (runA (L0.take (k + 1))) (rrunA (L0.take (k + 1))) by rw [HRA.out, HRR.out, HAF.out, HRF.out]; exact HBO3.out)
        go_wp2_with fail
        refine (alike_any _ _ _ _ (k + 1) _ _ _ HBO4.out (by rw [HRA.out]; exact HTOK2.out) (by rw [HRA.out, HRR.out]; exact HSIM2.out) (by omega)).mono ?_
        rintro r w9 ⟨rfl, hB9⟩
        have HBO9 := Lib.hid (HBO4.out.below hB9)
        have HB9 := Lib.hid (HB3.out.trans (hB9.mono HB3.out.size))
        clear hB9 HBO4
        go_wp2
        go_roundw
        case rel => exact ⟨k + 1, by omega, by go_num, HBO9.out, HB9.out⟩
        case measure => simp [intOf] <;> omega
      · subst e
        clear hq0
        obtain ⟨e, he⟩ : ∃ e : Int, (if endBad t n then (2 : Int) else 0) = e := ⟨_, rfl⟩
        have he2 : (if rEndBad R n then (2 : Int) else 0) = e := by rw [← HSIM.out.bad]; exact he
        have H1 := Lib.hid (bt_end (HBO.out.below (Below.refl _ wr).drew) n pan e he)
        have H2 := Lib.hid (fun W (h : Both W w.heap.size (w.heap.size + 1) w1.heap.size (w1.heap.size + 1) (endF t n pan) R) => br_end h n pan e he2)
        have HC := Lib.hid (show ∀ W, Below w.heap.size wr W → (W.cell? ⟨b, off + k * 3 + 1, none⟩ = some (.int .i64 n) ∧ W.cell? ⟨b, off + k * 3 + 2, none⟩ = some (.bool pan)) from fun W hb => ⟨(hb.cell (p := ⟨b, off + k * 3 + 1, none⟩) HBI.out).trans d1, (hb.cell (p := ⟨b, off + k * 3 + 2, none⟩) HBI.out).trans d2⟩)
        have hS0 := HC.out wr.drew (Below.refl _ wr).drew
        have z : (e == e) = true := by simp
        clear he he2
        go_upto_region 17 with fail
        go_region_held3 (fun W => W.cell? ⟨b, off + k * 3 + 1, none⟩ = some (.int .i64 n) ∧ W.cell? ⟨b, off + k * 3 + 2, none⟩ = some (.bool pan)) (first | exact hS0 | exact hS1 | exact hS2)
          (first
            | (go_at_call 19; refine H1.out.mono ?_; rintro r W1 ⟨rfl, hBo1, hb1⟩; have HBO1 := Lib.hid hBo1; have HB1 := Lib.hid (((Below.refl w.heap.size wr).drew).trans hb1); have hS1 := HC.out W1 HB1.out; clear hBo1 hb1)
            | (go_at_call 26; refine (H2.out _ HBO1.out).mono ?_; rintro r W3 ⟨rfl, hBo3, hb3⟩; have HBO3 := Lib.hid hBo3; have HB3' := Lib.hid (HB1.out.trans (hb3.mono hsz1)); have hS2 := HC.out W3 HB3'.out; clear hBo3 hb3))
        have HB3 := Lib.hid (HB.out.trans HB3'.out)
        clear hS0 hS1 hS2 d0 d1 d2 z
        have HBO4 := Lib.hid (show Both W3 w.heap.size (w.heap.size + 1) w1.heap.size (w1.heap.size + 1) (runA (L0.take (k + 1))) (rrunA (L0.take (k + 1))) by rw [HRA.out, HRR.out, HAF.out, HRF.out]; exact HBO3.out)
        go_wp2_with fail
        refine (alike_any _ _ _ _ (k + 1) _ _ _ HBO4.out (by rw [HRA.out]; exact HTOK2.out) (by rw [HRA.out, HRR.out]; exact HSIM2.out) (by omega)).mono ?_
        rintro r w9 ⟨rfl, hB9⟩
        have HBO9 := Lib.hid (HBO4.out.below hB9)
        have HB9 := Lib.hid (HB3.out.trans (hB9.mono HB3.out.size))
        clear hB9 HBO4
        go_wp2
        go_roundw
        case rel => exact ⟨k + 1, by omega, by go_num, HBO9.out, HB9.out⟩
        case measure => simp [intOf] <;> omega
      · subst e
        clear hq0
        obtain ⟨m, hm⟩ : ∃ m, clsP t n = m := ⟨_, rfl⟩
        obtain ⟨e, he⟩ : ∃ e, clsE t n = e := ⟨_, rfl⟩
        have hm2 : rClsP R n = m := by rw [← HSIM.out.clsP_]; exact hm
        have he2 : (if rClsBad R n then (2 : Int) else 0) = e := by rw [← HSIM.out.clsE_]; exact he
        have H1 := Lib.hid (bt_close HBO.out HTOK.out n m e hm he)
        have H2 := Lib.hid (fun W (h : Both W w.heap.size (w.heap.size + 1) w1.heap.size (w1.heap.size + 1) (clsF t n) R) => br_close h HSM.out.1 HSM.out.2 n m e hm2 he2)
        have z1 : (m == m) = true := by simp
        have z2 : (e == e) = true := by simp
        clear hm he hm2 he2
        have HC := Lib.hid (show ∀ W, Below w.heap.size wr W → W.cell? ⟨b, off + k * 3 + 1, none⟩ = some (.int .i64 n) from fun W hb => (hb.cell (p := ⟨b, off + k * 3 + 1, none⟩) HBI.out).trans d1)
        go_wp2_with fail
        refine H1.out.mono ?_
        rintro r W1 ⟨rfl, hBo1, hb1⟩
        have HBO1 := Lib.hid hBo1
        have HB1 := Lib.hid hb1
        have d1' := HC.out W1 hb1
        clear hBo1 hb1
        go_wp2_with fail
        refine (H2.out _ HBO1.out).mono ?_
        rintro r W3 ⟨rfl, hBo3, hb3⟩
        have HBO3 := Lib.hid hBo3
        have HB3 := Lib.hid (HB.out.trans (HB1.out.trans (hb3.mono hsz1)))
        clear hBo3 hb3 d0 d1 d2 d1'
        have HBO4 := Lib.hid (show Both W3 w.heap.size (w.heap.size + 1) w1.heap.size (w1.heap.size + 1) (runA (L0.take (k + 1))) (rrunA (L0.take (k + 1))) by rw [HRA.out, HRR.out, HAF.out, HRF.out]; exact HBO3.out)
        go_wp2_with fail
        refine (alike_any _ _ _ _ (k + 1) _ _ _ HBO4.out (by rw [HRA.out]; exact HTOK2.out) (by rw [HRA.out, HRR.out]; exact HSIM2.out) (by omega)).mono ?_
        rintro r w9 ⟨rfl, hB9⟩
        have HBO9 := Lib.hid (HBO4.out.below hB9)
        have HB9 := Lib.hid (HB3.out.trans (hB9.mono HB3.out.size))
        clear hB9 HBO4
        go_wp2
        go_roundw
        case rel => exact ⟨k + 1, by omega, by go_num, HBO9.out, HB9.out⟩
        case measure => simp [intOf] <;> omega
    · obtain rfl : nl = k := by omega
      go_wp2_with fail
      refine (alike_any _ _ _ _ nl _ _ _ HBO.out HTOK.out HSIM.out (by omega)).mono ?_
      rintro r w8 ⟨rfl, hB8⟩
      have HB8 := Lib.hid (HB.out.trans (hB8.mono HB.out.size))
      clear hB8
      go_wp2_with fail
      refine (awake_any _).mono ?_
      rintro r w9 ⟨rfl, hB9⟩
      have HB9 := Lib.hid (HB8.out.trans (hB9.mono HB8.out.size))
      clear hB9
      go_wp2
      go_ret
      exact ⟨rfl, HB9.out⟩
end Go.Proofs.Ytnhhinlhfaapcaa
