/- PathsOwn: the walk. -/
import Derived.Test.YtnofmnoohnmanaaPlQ
namespace Go.Proofs.Ytnofmnoohnmanaa
open Go.RowKit
set_option linter.unusedVariables false
set_option linter.unusedSimpArgs false

theorem own_apart {v v' : Value} {N : Nat} (h : ∀ g, v.ownBlock = some g → g < N) (h' : ∀ g, v'.ownBlock = some g → N ≤ g) : v'.ownBlock = none ∨ v'.ownBlock ≠ v.ownBlock := by
  cases hv : v'.ownBlock with
  | none => exact .inl rfl
  | some g =>
    refine .inr fun e => ?_
    have h1 := h g e.symm
    have h2 := h' g hv
    omega
theorem tx_store {W : World} {B : Nat} {A : Option Addr} {c n k : Nat} {xs : List Value} (h : TxOwn W B A c n xs) (hk : k < n) :
    ∃ g u, A = some ⟨g, 0, none⟩ ∧ B ≤ g ∧ g < W.heap.size ∧ W.cell? ⟨g, k, none⟩ = some u ∧ xs[k]? = some u ∧ W.frozen? ⟨g, k, none⟩ = false ∧ (∀ v, TxOwn (W.setCell ⟨g, k, none⟩ v) B A c n (xs.set k v) ∧ W.grownBy (W.setCell ⟨g, k, none⟩ v) (some g)) := by
  unfold TxOwn at h ⊢
  obtain ⟨g, rfl⟩ : ∃ g, A = some ⟨g, 0, none⟩ := by
    rcases h.2 with ⟨h1, h2⟩ | ⟨g, cap, cur, h1, _⟩
    · omega
    · injection h1 with h1
      exact ⟨g, h1⟩
  have hl := h.1
  obtain ⟨u, hu⟩ : ∃ u, xs[k]? = some u := ⟨_, List.getElem?_eq_getElem (by omega)⟩
  exact ⟨g, u, rfl, (h.lt g rfl).1, (h.lt g rfl).2, (h.cellAt k (by omega)).trans hu, hu, h.frozenAt k, fun v => h.stored k v⟩
theorem gb_trans {U W W' : World} {row : Option Nat} (h : U.grownBy W row) (h' : W.grownBy W' row) : U.grownBy W' row :=
  ⟨h'.os.trans h.os, h'.tape.trans h.tape, h'.output.trans h.output, Nat.le_trans h.size h'.size, fun k hk hne => (h'.block k (Nat.lt_of_lt_of_le hk h.size) hne).trans (h.block k hk hne)⟩
theorem flat_strC_at {L : List ByteArray} {k : Nat} {s : ByteArray} (h : L[k]? = some s) : (L.flatMap strC)[k]? = some (.string s) := by
  rw [flat_strC, List.getElem?_map, h]; rfl

set_option maxHeartbeats 12800000 in
set_option maxRecDepth 100000 in
theorem pathsOwn_walk (x0 : Pl) (A1 : Option Addr) (c1 : Nat) (S1 : List ByteArray) (w : World) (g0 : PlOk w w.heap.size x0) (rd1 : Rd w w.heap.size 1 strC A1 S1) (g1 : ∀ s ∈ S1, s.size ≤ maxLen) (hc1 : S1.length ≤ c1) (hm1 : c1 ≤ maxLen) :
    Calls Try.prog 9 #[.agg #[.string x0.name, .slice x0.pa x0.path.length x0.pc], .slice A1 S1.length c1] w fun r w' => r = .returned (.bool true) ∧ Below w.heap.size w w' := by
  obtain ⟨nm, A0, c0, P⟩ := x0
  dsimp only at *
  obtain ⟨lx, hlx⟩ : ∃ n, P.length = n := ⟨_, rfl⟩
  obtain ⟨ls, hls⟩ : ∃ n, S1.length = n := ⟨_, rfl⟩
  obtain ⟨W0, hW0⟩ : ∃ W0, W0 = w.alloc (.cells #[.string nm, .slice A0 lx c0] 24) := ⟨_, rfl⟩
  have hb0 : Below w.heap.size w W0 := by rw [hW0]; exact (Below.refl _ _).alloc (Nat.le_refl _) _
  have hk0 : Blk W0 w.heap.size 24 #[.string nm, .slice A0 lx c0] := by rw [hW0]; exact Blk.new _ _ _
  obtain ⟨lb, hlb⟩ : ∃ b, longB ⟨nm, A0, c0, P⟩ = b := ⟨_, rfl⟩
  have hx0 := g0.next hb0
  have HX0 := Lib.hid hx0
  have hL := long_bool ⟨nm, A0, c0, P⟩ hlb W0 hx0
  dsimp only at hL
  rw [hlx] at hL ⊢
  have HL := Lib.hid hL
  have HK0 := Lib.hid hk0
  have KB := Lib.hid hb0
  have HW := Lib.hid hW0
  have c0a := bx0 hk0
  have c0b := bx1 hk0
  have HLX := Lib.hid hlx
  have HLS := Lib.hid hls
  have HRD := Lib.hid ((rd1.below hb0).more hb0.size)
  have HG1 := Lib.hid g1
  have hlm : ls ≤ 9223372036854775807 := by unfold maxLen at hm1; omega
  rw [hls]
  cases lb with
  | true =>
    clear g0 rd1 g1 hc1 hm1 hlb hb0 hk0 hx0 hls hL hlx
    go_enter Try.func9, Try.ntmps9
    go_upto_region 1 with fail
    rw [← HW.out]
    clear hW0 HW
    go_wp2_with fail
    refine HL.out.mono ?_
    rintro r w1 ⟨rfl, h1⟩
    have K1 := Lib.hid (KB.out.trans (h1.mono KB.out.size))
    clear h1 c0a c0b
    go_wp2
    go_ret
    exact ⟨rfl, K1.out⟩
  | false =>
    have hl0 : lx ≤ 1000 := by rw [← hlx]; exact Nat.le_trans (longB_no hlb).1 (by omega)
    by_cases h20 : 20 < ls
    · have d20 : (20 : Int) < (ls : Int) := by omega
      clear g0 rd1 g1 hc1 hm1 hlb hb0 hk0 hx0 hls hL hlx
      go_enter Try.func9, Try.ntmps9
      go_upto_region 1 with fail
      rw [← HW.out]
      clear hW0 HW
      go_wp2_with fail
      refine HL.out.mono ?_
      rintro r w1 ⟨rfl, h1⟩
      have K1 := Lib.hid (KB.out.trans (h1.mono KB.out.size))
      clear h1 c0a c0b
      go_wp2
      go_ret
      exact ⟨rfl, K1.out⟩
    · have d20 : ¬ (20 : Int) < (ls : Int) := by omega
      clear g0 rd1 g1 hc1 hm1 hlb hb0 hk0 hx0 hls hL hlx
      go_enter Try.func9, Try.ntmps9
      go_upto_region 1 with fail
      rw [← HW.out]
      clear hW0 HW
      go_wp2_with fail
      refine HL.out.mono ?_
      rintro r m1 ⟨rfl, h1⟩
      have Kp1 := Lib.hid (HK0.out.below h1 HK0.out.lt)
      have Xp1 := Lib.hid (HX0.out.next h1)
      have R1 := Lib.hid ((HRD.out.below h1).more h1.size)
      have B1 := Lib.hid (KB.out.trans (h1.mono KB.out.size))
      clear h1 c0a c0b
      have pa := bx0 Kp1.out
      have pb := bx1 Kp1.out
      go_wp2_with fail
      refine (copy_x nm A0 c0 lx P HLX.out m1 Xp1.out hl0).mono ?_
      rintro r m2 ⟨Ai, ci, rfl, hok, h2⟩
      obtain ⟨V2, hV2⟩ : ∃ V, V = m2.alloc (.cells #[.string nm, .slice Ai lx ci] 24) := ⟨_, rfl⟩
      have h3 : Below m2.heap.size m2 V2 := by rw [hV2]; exact (Below.refl _ _).alloc (Nat.le_refl _) _
      have h4 := h2.trans (h3.mono h2.size)
      have Ki2 := Lib.hid (show Blk V2 m2.heap.size 24 #[.string nm, .slice Ai lx ci] by rw [hV2]; exact Blk.new _ _ _)
      have Xi2 := Lib.hid (hok.next h3)
      have Kp2 := Lib.hid (Kp1.out.below h4 Kp1.out.lt)
      have Xp2 := Lib.hid (Xp1.out.next h4)
      have R2 := Lib.hid ((R1.out.below h4).more h4.size)
      have B2 := Lib.hid (B1.out.trans (h4.mono B1.out.size))
      have HV2 := Lib.hid hV2
      clear hok h2 h3 h4 hV2 pa pb
      have pa := bx0 Kp2.out
      have pb := bx1 Kp2.out
      have ia := bx0 Ki2.out
      have ib := bx1 Ki2.out
      go_upto_region 4 with fail
      rw [← HV2.out]
      clear HV2
      go_wp2_with fail
      refine (with_p nm Ai ci lx P HLX.out S1 A1 ls c1 HLS.out V2 Xi2.out hl0 (by omega) R2.out HG1.out).mono ?_
      rintro r m3 ⟨Aa, ca, rfl, hok, hown, h2⟩
      obtain ⟨V3, hV3⟩ : ∃ V, V = m3.alloc (.cells #[.string nm, .slice Aa (lx + ls) ca] 24) := ⟨_, rfl⟩
      have h3 : Below m3.heap.size m3 V3 := by rw [hV3]; exact (Below.refl _ _).alloc (Nat.le_refl _) _
      have h4 := h2.trans (h3.mono h2.size)
      have Ka3 := Lib.hid (show Blk V3 m3.heap.size 24 #[.string nm, .slice Aa (lx + ls) ca] by rw [hV3]; exact Blk.new _ _ _)
      have Ta3 := Lib.hid (own_below hown h3)
      have La := Lib.hid (show ∀ g, (Value.slice Aa (lx + ls) ca).ownBlock = some g → g < V3.heap.size from fun g hg => Nat.lt_of_lt_of_le (hown.lt g hg).2 h3.size)
      have D3 := Lib.hid h4
      have HV3 := Lib.hid hV3
      clear hok hown h2 h3 h4 hV3 pa pb ia ib
      have pa := bx0 (Kp2.out.below D3.out Kp2.out.lt)
      have pb := bx1 (Kp2.out.below D3.out Kp2.out.lt)
      have ia := bx0 (Ki2.out.below D3.out Ki2.out.lt)
      have ib := bx1 (Ki2.out.below D3.out Ki2.out.lt)
      go_upto_region 5 with fail
      rw [← HV3.out]
      clear HV3
      go_wp2_with fail
      refine (with_p nm Ai ci lx P HLX.out [] none 0 0 rfl V3 (Xi2.out.next D3.out) hl0 (by omega) (Rd.nil _ _ _ _ _) (by simp)).mono ?_
      rintro r m4 ⟨Ab, cb, rfl, hok, hown, h2⟩
      simp only [Nat.add_zero, List.append_nil] at hok hown ⊢
      obtain ⟨V4, hV4⟩ : ∃ V, V = m4.alloc (.cells #[.string nm, .slice Ab lx cb] 24) := ⟨_, rfl⟩
      have h3 : Below m4.heap.size m4 V4 := by rw [hV4]; exact (Below.refl _ _).alloc (Nat.le_refl _) _
      have h4 := h2.trans (h3.mono h2.size)
      have Kb4 := Lib.hid (show Blk V4 m4.heap.size 24 #[.string nm, .slice Ab lx cb] by rw [hV4]; exact Blk.new _ _ _)
      have Xb4 := Lib.hid (hok.next h3)
      have Tb4 := Lib.hid (own_below hown h3)
      have Lb := Lib.hid (show ∀ g, (Value.slice Ab lx cb).ownBlock = some g → g < V4.heap.size from fun g hg => Nat.lt_of_lt_of_le (hown.lt g hg).2 h3.size)
      have Ta4 := Lib.hid (own_below Ta3.out h4)
      have Ka4 := Lib.hid (Ka3.out.below h4 Ka3.out.lt)
      have D4 := Lib.hid (D3.out.trans (h4.mono D3.out.size))
      have HV4 := Lib.hid hV4
      have Y3 := Lib.hid h4.size
      clear hok hown h2 h3 h4 hV4 pa pb ia ib
      have pa := bx0 (Kp2.out.below D4.out Kp2.out.lt)
      have pb := bx1 (Kp2.out.below D4.out Kp2.out.lt)
      have ia := bx0 (Ki2.out.below D4.out Ki2.out.lt)
      have ib := bx1 (Ki2.out.below D4.out Ki2.out.lt)
      go_upto_region 6 with fail
      rw [← HV4.out]
      clear HV4
      go_wp2_with fail
      refine (least_p nm Ai ci lx P HLX.out V4 (Xi2.out.next D4.out) hl0).mono ?_
      rintro r m5 ⟨gl, cl, Ay, cy, rfl, hrow, hown, h2⟩
      have Tl5 := Lib.hid hrow
      have Ty5 := Lib.hid hown
      have Xb5 := Lib.hid (Xb4.out.next h2)
      have Tb5 := Lib.hid (own_below Tb4.out h2)
      have Ta5 := Lib.hid (own_below Ta4.out h2)
      have Ka5 := Lib.hid (Ka4.out.below h2 Ka4.out.lt)
      have Kb5 := Lib.hid (Kb4.out.below h2 Kb4.out.lt)
      have D5 := Lib.hid (D4.out.trans (h2.mono D4.out.size))
      clear hrow hown h2 pa pb ia ib
      have pa := bx0 (Kp2.out.below D5.out Kp2.out.lt)
      have pb := bx1 (Kp2.out.below D5.out Kp2.out.lt)
      have aa := bx0 Ka5.out
      have ab := bx1 Ka5.out
      have ba := bx0 Kb5.out
      have bb := bx1 Kb5.out
      go_wp2_with fail
      refine (rsame_p nm Ab A0 cb c0 lx P HLX.out m5 Xb5.out (Xp2.out.next D5.out)).mono ?_
      rintro r m6 ⟨rfl, h2⟩
      have Tl := Lib.hid (own_below Tl5.out h2)
      have Ty := Lib.hid (own_below Ty5.out h2)
      have Tb := Lib.hid (own_below Tb5.out h2)
      have Ta := Lib.hid (own_below Ta5.out h2)
      have Ka := Lib.hid (Ka5.out.below h2 Ka5.out.lt)
      have Kb := Lib.hid (Kb5.out.below h2 Kb5.out.lt)
      have D6 := Lib.hid (D5.out.trans (h2.mono D5.out.size))
      clear h2 pa pb aa ab ba bb
      go_wp2
      go_loopw [9] (fun i wr => ∃ (k : Nat) (xs : List Value), k ≤ lx + ls ∧ i = .int .i64 k ∧ TxOwn wr V2.heap.size Aa ca (lx + ls) xs ∧ (∀ j, k ≤ j → xs[j]? = ((P ++ S1).flatMap strC)[j]?) ∧ m6.grownBy wr (Value.slice Aa (lx + ls) ca).ownBlock) (fun i _ => lx + ls - (intOf i).toNat)
      case atStart => exact ⟨0, _, by omega, rfl, Ta.out, fun j _ => rfl, World.grownBy.refl _ _⟩
      case round =>
        obtain ⟨k, xs, hk, rfl, htx, htl, hgb⟩ := hrel
        have HTX := Lib.hid htx
        have HTL := Lib.hid htl
        have HGB := Lib.hid hgb
        have HBW := Lib.hid (D6.out.grown hgb D6.out.size (fun q hq => (Ta.out.lt q hq).1))
        have pa := bx0 (Kp2.out.below HBW.out Kp2.out.lt)
        have pb := bx1 (Kp2.out.below HBW.out Kp2.out.lt)
        have hKa := Ka.out.grown hgb (own_blk_ne Ta.out Ka.out (by decide)).symm
        have aa := bx0 hKa
        have ab := bx1 hKa
        clear hgb htl hKa
        by_cases hlt : k < lx + ls
        · obtain ⟨g, u, hAa, hBg, hgl, hcell, hxu, hfr, hst⟩ := tx_store htx hlt
          subst hAa
          have hki : (k : Int) < (lx : Int) + (ls : Int) := by omega
          have hfl := (HTL.out k (Nat.le_refl _)).symm.trans hxu
          have HS1 := Lib.hid (hst (.string ⟨#[63]⟩)).1
          have HS2 := Lib.hid (gb_trans HGB.out (hst (.string ⟨#[63]⟩)).2)
          have HT2 := Lib.hid (show ∀ j, k + 1 ≤ j → (xs.set k (.string ⟨#[63]⟩))[j]? = ((P ++ S1).flatMap strC)[j]? from fun j hj => by
            rw [List.getElem?_set_ne (by omega)]; exact HTL.out j (by omega))
          by_cases hlt2 : k < lx
          · have hkx : (k : Int) < (lx : Int) := by omega
            obtain ⟨b0, o0, s, hs, hA0, hb, hc⟩ := (Xp2.out.rd.below HBW.out).str (k := k) (by show k < P.length; rw [HLX.out]; exact hlt2)
            dsimp only at hs hA0
            subst hA0
            have hus : u = .string s := by
              rw [flat_strC_at (s := s) (by rw [List.getElem?_append_left (by rw [HLX.out]; exact hlt2)]; exact hs)] at hfl
              exact (Option.some.inj hfl).symm
            subst hus
            clear htx hst hfl hxu hs
            go_wp2
            go_roundw
            case rel => exact ⟨k + 1, _, by omega, by go_num, HS1.out, HT2.out, HS2.out⟩
            case measure => simp [intOf] <;> omega
          · obtain ⟨q, rfl⟩ : ∃ q, k = lx + q := ⟨k - lx, by omega⟩
            have hkx : ¬ ((lx + q : Nat) : Int) < (lx : Int) := by omega
            have hq1 : (q : Int) < (ls : Int) := by omega
            have hq0 : (0 : Int) ≤ (q : Int) := by omega
            obtain ⟨b0, o0, s, hs, hA1, hb, hc⟩ := (R2.out.below HBW.out).str (k := q) (by rw [HLS.out]; omega)
            subst hA1
            have hus : u = .string s := by
              rw [flat_strC_at (s := s) (by rw [List.getElem?_append_right (by rw [HLX.out]; omega), HLX.out, Nat.add_sub_cancel_left]; exact hs)] at hfl
              exact (Option.some.inj hfl).symm
            subst hus
            clear htx hst hfl hxu hs
            go_wp2
            go_roundw
            case rel => exact ⟨lx + q + 1, _, by omega, by go_num, HS1.out, HT2.out, HS2.out⟩
            case measure => simp [intOf] <;> omega
        · have hki : ¬ (k : Int) < (lx : Int) + (ls : Int) := by omega
          have HTb := Lib.hid (World.ownsRow.kept Tb.out HGB.out (own_apart La.out (fun g hg => (Tb.out.lt g hg).1)))
          have HTy := Lib.hid (World.ownsRow.kept Ty.out HGB.out (own_apart La.out (fun g hg => by have h1 := (Ty.out.lt g hg).1; have h2 := Y3.out; omega)))
          have HTl := Lib.hid (World.ownsRow.kept Tl.out HGB.out (own_ne Tl.out Ta.out (by decide)))
          have HKb := Lib.hid (Kb.out.grown HGB.out (own_blk_ne Ta.out Kb.out (by decide)).symm)
          have HB0 := HBW
          clear htx
          go_wp2
          clear pa pb aa ab
          go_loopw [11] (fun i wq => ∃ (k2 : Nat) (xb xy : List Value), k2 ≤ lx ∧ i = .int .i64 k2 ∧ TxOwn wq V3.heap.size Ab cb lx xb ∧ TxOwn wq (V4.heap.size + 1) Ay cy lx xy ∧ wq.ownsRow V4.heap.size 24 2 (.slice (some ⟨gl, 0, none⟩) 1 cl) 1 [.string nm, .slice Ay lx cy] ∧ Blk wq m4.heap.size 24 #[.string nm, .slice Ab lx cb] ∧ Below V2.heap.size V2 wq) (fun i _ => lx - (intOf i).toNat)
          case atStart => exact ⟨0, _, _, by omega, rfl, HTb.out, HTy.out, HTl.out, HKb.out, HB0.out⟩
          case round =>
            obtain ⟨k2, xb, xy, hk2, rfl, htb, hty, htl2, hkb, hbl⟩ := hrel
            have HBL := Lib.hid hbl
            have HKB := Lib.hid hkb
            have HTL2 := Lib.hid htl2
            have HTY2 := Lib.hid hty
            have HTB2 := Lib.hid htb
            have ba := bx0 hkb
            have bb := bx1 hkb
            clear hkb htl2 hbl
            by_cases hlt2 : k2 < lx
            · have hkj : (k2 : Int) < (lx : Int) := by omega
              obtain ⟨gB, uB, hAb, hB1, hB2, hBc, _, hBf, hBs⟩ := tx_store htb hlt2
              subst hAb
              have s1 := hBs (.string ⟨#[33]⟩)
              have hYlow : ∀ g, (Value.slice Ay lx cy).ownBlock = some g → V4.heap.size ≤ g := fun g hg => by have h1 := (World.ownsRow.lt HTY2.out g hg).1; omega
              have hTy1 : TxOwn (wr.setCell ⟨gB, k2, none⟩ (.string ⟨#[33]⟩)) (V4.heap.size + 1) Ay cy lx xy := World.ownsRow.kept HTY2.out s1.2 (own_apart (v := .slice (some ⟨gB, 0, none⟩) lx cb) Lb.out hYlow)
              have hTl1 := World.ownsRow.kept HTL2.out s1.2 (own_ne HTL2.out HTB2.out (by decide))
              have l0 := hTl1.cellAt 0 (by omega)
              have l1 := hTl1.cellAt 1 (by omega)
              simp at l0 l1
              have hKb1 := HKB.out.grown s1.2 (own_blk_ne HTB2.out HKB.out (by decide)).symm
              obtain ⟨gY, uY, hAy, hY1, hY2, hYc, _, hYf, hYs⟩ := tx_store hTy1 hlt2
              subst hAy
              have s2 := hYs (.string ⟨#[35]⟩)
              have hne : gB ≠ gY := by
                have h1 := Lb.out gB rfl
                omega
              have HA1 := Lib.hid (World.ownsRow.kept s1.1 s2.2 (.inr (by show some gB ≠ some gY; simpa using hne)))
              have HA2 := Lib.hid s2.1
              have HA3 := Lib.hid (World.ownsRow.kept hTl1 s2.2 (own_ne hTl1 hTy1 (by decide)))
              have HA4 := Lib.hid (hKb1.grown s2.2 (own_blk_ne hTy1 hKb1 (by decide)).symm)
              have HA5 := Lib.hid (show Below V2.heap.size V2 ((wr.setCell ⟨gB, k2, none⟩ (.string ⟨#[33]⟩)).setCell ⟨gY, k2, none⟩ (.string ⟨#[35]⟩)) from (HBL.out.setCell (p := ⟨gB, k2, none⟩) (Nat.le_trans D3.out.size hB1) _).setCell (p := ⟨gY, k2, none⟩) (Nat.le_trans D4.out.size (by show V4.heap.size ≤ gY; omega)) _)
              clear htb hty s1 s2 hTy1 hTl1 hKb1 hBs hYs hYlow
              go_wp2
              go_roundw
              case rel => exact ⟨k2 + 1, _, _, by omega, by go_num, HA1.out, HA2.out, HA3.out, HA4.out, HA5.out⟩
              case measure => simp [intOf] <;> omega
            · have hkj : ¬ (k2 : Int) < (lx : Int) := by omega
              have ia := bx0 (Ki2.out.below HBL.out Ki2.out.lt)
              have ib := bx1 (Ki2.out.below HBL.out Ki2.out.lt)
              clear htb hty
              have hroot : Calls Try.prog 28 #[.agg #[.string nm, .slice Ai lx ci]] wr fun r w' => r = .returned (.agg #[.string nm, .slice none 0 0]) ∧ Below wr.heap.size wr w' := by
                have h := root_any ⟨nm, Ai, ci, P⟩ wr
                dsimp only at h
                rw [HLX.out] at h
                exact h
              have HRo := Lib.hid hroot
              clear hroot
              go_wp2_with fail
              refine HRo.out.mono ?_
              rintro r m7 ⟨rfl, h7⟩
              obtain ⟨V8, hV8⟩ : ∃ V, V = m7.alloc (.cells #[.string nm, .slice none 0 0] 24) := ⟨_, rfl⟩
              have h8 : Below m7.heap.size m7 V8 := by rw [hV8]; exact (Below.refl _ _).alloc (Nat.le_refl _) _
              have Kr := Lib.hid (show Blk V8 m7.heap.size 24 #[.string nm, .slice none 0 0] by rw [hV8]; exact Blk.new _ _ _)
              have D8 := Lib.hid (HBL.out.trans ((h7.trans (h8.mono h7.size)).mono HBL.out.size))
              have HV8 := Lib.hid hV8
              clear h7 h8 hV8 ia ib ba bb HRo
              have ia := bx0 (Ki2.out.below D8.out Ki2.out.lt)
              have ib := bx1 (Ki2.out.below D8.out Ki2.out.lt)
              have pa := bx0 (Kp2.out.below D8.out Kp2.out.lt)
              have pb := bx1 (Kp2.out.below D8.out Kp2.out.lt)
              go_upto_region 25 with fail
              rw [← HV8.out]
              clear HV8
              go_wp2_with fail
              refine (rsame_p nm Ai A0 ci c0 lx P HLX.out V8 (Xi2.out.next D8.out) (Xp2.out.next D8.out)).mono ?_
              rintro r m9 ⟨rfl, h9⟩
              have D9 := Lib.hid (D8.out.trans (h9.mono D8.out.size))
              have Kr9 := Lib.hid (Kr.out.below h9 Kr.out.lt)
              clear h9 ia ib pa pb
              have ra := bx0 Kr9.out
              have rb := bx1 Kr9.out
              have pa := bx0 (Kp2.out.below D9.out Kp2.out.lt)
              have pb := bx1 (Kp2.out.below D9.out Kp2.out.lt)
              go_wp2_with fail
              refine (awake_yes _).mono ?_
              rintro r m10 ⟨rfl, h10⟩
              have D10 := Lib.hid (D9.out.trans (h10.mono D9.out.size))
              clear h10 ra rb pa pb
              go_wp2
              go_ret
              exact ⟨rfl, B2.out.trans (D10.out.mono B2.out.size)⟩
end Go.Proofs.Ytnofmnoohnmanaa

