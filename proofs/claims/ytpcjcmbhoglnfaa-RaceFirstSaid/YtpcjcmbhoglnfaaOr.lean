/- Race: the contract of the document's Order. -/
import Derived.Test.YtpcjcmbhoglnfaaOrL
import Derived.Deep.DeepCutAuto
namespace Go.Proofs.Ytpcjcmbhoglnfaa
open Go.RowKit Go.ChangeMaps Go.MapKept
set_option linter.unusedVariables false
set_option linter.unusedSimpArgs false

theorem info51 : (Try.prog.info? 51).map (fun i => (i.zero, i.size, i.bytes)) = some (some (.slice none 0 0), 1, 24) := by kernel_rfl
/-- what Order tells -/
def OrderP (w : World) (L : List Ev) (r : Ending) (w' : World) : Prop := ∃ A c, r = .returned (.slice A L.length c) ∧ OutR w' w.heap.size L (.slice A L.length c) L.length ∧ Below w.heap.size w w'
/-- the row under way -/
def RowW (W : World) (B g k : Nat) (f : Nat → Bool) : Prop := W.ownsRow B 4 1 (.slice (some ⟨g, 0, none⟩) k k) k (bl k f)
theorem RowW.congr {W : World} {B g k : Nat} {f f' : Nat → Bool} (h : RowW W B g k f) (hf : ∀ j, j < k → f j = f' j) : RowW W B g k f' := by
  unfold RowW at *; rw [← bl_congr hf]; exact h
theorem RowW.set {W : World} {B g k p : Nat} {f : Nat → Bool} (h : RowW W B g k f) (b : Bool) : RowW (W.setCell ⟨g, p, none⟩ (.bool b)) B g k (fun j => if j = p then b else f j) := by
  unfold RowW at *; rw [← bl_set]; exact (h.stored p (.bool b)).1
theorem RowW.cell {W : World} {B g k p : Nat} {f : Nat → Bool} (h : RowW W B g k f) (hp : p < k) : W.cell? ⟨g, p, none⟩ = some (.bool (f p)) := (World.ownsRow.cellAt h p (by omega)).trans (bl_at hp)
theorem RowW.frz {W : World} {B g k : Nat} {f : Nat → Bool} (h : RowW W B g k f) (p : Nat) : W.frozen? ⟨g, p, none⟩ = false := World.ownsRow.frozenAt h p
theorem RowW.below {W W' : World} {B g k : Nat} {f : Nat → Bool} (h : RowW W B g k f) (hb : Below W.heap.size W W') : RowW W' B g k f := own_below h hb

set_option maxHeartbeats 25600000 in
set_option maxRecDepth 100000 in
theorem order_any {w : World} (A : Option Addr) (len c : Nat) (L : List Ev) (h : EvRow w A len c L) (hm : mayB L = true) : Calls Try.prog 24 #[.slice A len c] w (OrderP w L) := by
  obtain ⟨i0, hi0, hz0, hz1, hz2⟩ := info_parts info4
  obtain ⟨j0, hj0, hy0, hy1, hy2⟩ := info_parts info51
  have HR := Lib.hid h
  have hN := h.N
  have HMY := Lib.hid hm
  clear h hm
  go_enter Try.func24, Try.ntmps24
  go_wp2
  go_loopw [3, 4] (fun v i wr => ∃ k : Nat, k ≤ len ∧ i = .int .i64 k ∧ OutR wr w.heap.size L v k ∧ Below w.heap.size w wr) (fun _ i _ => len - (intOf i).toNat)
  case atStart => exact ⟨0, by omega, rfl, OutR.nil _ _ _, Below.refl _ _⟩
  case round =>
    obtain ⟨k, hk, rfl, hout, hbl⟩ := hrel
    have HOUT := Lib.hid hout
    have HBL := Lib.hid hbl
    obtain ⟨xs0, hx0, _⟩ := hout.ex
    obtain ⟨Ao, co, rfl⟩ := own_slice hx0
    clear hout hbl hx0
    by_cases hlt : k < len
    · have hki : (k : Int) < (len : Int) := by omega
      obtain ⟨wk, hwk⟩ : ∃ wk : World, wk = wr := ⟨_, rfl⟩
      rw [← hwk] at HOUT HBL ⊢
      clear hwk
      obtain ⟨gr, hgr⟩ : ∃ g, g = wk.heap.size := ⟨_, rfl⟩
      have HGR := Lib.hid hgr
      clear hgr
      go_wp2_with (at_make; refine wpList_make_full _ rfl _ _ 51 rfl wk.heap.size 4 i0 (.bool false) 1 Try.underlying51 hi0 hz0 hz1 .i64 .i64 _ _ k rfl rfl (by omega) (by omega) (by rw [hz2]; omega) (by unfold maxLen; omega) (Nat.le_refl _) ?_; intro w1 hown1 hg1)
      have hb1 : Below wk.heap.size wk w1 := (Below.refl _ wk).grown hg1 (Nat.le_refl _) (by simp)
      rw [made_false, bl_false] at hown1
      rw [← HGR.out] at hown1 hb1 ⊢
      have HROW := Lib.hid (show RowW w1 gr gr k (rowF L k k) from RowW.congr hown1 (fun j hj => by unfold rowF; rw [if_neg (by omega), viaB_end]))
      have HB1 := Lib.hid hb1
      clear hown1 hg1 hb1
      go_wp2
      go_loopw [6] (fun i wr => ∃ s : Nat, s ≤ k ∧ i = .int .i64 ((s : Int) - 1) ∧ RowW wr gr gr k (rowF L k s) ∧ Below gr wk wr) (fun i _ => (intOf i + 1).toNat)
      case atStart => exact ⟨k, Nat.le_refl _, by simp [wrap64] <;> omega, HROW.out, HB1.out⟩
      case round =>
        obtain ⟨s, hs, rfl, hrow, hbl⟩ := hrel
        have HROW := Lib.hid hrow
        have HBW := Lib.hid hbl
        clear hrow hbl
        rcases Nat.eq_zero_or_pos s with rfl | hs0
        · have hsz : ¬ (0 : Int) ≤ ((0 : Nat) : Int) - 1 := by omega
          have hfin : RowW wr gr gr k (fun i => ahN L i k) := HROW.out.congr (fun j hj => by unfold rowF; rw [if_pos (by omega)])
          obtain ⟨xs, hx1, hx2⟩ := (HOUT.out.below (by rw [← HGR.out]; exact HBW.out)).ex
          have HX1 := Lib.hid hx1
          have HX2 := Lib.hid hx2
          have HFIN := Lib.hid (show wr.ownsRow w.heap.size 4 1 (.slice (some ⟨gr, 0, none⟩) k k) k (bl k fun i => ahN L i k) from own_mono hfin (by rw [HGR.out]; exact HBL.out.size))
          have HRS := Lib.hid (Rd.slot wr (some ⟨gr, 0, none⟩) k k 51)
          have HB2 := Lib.hid (HBL.out.trans ((by rw [← HGR.out]; exact HBW.out : Below wk.heap.size wk wr).mono HBL.out.size))
          have hsw := HB2.out.size
          clear hfin hx1 hx2
          go_wp2_with (at_builtin; (refine wpList_append_rd _ rfl _ _ 52 rfl w.heap.size 51 j0 (.slice none 0 0) 1 24 Try.underlying52 hj0 hy0 hy1 hy2 rfl (by decide) (.slice Ao k co) k xs rfl (HX1.out.alloc _) (wr.heap.size + 1) _ 1 _ slC slC_len slC_one [(some ⟨gr, 0, none⟩, k, k)] rfl rfl HRS.out ?c3 ?c4 ?c5 ?_))
          case c3 => unfold maxLen; omega
          case c4 => omega
          case c5 => first | omega | (simp; omega)
          intro v' w3 hown' hg _
          rw [show slC (some ⟨gr, 0, none⟩, k, k) = [Value.slice (some ⟨gr, 0, none⟩) k k] from rfl] at hown'
          have hal : Below wr.heap.size wr (wr.alloc (.cells #[.slice (some ⟨gr, 0, none⟩) k k] 51)) := (Below.refl _ _).alloc (Nat.le_refl _) _
          have HPU := Lib.hid (OutR.push (own_below HX1.out hal) (fun m hm => by
            obtain ⟨A', c', h3, h4⟩ := HX2.out m hm
            exact ⟨A', c', h3, own_below h4 hal⟩) (own_below HFIN.out hal) hown' hg)
          have HB3 := Lib.hid ((HB2.out.alloc HB2.out.size (.cells #[.slice (some ⟨gr, 0, none⟩) k k] 51)).grown hg (by simp; omega) (fun q hq => (HX1.out.lt q hq).1))
          clear hown' hg hal
          go_wp2
          go_roundw
          case rel => exact ⟨k + 1, by omega, by go_num, HPU.out, HB3.out⟩
          case measure => simp [intOf] <;> omega
        · obtain ⟨i, rfl⟩ : ∃ i, s = i + 1 := ⟨s - 1, by omega⟩
          have hi1 : (((i + 1 : Nat) : Int) - 1) = (i : Int) := by omega
          rw [hi1]
          have hi2 : (0 : Int) ≤ (i : Int) := by omega
          have hik : i < k := by omega
          have hiI : (i : Int) < (len : Int) := by omega
          have hikI : (i : Int) < (k : Int) := by omega
          have hrowL := HR.out.below (HBL.out.trans ((by rw [← HGR.out]; exact HBW.out : Below wk.heap.size wk wr).mono HBL.out.size))
          have hmx := at_evAt (L := L) (i := i) (by rw [HR.out.len]; omega)
          have hmy := at_evAt (L := L) (i := k) (by rw [HR.out.len]; omega)
          obtain ⟨bb, off, rfl, _, x0, x1, x2, x3⟩ := hrowL.rd.ev hmx
          obtain ⟨b', off', eA, _, y0, y1, y2, y3⟩ := hrowL.rd.ev hmy
          cases eA
          have HSP := Lib.hid (ahN_split HMY.out (by rw [HR.out.len]; omega) hik (by rw [HR.out.len]; exact hlt))
          obtain ⟨x, hx⟩ : ∃ x, x = evAt L i := ⟨_, rfl⟩
          obtain ⟨y, hy⟩ : ∃ y, y = evAt L k := ⟨_, rfl⟩
          rw [← hx] at x0 x1 x2 x3 HSP
          rw [← hy] at y0 y1 y2 y3 HSP
          obtain ⟨lx, hlx⟩ : ∃ q, x.path.length = q := ⟨_, rfl⟩
          obtain ⟨ly, hly⟩ : ∃ q, y.path.length = q := ⟨_, rfl⟩
          rw [hlx] at x3
          rw [hly] at y3
          clear hx hy hlx hly hmx hmy hrowL hi1
          go_upto_region 9 with fail
          go_cut [7, 8] (fun a b wx => ∃ b1 b2 : Nat, a = .pointer (some ⟨b1, 0, none⟩) ∧ b = .pointer (some ⟨b2, 0, none⟩) ∧ Blk wx b1 26 #[.int .u8 x.kind, .int .i64 x.thread, .int .i64 x.id, .slice x.pa lx x.pc] ∧ Blk wx b2 26 #[.int .u8 y.kind, .int .i64 y.thread, .int .i64 y.id, .slice y.pa ly y.pc] ∧ Below wr.heap.size wr wx)
          case first =>
            have HP1 := Lib.hid (And.intro (Blk.new wr 26 #[.int .u8 x.kind, .int .i64 x.thread, .int .i64 x.id, .slice x.pa lx x.pc]) (And.intro (Blk.at_ (w := wr.alloc (.cells #[.int .u8 x.kind, .int .i64 x.thread, .int .i64 x.id, .slice x.pa lx x.pc] 26)) (g := wr.heap.size + 1) (t := 26) (cs := #[.int .u8 y.kind, .int .i64 y.thread, .int .i64 y.id, .slice y.pa ly y.pc]) (by simp)) (((Below.refl wr.heap.size wr).alloc (Nat.le_refl _) (.cells #[.int .u8 x.kind, .int .i64 x.thread, .int .i64 x.id, .slice x.pa lx x.pc] 26)).alloc (by simp) (.cells #[.int .u8 y.kind, .int .i64 y.thread, .int .i64 y.id, .slice y.pa ly y.pc] 26))))
            have HP2 := Lib.hid (And.intro (Blk.new wr 26 #[.int .u8 y.kind, .int .i64 y.thread, .int .i64 y.id, .slice y.pa ly y.pc]) (And.intro (Blk.at_ (w := wr.alloc (.cells #[.int .u8 y.kind, .int .i64 y.thread, .int .i64 y.id, .slice y.pa ly y.pc] 26)) (g := wr.heap.size + 1) (t := 26) (cs := #[.int .u8 x.kind, .int .i64 x.thread, .int .i64 x.id, .slice x.pa lx x.pc]) (by simp)) (((Below.refl wr.heap.size wr).alloc (Nat.le_refl _) (.cells #[.int .u8 y.kind, .int .i64 y.thread, .int .i64 y.id, .slice y.pa ly y.pc] 26)).alloc (by simp) (.cells #[.int .u8 x.kind, .int .i64 x.thread, .int .i64 x.id, .slice x.pa lx x.pc] 26))))
            go_region
            all_goals
              clear x0 x1 x2 x3 y0 y1 y2 y3
              go_wp2
              go_meet
              case rel =>
                first
                  | exact ⟨_, _, rfl, rfl, HP1.out.1.alloc _, HP1.out.2.1, HP1.out.2.2.drew⟩
                  | exact ⟨_, _, rfl, rfl, HP2.out.2.1, HP2.out.1.alloc _, HP2.out.2.2.drew⟩
          case rest =>
          obtain ⟨b1, b2, rfl, rfl, hbx, hby, hbw⟩ := hcut
          have q0 := hbx.cell 0
          have q1 := hbx.cell 1
          have q2 := hbx.cell 2
          replace q0 : wc.cell? ⟨b1, 0, none⟩ = some (.int .u8 x.kind) := q0
          replace q1 : wc.cell? ⟨b1, 1, none⟩ = some (.int .i64 x.thread) := q1
          replace q2 : wc.cell? ⟨b1, 2, none⟩ = some (.int .i64 x.id) := q2
          have r0 := hby.cell 0
          have r1 := hby.cell 1
          have r2 := hby.cell 2
          replace r0 : wc.cell? ⟨b2, 0, none⟩ = some (.int .u8 y.kind) := r0
          replace r1 : wc.cell? ⟨b2, 1, none⟩ = some (.int .i64 y.thread) := r1
          replace r2 : wc.cell? ⟨b2, 2, none⟩ = some (.int .i64 y.id) := r2
          have s1 := hbx.lt
          have s2 := hby.lt
          have HBWC := Lib.hid hbw
          have HBW2 := Lib.hid (HBW.out.trans (hbw.mono (show gr ≤ wr.heap.size by rw [HGR.out]; exact HBW.out.size)))
          have HROW2 := Lib.hid (HROW.out.below hbw)
          obtain ⟨vb, hvb⟩ : ∃ b, viaB L k (i + 1) i = b := ⟨_, rfl⟩
          have hci := HROW2.out.cell hik
          rw [show rowF L k (i + 1) i = vb by unfold rowF; rw [if_neg (by omega), hvb]] at hci
          rw [hvb] at HSP
          have HVB := Lib.hid hvb
          have hfi := HROW2.out.frz i
          clear x0 x1 x2 x3 y0 y1 y2 y3 hbx hby hbw hvb
          obtain ⟨d, hd⟩ : ∃ d, dB x y = d := ⟨_, rfl⟩
          rw [hd] at HSP
          have HD := Lib.hid hd
          clear hd
          go_upto_region 10 with fail
          go_cut [77] (fun v wx => v = .bool d ∧ wc = wx)
          case first =>
            clear hci hfi
            obtain ⟨bT, eT⟩ : ∃ b, (x.thread == y.thread) = b := ⟨_, rfl⟩
            obtain ⟨b7, e7⟩ : ∃ b, (x.kind == 7) = b := ⟨_, rfl⟩
            obtain ⟨bI, eI⟩ : ∃ b, (x.id == y.thread) = b := ⟨_, rfl⟩
            obtain ⟨b8, e8⟩ : ∃ b, (y.kind == 8) = b := ⟨_, rfl⟩
            obtain ⟨bJ, eJ⟩ : ∃ b, (x.thread == y.id) = b := ⟨_, rfl⟩
            obtain ⟨b6, e6⟩ : ∃ b, (x.kind == 6) = b := ⟨_, rfl⟩
            obtain ⟨b5, e5⟩ : ∃ b, (y.kind == 5) = b := ⟨_, rfl⟩
            obtain ⟨bK, eK⟩ : ∃ b, (x.id == y.id) = b := ⟨_, rfl⟩
            have hdd : d = (bT || (b7 && bI) || (b8 && bJ) || (b6 && b5 && bK)) := by rw [← HD.out, ← eT, ← e7, ← eI, ← e8, ← eJ, ← e6, ← e5, ← eK]; rfl
            subst hdd
            clear HSP HD
            cases bT
            rotate_left
            · go_wp2
              go_meet
              case rel => exact ⟨rfl, rfl⟩
            cases b7
            · cases b8
              · cases b6
                · go_wp2
                  go_meet
                  case rel => exact ⟨rfl, rfl⟩
                · cases b5 <;> cases bK
                  all_goals
                    go_wp2
                    go_meet
                    case rel => exact ⟨rfl, rfl⟩
              · cases bJ
                · cases b6
                  · go_wp2
                    go_meet
                    case rel => exact ⟨rfl, rfl⟩
                  · cases b5 <;> cases bK
                    all_goals
                      go_wp2
                      go_meet
                      case rel => exact ⟨rfl, rfl⟩
                · go_wp2
                  go_meet
                  case rel => exact ⟨rfl, rfl⟩
            · cases bI
              rotate_left
              · go_wp2
                go_meet
                case rel => exact ⟨rfl, rfl⟩
              cases b8
              · cases b6
                · go_wp2
                  go_meet
                  case rel => exact ⟨rfl, rfl⟩
                · cases b5 <;> cases bK
                  all_goals
                    go_wp2
                    go_meet
                    case rel => exact ⟨rfl, rfl⟩
              · cases bJ
                · cases b6
                  · go_wp2
                    go_meet
                    case rel => exact ⟨rfl, rfl⟩
                  · cases b5 <;> cases bK
                    all_goals
                      go_wp2
                      go_meet
                      case rel => exact ⟨rfl, rfl⟩
                · go_wp2
                  go_meet
                  case rel => exact ⟨rfl, rfl⟩
          case rest =>
          obtain ⟨rfl, rfl⟩ := hcut
          clear q0 q1 q2 r0 r1 r2 s1 s2
          cases d
          · cases vb
            · have HNO := Lib.hid (show ahN L i k = false from HSP.out)
              have HN := Lib.hid (HROW2.out.congr (f' := rowF L k i) (fun j hj => (rowF_no HNO.out HVB.out j).symm))
              go_wp2
              go_roundw
              case rel => exact ⟨i, by omega, by go_num, HN.out, HBW2.out⟩
              case measure => simp [intOf] <;> omega
            · have HY := Lib.hid (show ahN L i k = true from HSP.out)
              have HQ0 := Lib.hid (HROW2.out.congr (f' := rowQ L k i 0) (fun j hj => by
                rw [rowQ_zero]
                by_cases h : j = i
                · subst h; rw [if_pos rfl]; unfold rowF; rw [if_neg (by omega), HVB.out]
                · rw [if_neg h]))
              have HBQ0 := HBW2
              go_wp2
              go_loopw [9] (fun j wq => ∃ q : Nat, q ≤ i ∧ j = .int .i64 q ∧ RowW wq gr gr k (rowQ L k i q) ∧ Below gr wk wq) (fun j _ => i - (intOf j).toNat)
              case atStart => exact ⟨0, by omega, rfl, HQ0.out, HBQ0.out⟩
              case round =>
                obtain ⟨q, hq, rfl, hrow, hbl⟩ := hrel
                have HRW := Lib.hid hrow
                have HBQ := Lib.hid hbl
                clear hrow hbl
                by_cases hqi : q < i
                · have hqI : (q : Int) < (i : Int) := by omega
                  have hqK : (q : Int) < (k : Int) := by omega
                  have hqk : q < k := by omega
                  have cq := HRW.out.cell hqk
                  rw [rowQ_at hqi] at cq
                  have fq := HRW.out.frz q
                  obtain ⟨vb2, hv⟩ : ∃ b, viaB L k (i + 1) q = b := ⟨_, rfl⟩
                  rw [hv] at cq
                  obtain ⟨go, go2, c3, eA, o1, o2⟩ := (HOUT.out.below (show Below wk.heap.size wk wr by rw [← HGR.out]; exact HBQ.out)).at_ hik hqi
                  subst eA
                  obtain ⟨a2, ha⟩ : ∃ b, ahN L q i = b := ⟨_, rfl⟩
                  rw [ha] at o2
                  have HSTT := Lib.hid ((HRW.out.set (p := q) (vb2 || a2)).congr (f' := rowQ L k i (q + 1)) (fun j hj => by rw [rowQ_succ HY.out hik hqi, hv, ha]))
                  have HBS := Lib.hid (HBQ.out.setCell (p := ⟨gr, q, none⟩) (Nat.le_refl gr) (.bool (vb2 || a2)))
                  clear hv ha
                  cases vb2
                  · rw [Bool.false_or] at HSTT HBS
                    go_wp2
                    go_roundw
                    case rel => exact ⟨q + 1, by omega, by go_num, HSTT.out, HBS.out⟩
                    case measure => simp [intOf] <;> omega
                  · rw [Bool.true_or] at HSTT HBS
                    go_wp2
                    go_roundw
                    case rel => exact ⟨q + 1, by omega, by go_num, HSTT.out, HBS.out⟩
                    case measure => simp [intOf] <;> omega
                · obtain rfl : q = i := by omega
                  have HN := Lib.hid (HRW.out.congr (f' := rowF L k q) (fun j hj => rowQ_end HY.out j))
                  have hnq : ¬ (q : Int) < (q : Int) := by omega
                  go_wp2
                  go_roundw
                  case rel => exact ⟨q, by omega, by go_num, HN.out, HBQ.out⟩
                  case measure => simp [intOf] <;> omega
          · have HY := Lib.hid (show ahN L i k = true by rw [HSP.out]; rfl)
            have HQ0 := Lib.hid ((HROW2.out.set (p := i) true).congr (f' := rowQ L k i 0) (fun j hj => (rowQ_zero L k i j).symm))
            have HBQ0 := Lib.hid (HBW2.out.setCell (p := ⟨gr, i, none⟩) (Nat.le_refl gr) (.bool true))
            go_wp2
            go_loopw [9] (fun j wq => ∃ q : Nat, q ≤ i ∧ j = .int .i64 q ∧ RowW wq gr gr k (rowQ L k i q) ∧ Below gr wk wq) (fun j _ => i - (intOf j).toNat)
            case atStart => exact ⟨0, by omega, rfl, HQ0.out, HBQ0.out⟩
            case round =>
              obtain ⟨q, hq, rfl, hrow, hbl⟩ := hrel
              have HRW := Lib.hid hrow
              have HBQ := Lib.hid hbl
              clear hrow hbl
              by_cases hqi : q < i
              · have hqI : (q : Int) < (i : Int) := by omega
                have hqK : (q : Int) < (k : Int) := by omega
                have hqk : q < k := by omega
                have cq := HRW.out.cell hqk
                rw [rowQ_at hqi] at cq
                have fq := HRW.out.frz q
                obtain ⟨vb2, hv⟩ : ∃ b, viaB L k (i + 1) q = b := ⟨_, rfl⟩
                rw [hv] at cq
                obtain ⟨go, go2, c3, eA, o1, o2⟩ := (HOUT.out.below (show Below wk.heap.size wk wr by rw [← HGR.out]; exact HBQ.out)).at_ hik hqi
                subst eA
                obtain ⟨a2, ha⟩ : ∃ b, ahN L q i = b := ⟨_, rfl⟩
                rw [ha] at o2
                have HSTT := Lib.hid ((HRW.out.set (p := q) (vb2 || a2)).congr (f' := rowQ L k i (q + 1)) (fun j hj => by rw [rowQ_succ HY.out hik hqi, hv, ha]))
                have HBS := Lib.hid (HBQ.out.setCell (p := ⟨gr, q, none⟩) (Nat.le_refl gr) (.bool (vb2 || a2)))
                clear hv ha
                cases vb2
                · rw [Bool.false_or] at HSTT HBS
                  go_wp2
                  go_roundw
                  case rel => exact ⟨q + 1, by omega, by go_num, HSTT.out, HBS.out⟩
                  case measure => simp [intOf] <;> omega
                · rw [Bool.true_or] at HSTT HBS
                  go_wp2
                  go_roundw
                  case rel => exact ⟨q + 1, by omega, by go_num, HSTT.out, HBS.out⟩
                  case measure => simp [intOf] <;> omega
              · obtain rfl : q = i := by omega
                have HN := Lib.hid (HRW.out.congr (f' := rowF L k q) (fun j hj => rowQ_end HY.out j))
                have hnq : ¬ (q : Int) < (q : Int) := by omega
                go_wp2
                go_roundw
                case rel => exact ⟨q, by omega, by go_num, HN.out, HBQ.out⟩
                case measure => simp [intOf] <;> omega
    · obtain rfl : k = len := by omega
      have HF := Lib.hid HOUT.out
      have hnk : ¬ (k : Int) < (k : Int) := by omega
      have HL := Lib.hid HR.out.len
      go_wp2
      go_ret
      exact ⟨Ao, co, by rw [HL.out]; rfl, by rw [HL.out]; exact HF.out, HBL.out⟩
end Go.Proofs.Ytpcjcmbhoglnfaa

