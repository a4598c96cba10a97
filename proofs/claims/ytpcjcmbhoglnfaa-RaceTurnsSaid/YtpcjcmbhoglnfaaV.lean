/- Race: contracts of a trace's bad, read, Bad, May. -/
import Derived.Test.YtpcjcmbhoglnfaaU
namespace Go.Proofs.Ytpcjcmbhoglnfaa
open Go.RowKit Go.Shelf
set_option linter.unusedVariables false
set_option linter.unusedSimpArgs false
attribute [local go_sem] Oper.semAt_some

def runT : List Bool → List Ev → Option (List Bool)
  | E, [] => some E
  | E, x :: l => if (doesF E x).1 then runT (doesF E x).2 l else none
theorem runT_append (a b : List Ev) : ∀ E, runT E (a ++ b) = (runT E a).bind fun E' => runT E' b := by
  induction a with
  | nil => intro E; rfl
  | cons x a ih =>
    intro E
    show (if (doesF E x).1 then runT (doesF E x).2 (a ++ b) else none) = (if (doesF E x).1 then runT (doesF E x).2 a else none).bind _
    split
    · exact ih _
    · rfl
theorem take_snoc {L : List Ev} {k : Nat} {x : Ev} (h : L[k]? = some x) : L.take (k + 1) = L.take k ++ [x] := by
  obtain ⟨hl, e⟩ := List.getElem?_eq_some_iff.1 h
  rw [List.take_succ_eq_append_getElem hl, e]
theorem runT_succ {L : List Ev} {k : Nat} {x : Ev} {E E0 : List Bool} (h : L[k]? = some x) (hE : runT E0 (L.take k) = some E) : runT E0 (L.take (k + 1)) = if (doesF E x).1 then some (doesF E x).2 else none := by
  rw [take_snoc h, runT_append, hE]; rfl
theorem runT_none {L : List Ev} {k : Nat} {E0 : List Bool} (h : runT E0 (L.take k) = none) : runT E0 L = none := by
  rw [← List.take_append_drop k L, runT_append, h]; rfl
theorem doesF_len (E : List Bool) (x : Ev) : (doesF E x).2.length ≤ E.length + 1 := by
  unfold doesF
  repeat' split
  all_goals simp
theorem runT_len : ∀ (l : List Ev) (E E' : List Bool), runT E l = some E' → E'.length ≤ E.length + l.length
  | [], E, E', h => by cases h; simp
  | x :: l, E, E', h => by
    unfold runT at h
    split at h
    · have := runT_len l _ _ h
      have := doesF_len E x
      simp; omega
    · cases h
/-- may the row of events be? -/
def mayB (L : List Ev) : Bool := (runT [false] L).isSome

theorem KeepT.others {w w' : World} (h : KeepT w w') : KeepsOthers w w' := ⟨h.1, fun k o hk ho => h.2 k o hk (fun cs t r e => by subst e; cases ho)⟩

def BadX (L : List Ev) (B : Nat) (W1 : World) (i : Nat) (W : World) : Prop := Below B W1 W ∧ mayB L = false
def BadD (L : List Ev) (B gs : Nat) (W1 W : World) : Prop := Below B W1 W ∧ mayB L = true ∧ ∃ E, TS W B gs E

set_option maxRecDepth 100000 in
set_option maxHeartbeats 6400000 in
theorem bad1_in (n : Nat) (hn : 1 ≤ n) (l bl bs gs B n0 : Nat) (A : Option Addr) (len c : Nat) (L : List Ev) (hlen : L.length = len) (hN : len ≤ 60000) (hB : n0 ≤ B) (W : World) (S : World → Prop)
    (hY : ∀ (i : Nat) (W' : World), KeepsOthers W W' → BadX L B W i W' → YieldAt Fence.wide (n - 1) Try.prog l #[.int .i64 i] W' fun e W'' => e = .returned (.bool false) ∧ S W'')
    (h1 : Blk W bl 22 #[.slice A len c]) (h2 : Blk W bs 69 #[.pointer (some ⟨gs, 0, none⟩)]) (hT : TS W B gs [false]) (rd : Rd W n0 4 evC A L) (ok : ∀ x ∈ L, EvOk W n0 x) :
    CallsIn Fence.wide n Try.prog 48 #[.func (.yield l) #[] #[], .pointer (some ⟨bl, 0, none⟩), .pointer (some ⟨bs, 0, none⟩)] W fun e W' => (∃ v, e = .returned v) ∧ ((KeepsOthers W W' ∧ BadD L B gs W W') ∨ S W') := by
  have HL := Lib.hid hlen
  have HOK := Lib.hid ok
  have HRD := Lib.hid rd
  have HY := Lib.hid hY
  have H2 := Lib.hid h2
  have HB := Lib.hid hB
  have q1 := h1.cell 0
  rw [show ∀ v : Value, (#[v] : Array Value)[0]? = some v from fun _ => rfl] at q1
  have hBW : B ≤ W.heap.size := by have := hT.1; have := hT.lt; omega
  have HBW := Lib.hid hBW
  clear hlen ok rd hY h1 h2 hB hBW
  refine callsIn_of_wp Try.func48 rfl trivial ?_ rfl
  simp only [Try.ntmps48, List.size_toArray, List.length_cons, List.length_nil, Nat.reduceAdd, Nat.reduceSub, Array.replicate_succ, Array.replicate_zero, List.push_toArray, List.append_toArray, List.nil_append, List.cons_append]
  gi_wp2
  gi_loopw [8] (fun i wr => ∃ (k : Nat) (E : List Bool), k ≤ len ∧ i = .int .i64 k ∧ runT [false] (L.take k) = some E ∧ TS wr B gs E ∧ Below B W wr ∧ KeepT W wr) (fun i _ => len - (intOf i).toNat)
  case atStart => exact ⟨0, [false], Nat.zero_le _, rfl, rfl, hT, Below.refl _ _, .of_below (Below.refl _ _)⟩
  case round =>
    obtain ⟨k, E, hk, rfl, hE, hTS, hb, hkt⟩ := hrel
    clear q1
    have HE := Lib.hid hE
    have hEl := runT_len _ _ _ hE
    clear hE
    by_cases hlt : k < len
    · obtain ⟨b, off, rfl, hbb, hc⟩ := HRD.out.at_ (k := k) (by rw [HL.out]; exact hlt)
      obtain ⟨x, hxk⟩ : ∃ x, x = L[k]'(by rw [HL.out]; exact hlt) := ⟨_, rfl⟩
      rw [← hxk] at hc
      have hx? : L[k]? = some x := by rw [hxk]; exact List.getElem?_eq_getElem _
      have hok : EvOk W n0 x := HOK.out x (by rw [hxk]; exact List.getElem_mem _)
      have hn0 : b < B := Nat.lt_of_lt_of_le hbb HB.out
      have d0 := (hb.cell (p := ⟨b, off + k * 4, none⟩) hn0).trans (by simpa using hc 0 _ rfl)
      have d1 := (hb.cell (p := ⟨b, off + k * 4 + 1, none⟩) hn0).trans (hc 1 _ rfl)
      have d2 := (hb.cell (p := ⟨b, off + k * 4 + 2, none⟩) hn0).trans (hc 2 _ rfl)
      have d3 := (hb.cell (p := ⟨b, off + k * 4 + 3, none⟩) hn0).trans (hc 3 _ rfl)
      have hsz : B ≤ wr.heap.size := by have := hb.size; have := HBW.out; omega
      have hdo := does_any B gs E x (wr.alloc (.cells #[.int .u8 x.kind, .int .i64 x.thread, .int .i64 x.id, .slice x.pa x.path.length x.pc] 26)) (hTS.below ((Below.refl _ wr).alloc (Nat.le_refl _) _)) (by rw [List.length_take] at hEl; simp at hEl; omega) (((hok.below (hb.mono HB.out)).below ((Below.refl _ wr).alloc (by have := HB.out; omega) _)).more (by have := HB.out; simp; omega))
      have HDO := Lib.hid (callsIn_wide (n := n - 1).2 hdo)
      have hs := runT_succ hx? HE.out
      have HS := Lib.hid hs
      have hbs := (hkt.blk H2.out (by decide) (by decide)).alloc (.cells #[.int .u8 x.kind, .int .i64 x.thread, .int .i64 x.id, .slice x.pa x.path.length x.pc] 26)
      have q2 := hbs.cell 0
      rw [show ∀ v : Value, (#[v] : Array Value)[0]? = some v from fun _ => rfl] at q2
      have q3 := hbs.lt
      have hki : (k : Int) < (len : Int) := by omega
      have hk6 : decide ((65536 : Int) ≤ (k : Int)) = false := by simp; omega
      have HHB := Lib.hid hb
      have HKT := Lib.hid hkt
      obtain ⟨r0, hr0⟩ : ∃ r, (doesF E x).1 = r := ⟨_, rfl⟩
      obtain ⟨xk, xt, xi, xa, xc, xp⟩ := x
      obtain ⟨xl, hxl⟩ : ∃ m, m = xp.length := ⟨_, rfl⟩
      simp only [← hxl] at d0 d1 d2 d3 HDO q2 q3
      have HR0 := Lib.hid hr0
      clear hdo hs hc hx? hxk hok hTS hEl hb hkt hbs hr0 hxl
      gi_wp2_with fail
      refine ⟨trivial, ?_⟩
      refine HDO.out.mono ?_
      rintro r w3 ⟨rfl, hT3, hB3, hK3⟩
      rw [HR0.out]
      have hb3 : Below B W w3 := HHB.out.trans ((((Below.refl B wr).alloc (by have := HHB.out.size; have := HBW.out; omega) _)).trans hB3)
      have hk3 : KeepT W w3 := HKT.out.trans ((KeepT.of_below ((Below.refl _ wr).alloc (Nat.le_refl _) _)).trans hK3)
      have HB3 := Lib.hid hb3
      have HK3 := Lib.hid hk3
      have HT3 := Lib.hid hT3
      clear hb3 hk3 hT3 hB3 hK3 d0 d1 d2 d3 q2 q3 HDO
      cases r0 with
      | true =>
        gi_wp2
        refine ⟨fun f hf => (by cases hf), ?_⟩
        gi_wp2
        go_roundw
        case rel => exact ⟨k + 1, _, by omega, by go_num, by rw [HS.out, HR0.out]; rfl, HT3.out, HB3.out, HK3.out⟩
        case measure => simp [intOf] <;> omega
      | false =>
        have hm : mayB L = false := by
          unfold mayB
          rw [runT_none (k := k + 1) (by rw [HS.out, HR0.out]; rfl)]; rfl
        obtain ⟨fn, tmps, assign, body, hy, hR⟩ := HY.out k w3 HK3.out.others ⟨HB3.out, hm⟩
        have HM := Lib.hid hm
        clear hm
        gi_wp2
        refine hR.mono ?_
        rintro e W4 ⟨rfl, hS⟩
        gi_wp2
        refine bodyPost_ret (results_none rfl _ _ _) rfl ?_
        exact ⟨⟨_, rfl⟩, .inr hS⟩
    · obtain rfl : k = len := by omega
      have hm : mayB L = true := by
        unfold mayB
        rw [← List.take_of_length_le (l := L) (i := k) (by rw [HL.out]; exact Nat.le_refl _), HE.out]; rfl
      gi_wp2
      go_end0
      exact ⟨⟨_, rfl⟩, .inl ⟨hkt.others, hb, hm, E, hTS⟩⟩
end Go.Proofs.Ytpcjcmbhoglnfaa
