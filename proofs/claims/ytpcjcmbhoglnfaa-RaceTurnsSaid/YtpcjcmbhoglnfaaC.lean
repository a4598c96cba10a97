/- Clock: contracts of Tick and Join. -/
import Derived.Test.YtpcjcmbhoglnfaaA
namespace Go.Proofs.Ytpcjcmbhoglnfaa
open Go.RowKit
set_option linter.unusedVariables false

theorem drewN_zero (w : World) : w = w.drewN 0 := rfl

theorem tick_form {w : World} {bt bn bc : Nat} {tick : Bool} {n : Int} {A : Option Addr} {len c B : Nat} {C : List Int} (N : Nat) (ht : Blk w bt 4 #[.bool tick]) (hn : Blk w bn 3 #[.int .i64 n]) (hc : Blk w bc 24 #[.slice A len c]) (hlen : C.length = len) (h : Rd w B 1 intC A C) (hB : B ≤ w.heap.size) (hN : N ≤ 1000000) :
    Calls Try.prog 42 #[.int .i64 N, .func (.func 43) #[] #[.pointer (some ⟨bt, 0, none⟩), .pointer (some ⟨bn, 0, none⟩), .pointer (some ⟨bc, 0, none⟩)]] w fun r w' => ∃ v, r = .returned v ∧ w'.ownsRow w.heap.size 3 1 v (formL (tickG C tick n) N).length ((formL (tickG C tick n) N).flatMap intC) ∧ Below w.heap.size w w' :=
  formT N (tickG C tick n) _ _ _ w hN fun W hW i _ =>
    (tick1_any bt bn bc tick n A len c w.heap.size C i W (ht.below hW ht.lt) (hn.below hW hn.lt) (hc.below hW hc.lt) hlen ((h.more hB).below hW)).mono fun r W' ⟨h1, h2⟩ => ⟨h1, 0, h2.symm⟩

theorem blk1 (w : World) (t : TypeId) (cs : Array Value) (o : Obj) : Blk ((w.alloc o).alloc (.cells cs t)) (w.heap.size + 1) t cs := by
  have := Blk.new (w.alloc o) t cs
  rwa [World.size_alloc] at this
theorem blk2 (w : World) (t : TypeId) (cs : Array Value) (o o' : Obj) : Blk (((w.alloc o).alloc o').alloc (.cells cs t)) (w.heap.size + 1 + 1) t cs := by
  have := Blk.new ((w.alloc o).alloc o') t cs
  rwa [World.size_alloc, World.size_alloc] at this

/-- does the thread tick? -/
def tickOn (C : List Int) (n : Int) : Bool := decide (0 ≤ n) && decide (n < 65536) && decide (atZ C n < 9223372036854775807)
def tickN (C : List Int) (n : Int) : Nat := if tickOn C n then max C.length (n.toNat + 1) else C.length
def tickL (C : List Int) (n : Int) : List Int := formL (tickG C (tickOn C n) n) (tickN C n)

/-- what a call that makes a row of numbers leaves -/
def Made (w : World) (L : List Int) (r : Ending) (w' : World) : Prop :=
  ∃ v, r = .returned v ∧ w'.ownsRow w.heap.size 3 1 v L.length (L.flatMap intC) ∧ Below w.heap.size w w'
theorem Made.up {w w1 : World} {L : List Int} {r : Ending} {w' : World} (h : Made w1 L r w') (hb : Below w.heap.size w w1) : Made w L r w' := by
  obtain ⟨v, h1, h2, h3⟩ := h
  refine ⟨v, h1, ?_, hb.trans (h3.mono hb.size)⟩
  refine ⟨h2.1, ?_⟩
  rcases h2.2 with hn | ⟨g, cap, cur, rfl, hg, rest⟩
  · exact .inl hn
  · exact .inr ⟨g, cap, cur, rfl, Nat.le_trans hb.size hg, rest⟩

set_option maxHeartbeats 1600000 in
theorem tick_any (A : Option Addr) (len c : Nat) (C : List Int) (n : Int) (w : World) (hlen : C.length = len) (hN : len ≤ 900000) (h : Rd w w.heap.size 1 intC A C) :
    Calls Try.prog 35 #[.slice A len c, .int .i64 n] w (Made w (tickL C n)) := by
  have hbel : ∀ (o1 o2 o3 : Obj), Below w.heap.size w (((w.alloc o1).alloc o2).alloc o3) := fun o1 o2 o3 => (((Below.refl _ w).alloc (Nat.le_refl _) _).alloc (by simp) _).alloc (by simp; omega) _
  have HBEL := Lib.hid hbel
  clear hbel
  have hat : ∀ (o1 o2 : Obj), Calls Try.prog 37 #[.slice A len c, .int .i64 n] ((w.alloc o1).alloc o2) fun r w' => r = .returned (.int .i64 (atZ C n)) ∧ (w.alloc o1).alloc o2 = w' := fun o1 o2 => at_c hlen ((h.alloc (Nat.le_refl _) o1).alloc (by simp) o2)
  have HAT := Lib.hid hat
  clear hat
  have hmf : ∀ (fn : Fn) (first cap : Array Value) (w : World), (Instr.makeFunc fn first cap).run Try.prog w = .ok (.func fn first cap) w := fun _ _ _ _ => rfl
  have fin : ∀ (tick : Bool) (N : Nat), N ≤ 1000000 → tickOn C n = tick → tickN C n = N → Calls Try.prog 42 #[.int .i64 N, .func (.func 43) #[] #[.pointer (some ⟨w.heap.size + 1 + 1, 0, none⟩), .pointer (some ⟨w.heap.size + 1, 0, none⟩), .pointer (some ⟨w.heap.size, 0, none⟩)]] (((w.alloc (.cells #[.slice A len c] 24)).alloc (.cells #[.int .i64 n] 3)).alloc (.cells #[.bool tick] 4)) (Made w (tickL C n)) := by
    intro tick N hN' ht hn'
    have := tick_form (tick := tick) (n := n) N (blk2 w 4 #[.bool tick] (.cells #[.slice A len c] 24) (.cells #[.int .i64 n] 3)) ((blk1 w 3 #[.int .i64 n] (.cells #[.slice A len c] 24)).alloc _) (((Blk.new w 24 #[.slice A len c]).alloc _).alloc _) hlen (((h.alloc (Nat.le_refl _) _).alloc (by simp) _).alloc (by simp; omega) _) (by simp; omega) hN'
    refine this.mono fun r w' hm => ?_
    unfold tickL
    rw [ht, hn']
    exact Made.up hm (HBEL.out _ _ _)
  have hl := hlen
  clear hlen h
  by_cases h0 : n < 0
  · have F := fin false len (by omega) (by simp [tickOn]; omega) (by simp [tickN, tickOn, hl]; omega)
    have HF := Lib.hid F
    clear F fin hl
    go_enter Try.func35, Try.ntmps35
    go_wp2_with fail
    refine HF.out.mono ?_
    rintro r w' ⟨v, rfl, hown, hb⟩
    go_wp2
    go_ret
    exact ⟨v, rfl, hown, hb⟩
  by_cases h1 : 65536 ≤ n
  · have F := fin false len (by omega) (by simp [tickOn]; omega) (by simp [tickN, tickOn, hl]; omega)
    have HF := Lib.hid F
    clear F fin hl
    go_enter Try.func35, Try.ntmps35
    go_wp2_with fail
    refine HF.out.mono ?_
    rintro r w' ⟨v, rfl, hown, hb⟩
    go_wp2
    go_ret
    exact ⟨v, rfl, hown, hb⟩
  obtain ⟨k, rfl⟩ : ∃ k : Nat, n = k := ⟨n.toNat, by omega⟩
  have hk : k < 65536 := by omega
  have hki : (k : Int) < 65536 := by omega
  obtain ⟨v, hv⟩ : ∃ v, v = atZ C k := ⟨_, rfl⟩
  by_cases hmax : v < 9223372036854775807
  · have hon : tickOn C k = true := by simp [tickOn, ← hv, hmax]; omega
    have hd : decide (v < 9223372036854775807) = true := decide_eq_true hmax
    rw [← hv] at HAT
    clear hmax h0 h1
    by_cases hlk : len ≤ k
    · have F := fin true (k + 1) (by omega) hon (by simp only [tickN, hon, if_true, hl]; omega)
      have HF := Lib.hid F
      clear F fin hl hon hv
      go_enter Try.func35, Try.ntmps35
      go_wp2_with (go_at_call 37; refine (HAT.out _ _).mono ?_; rintro r w' ⟨rfl, rfl⟩)
      refine HF.out.mono ?_
      rintro r w' ⟨v, rfl, hown, hb⟩
      go_wp2
      go_ret
      exact ⟨v, rfl, hown, hb⟩
    · have F := fin true len (by omega) hon (by simp only [tickN, hon, if_true, hl]; omega)
      have HF := Lib.hid F
      clear F fin hl hon hv
      go_enter Try.func35, Try.ntmps35
      go_wp2_with (go_at_call 37; refine (HAT.out _ _).mono ?_; rintro r w' ⟨rfl, rfl⟩)
      refine HF.out.mono ?_
      rintro r w' ⟨v, rfl, hown, hb⟩
      go_wp2
      go_ret
      exact ⟨v, rfl, hown, hb⟩
  · have hon : tickOn C k = false := by simp [tickOn, ← hv, hmax]
    have hd : decide (v < 9223372036854775807) = false := decide_eq_false hmax
    rw [← hv] at HAT
    clear hmax h0 h1
    have F := fin false len (by omega) hon (by simp [tickN, hon, hl])
    have HF := Lib.hid F
    clear F fin hl hon hv
    go_enter Try.func35, Try.ntmps35
    go_wp2_with (go_at_call 37; refine (HAT.out _ _).mono ?_; rintro r w' ⟨rfl, rfl⟩)
    refine HF.out.mono ?_
    rintro r w' ⟨v, rfl, hown, hb⟩
    go_wp2
    go_ret
    exact ⟨v, rfl, hown, hb⟩

theorem join_form {w : World} {b1 b2 : Nat} {A1 A2 : Option Addr} {l1 c1 l2 c2 B : Nat} {C D : List Int} (N : Nat) (h1 : Blk w b1 24 #[.slice A1 l1 c1]) (h2 : Blk w b2 24 #[.slice A2 l2 c2]) (hl1 : C.length = l1) (hl2 : D.length = l2) (r1 : Rd w B 1 intC A1 C) (r2 : Rd w B 1 intC A2 D) (hB : B ≤ w.heap.size) (hN : N ≤ 1000000) :
    Calls Try.prog 42 #[.int .i64 N, .func (.func 44) #[] #[.pointer (some ⟨b1, 0, none⟩), .pointer (some ⟨b2, 0, none⟩)]] w (Made w (formL (joinG C D) N)) :=
  formJ N (joinG C D) _ _ w hN fun W hW i _ => join1_any b1 b2 A1 A2 l1 c1 l2 c2 w.heap.size C D i W (h1.below hW h1.lt) (h2.below hW h2.lt) hl1 hl2 ((r1.more hB).below hW) ((r2.more hB).below hW)

def joinL (C D : List Int) : List Int := formL (joinG C D) (max C.length D.length)

set_option maxHeartbeats 1600000 in
theorem join_any (A1 A2 : Option Addr) (l1 c1 l2 c2 : Nat) (C D : List Int) (w : World) (h1 : C.length = l1) (h2 : D.length = l2) (hN1 : l1 ≤ 900000) (hN2 : l2 ≤ 900000) (r1 : Rd w w.heap.size 1 intC A1 C) (r2 : Rd w w.heap.size 1 intC A2 D) :
    Calls Try.prog 36 #[.slice A1 l1 c1, .slice A2 l2 c2] w (Made w (joinL C D)) := by
  have hbel : ∀ (o1 o2 : Obj), Below w.heap.size w ((w.alloc o1).alloc o2) := fun o1 o2 => (((Below.refl _ w).alloc (Nat.le_refl _) _).alloc (by simp) _)
  have hmf : ∀ (fn : Fn) (first cap : Array Value) (w : World), (Instr.makeFunc fn first cap).run Try.prog w = .ok (.func fn first cap) w := fun _ _ _ _ => rfl
  have fin : ∀ N : Nat, max l1 l2 = N → Calls Try.prog 42 #[.int .i64 N, .func (.func 44) #[] #[.pointer (some ⟨w.heap.size, 0, none⟩), .pointer (some ⟨w.heap.size + 1, 0, none⟩)]] ((w.alloc (.cells #[.slice A1 l1 c1] 24)).alloc (.cells #[.slice A2 l2 c2] 24)) (Made w (joinL C D)) := by
    intro N hN
    have := join_form (C := C) (D := D) N ((Blk.new w 24 #[.slice A1 l1 c1]).alloc _) (blk1 w 24 #[.slice A2 l2 c2] (.cells #[.slice A1 l1 c1] 24)) h1 h2 ((r1.alloc (Nat.le_refl _) _).alloc (by simp) _) ((r2.alloc (Nat.le_refl _) _).alloc (by simp) _) (by simp; omega) (by omega)
    refine this.mono fun r w' hm => ?_
    unfold joinL
    rw [h1, h2, hN]
    exact Made.up hm (hbel _ _)
  by_cases hlt : l1 < l2
  · have F := fin l2 (by omega)
    have HF := Lib.hid F
    clear F fin h1 h2 r1 r2 hbel
    go_enter Try.func36, Try.ntmps36
    go_wp2_with fail
    refine HF.out.mono ?_
    rintro r w' ⟨v, rfl, hown, hb⟩
    go_wp2
    go_ret
    exact ⟨v, rfl, hown, hb⟩
  · have F := fin l1 (by omega)
    have HF := Lib.hid F
    clear F fin h1 h2 r1 r2 hbel
    go_enter Try.func36, Try.ntmps36
    go_wp2_with fail
    refine HF.out.mono ?_
    rintro r w' ⟨v, rfl, hown, hb⟩
    go_wp2
    go_ret
    exact ⟨v, rfl, hown, hb⟩
theorem trim_congr {g g' : Nat → Int} : ∀ n, (∀ i, i < n → g i = g' i) → trim g n = trim g' n
  | 0, _ => rfl
  | n + 1, h => by
    unfold trim
    rw [h n (by omega), trim_congr n fun i hi => h i (by omega)]
theorem formL_congr {g g' : Nat → Int} (n : Nat) (h : ∀ i, i < n → g i = g' i) : formL g n = formL g' n := by
  unfold formL
  rw [trim_congr n h]
  refine List.map_congr_left fun i hi => h i ?_
  have := trim_le g' n
  have := List.mem_range.1 hi
  omega

theorem trim_zero (g : Nat → Int) : ∀ N i, trim g N ≤ i → i < N → g i = 0
  | 0, i, _, h => by omega
  | n + 1, i, h, hi => by
    unfold trim at h
    split at h
    · rename_i h0
      rcases Nat.lt_or_ge i n with h1 | h1
      · exact trim_zero g n i h h1
      · obtain rfl : i = n := by omega
        exact h0
    · omega
theorem trim_last (g : Nat → Int) : ∀ N k, trim g N = k + 1 → g k ≠ 0
  | 0, k, h => by simp [trim] at h
  | n + 1, k, h => by
    unfold trim at h
    split at h
    · exact trim_last g n k h
    · rename_i h0
      obtain rfl : n = k := by omega
      exact h0
theorem trim_ext (g : Nat → Int) (n : Nat) : ∀ m, n ≤ m → (∀ i, n ≤ i → i < m → g i = 0) → trim g m = trim g n
  | 0, h, _ => by obtain rfl : n = 0 := by omega
                  rfl
  | m + 1, h, hz => by
    rcases Nat.eq_or_lt_of_le h with e | e
    · rw [e]
    · conv => lhs; unfold trim
      rw [if_pos (hz m (by omega) (by omega))]
      exact trim_ext g n m (by omega) fun i h1 h2 => hz i h1 (by omega)
theorem formL_ext (g : Nat → Int) (n m : Nat) (h : n ≤ m) (hz : ∀ i, n ≤ i → i < m → g i = 0) : formL g m = formL g n := by
  unfold formL; rw [trim_ext g n m h hz]
theorem formL_length (g : Nat → Int) (N : Nat) : (formL g N).length = trim g N := by simp [formL]
theorem atZ_nat (C : List Int) (i : Nat) : atZ C i = C.getD i 0 := by
  by_cases h : i < C.length
  · rw [atZ_in (List.getElem?_eq_getElem h), List.getD_eq_getElem?_getD, List.getElem?_eq_getElem h]; rfl
  · rw [atZ_out (.inr (by omega)), List.getD_eq_getElem?_getD, List.getElem?_eq_none (by omega)]; rfl
theorem atZ_neg (C : List Int) {n : Int} (h : n < 0) : atZ C n = 0 := atZ_out (.inl h)
theorem atZ_formL (g : Nat → Int) (N i : Nat) : atZ (formL g N) i = if i < N then g i else 0 := by
  by_cases h : i < trim g N
  · have h2 := trim_le g N
    rw [if_pos (by omega)]
    refine atZ_in ?_
    unfold formL
    rw [List.getElem?_map, List.getElem?_range h]; rfl
  · rw [atZ_out (.inr (by rw [formL_length]; omega))]
    split
    · exact (trim_zero g N i (by omega) (by assumption)).symm
    · rfl
theorem all_int {P : Int → Prop} (h0 : ∀ n : Int, n < 0 → P n) (h1 : ∀ i : Nat, P i) (n : Int) : P n := by
  by_cases h : n < 0
  · exact h0 n h
  · obtain ⟨i, rfl⟩ : ∃ i : Nat, n = i := ⟨n.toNat, by omega⟩
    exact h1 i
theorem atZ_joinL (C D : List Int) (n : Int) : atZ (joinL C D) n = max (atZ C n) (atZ D n) := by
  revert n
  refine all_int (fun n h => by rw [atZ_neg _ h, atZ_neg _ h, atZ_neg _ h]; rfl) fun i => ?_
  unfold joinL
  rw [atZ_formL]
  split
  · rfl
  · rw [atZ_out (C := C) (.inr (by omega)), atZ_out (C := D) (.inr (by omega))]; rfl
theorem bool_iff {a b : Bool} (h : a = true ↔ b = true) : a = b := by cases a <;> cases b <;> simp_all
theorem tickOn_iff (C : List Int) (n : Int) : tickOn C n = true ↔ 0 ≤ n ∧ n < 65536 ∧ atZ C n < 9223372036854775807 := by
  simp [tickOn, and_assoc]
theorem atZ_tickL (C : List Int) (n : Int) (hb : -9223372036854775808 ≤ atZ C n) (m : Int) : atZ (tickL C n) m = if tickOn C n = true ∧ m = n then atZ C n + 1 else atZ C m := by
  revert m
  refine all_int (fun m hm => ?_) fun i => ?_
  · rw [atZ_neg _ hm, atZ_neg _ hm]
    by_cases ht : tickOn C n = true ∧ m = n
    · have := (tickOn_iff C n).1 ht.1; omega
    · rw [if_neg ht]
  · unfold tickL
    rw [atZ_formL]
    unfold tickG tickN
    by_cases ht : tickOn C n = true
    · obtain ⟨h0, h1, h2⟩ := (tickOn_iff C n).1 ht
      by_cases hn : (i : Int) = n
      · rw [if_pos ht, if_pos (by omega), if_pos ⟨ht, hn⟩, if_pos ⟨ht, hn⟩, hn]
        unfold wrap64; omega
      · have e1 : (if tickOn C n = true ∧ (i : Int) = n then wrap64 (atZ C i + 1) else atZ C i) = atZ C i := if_neg (fun h => hn h.2)
        have e2 : (if tickOn C n = true ∧ (i : Int) = n then atZ C n + 1 else atZ C i) = atZ C i := if_neg (fun h => hn h.2)
        rw [if_pos ht, e1, e2]
        by_cases hi : i < max C.length (n.toNat + 1)
        · rw [if_pos hi]
        · rw [if_neg hi, atZ_out (.inr (by omega))]
    · have e1 : (if tickOn C n = true ∧ (i : Int) = n then wrap64 (atZ C i + 1) else atZ C i) = atZ C i := if_neg (fun h => ht h.1)
      have e2 : (if tickOn C n = true ∧ (i : Int) = n then atZ C n + 1 else atZ C i) = atZ C i := if_neg (fun h => ht h.1)
      rw [if_neg ht, e1, e2]
      by_cases hi : i < C.length
      · rw [if_pos hi]
      · rw [if_neg hi, atZ_out (.inr (by omega))]
end Go.Proofs.Ytpcjcmbhoglnfaa
