/- Places: contracts of the functions that go through some places: ContainsFunc at whatever function, Many, SameAll; and Root, Through. -/
import Derived.Test.YtnofmnoohnmanaaPlC
namespace Go.Proofs.Ytnofmnoohnmanaa
open Go.RowKit
set_option linter.unusedVariables false
set_option linter.unusedSimpArgs false

theorem Rd.pl {w : World} {B : Nat} {A : Option Addr} {L : List Pl} (h : Rd w B 2 plC A L) {k : Nat} {x : Pl} (hk : L[k]? = some x) :
    ∃ b off, A = some ⟨b, off, none⟩ ∧ b < B ∧ w.cell? ⟨b, off + k * 2, none⟩ = some (.string x.name) ∧ w.cell? ⟨b, off + k * 2 + 1, none⟩ = some (.slice x.pa x.path.length x.pc) := by
  obtain ⟨hl, e⟩ := List.getElem?_eq_some_iff.1 hk
  obtain ⟨b, off, hA, hb, hc⟩ := h.at_ hl
  rw [e] at hc
  exact ⟨b, off, hA, hb, by simpa using hc 0 _ rfl, by simpa using hc 1 _ rfl⟩

/-- a row of places -/
structure PlRow (w : World) (A : Option Addr) (len c : Nat) (L : List Pl) : Prop where
  ln : L.length = len
  rd : Rd w w.heap.size 2 plC A L
  ok : ∀ x ∈ L, PlOk w w.heap.size x
  cp : len ≤ c
  bg : len ≤ 1000000
theorem PlRow.below {w w' : World} {A : Option Addr} {len c : Nat} {L : List Pl} (h : PlRow w A len c L) (hb : Below w.heap.size w w') : PlRow w' A len c L :=
  ⟨h.ln, (h.rd.below hb).more hb.size, fun x hx => (h.ok x hx).next hb, h.cp, h.bg⟩
def Is (x : Int → Bool → Prop) : Prop := ∃ z b, x z b
theorem enter1 (args : Array Value) (W : World) : (callFunc 31 args).run Try.prog W = .ok (.enter 31 args) W := by kernel_rfl
/-- an index, or -1 -/
def AnyAt (b : Bool) (w : World) (r : Ending) (w' : World) : Prop := (∃ z : Int, r = .returned (.int .i64 z) ∧ decide (0 ≤ z) = b) ∧ Below w.heap.size w w'

set_option maxHeartbeats 800000 in
theorem pidx_any (F : Nat) (cap : Value) (p : Pl → Bool) (A : Option Addr) (len c : Nat) (L : List Pl) (w : World) (h : PlRow w A len c L)
    (hE : ∀ (args : Array Value) (W : World), (callFunc F args).run Try.prog W = .ok (.enter F args) W) (hF : ∀ W, Below w.heap.size w W → ∀ x ∈ L, ∀ b, p x = b → Calls Try.prog F #[.agg #[.string x.name, .slice x.pa x.path.length x.pc], cap] W fun r W' => r = .returned (.bool b) ∧ Below W.heap.size W W') :
    Calls Try.prog 38 #[.slice A len c, .func (.func F) #[] #[cap]] w (AnyAt (L.any p) w) := by
  have HF := Lib.hid hF
  have H := Lib.hid h
  have hN := h.bg
  clear hF h
  go_enter Try.func38, Try.ntmps38
  go_wp2
  go_loopw [8] (fun i wr => ∃ k : Nat, k ≤ len ∧ i = .int .i64 k ∧ (∀ (q : Nat) (y : Pl), q < k → L[q]? = some y → p y = false) ∧ Below w.heap.size w wr) (fun i _ => len - (intOf i).toNat)
  case atStart => exact ⟨0, by omega, rfl, fun q y hq => by omega, Below.refl _ _⟩
  case round =>
    obtain ⟨k, hk, rfl, hall, hbl⟩ := hrel
    have HA := Lib.hid hall
    have HB := Lib.hid hbl
    clear hall hbl
    by_cases hlt : k < len
    · obtain ⟨x, hx⟩ : ∃ x, L[k]? = some x := ⟨_, List.getElem?_eq_getElem (by rw [H.out.ln]; exact hlt)⟩
      obtain ⟨b, off, hA, hb, c0, c1⟩ := ((H.out.below HB.out).rd).pl hx
      subst hA
      have hki : (k : Int) < (len : Int) := by omega
      have hmem := List.mem_of_getElem? hx
      obtain ⟨b, hpb⟩ : ∃ b, p x = b := ⟨_, rfl⟩
      have HC := Lib.hid (HF.out wr HB.out x hmem b hpb)
      obtain ⟨lx, hlx⟩ : ∃ n, x.path.length = n := ⟨_, rfl⟩
      rw [hlx] at c1 HC
      cases b
      · have hnx : ∀ (q : Nat) (z : Pl), q < k + 1 → L[q]? = some z → p z = false := by
          intro q z hq hz
          rcases Nat.lt_or_ge q k with h1 | h1
          · exact HA.out q z h1 hz
          · obtain rfl : q = k := by omega
            rw [hx] at hz; cases hz; exact hpb
        have HN := Lib.hid hnx
        clear hnx hx hpb hmem hlx
        go_wp2_with fail
        refine HC.out.mono ?_
        rintro r w1 ⟨rfl, hb1⟩
        have HB1 := Lib.hid (HB.out.trans (hb1.mono HB.out.size))
        clear hb1
        go_wp2
        go_roundw
        case rel => exact ⟨k + 1, by omega, by go_num, HN.out, HB1.out⟩
        case measure => simp [intOf] <;> omega
      · have HN := Lib.hid (show L.any p = true from List.any_eq_true.2 ⟨x, hmem, hpb⟩)
        clear hx hpb hmem hlx
        go_wp2_with fail
        refine HC.out.mono ?_
        rintro r w1 ⟨rfl, hb1⟩
        have HB1 := Lib.hid (HB.out.trans (hb1.mono HB.out.size))
        clear hb1
        go_wp2
        go_ret
        exact ⟨⟨_, rfl, by rw [HN.out]; simp⟩, HB1.out⟩
    · obtain rfl : k = len := by omega
      have HN := Lib.hid (show L.any p = false by
        rw [List.any_eq_false]
        intro x hx
        obtain ⟨q, hq⟩ := List.mem_iff_getElem?.1 hx
        rw [HA.out q x (by rw [← H.out.ln]; exact (List.getElem?_eq_some_iff.1 hq).1) hq]; simp)
      go_wp2
      go_ret
      exact ⟨⟨_, rfl, by rw [HN.out]; rfl⟩, HB.out⟩
theorem phas_any (F : Nat) (cap : Value) (p : Pl → Bool) (A : Option Addr) (len c : Nat) (L : List Pl) (w : World) (h : PlRow w A len c L) (b : Bool) (hb : L.any p = b)
    (hE : ∀ (args : Array Value) (W : World), (callFunc F args).run Try.prog W = .ok (.enter F args) W) (hF : ∀ W, Below w.heap.size w W → ∀ x ∈ L, ∀ b, p x = b → Calls Try.prog F #[.agg #[.string x.name, .slice x.pa x.path.length x.pc], cap] W fun r W' => r = .returned (.bool b) ∧ Below W.heap.size W W') :
    Calls Try.prog 33 #[.slice A len c, .func (.func F) #[] #[cap]] w fun r w' => r = .returned (.bool b) ∧ Below w.heap.size w w' := by
  have HI := Lib.hid (pidx_any F cap p A len c L w h hE hF)
  rw [hb] at HI
  clear h hE hF hb
  go_enter Try.func33, Try.ntmps33
  go_wp2_with fail
  refine HI.out.mono ?_
  rintro r w1 ⟨⟨z, rfl, hz⟩, hb1⟩
  have HZ := Lib.hid hz
  have HB1 := Lib.hid hb1
  clear hz hb1
  go_wp2
  go_ret
  exact ⟨by rw [← HZ.out]; rfl, HB1.out⟩

theorem root_any (x : Pl) (w : World) :
    Calls Try.prog 28 #[.agg #[.string x.name, .slice x.pa x.path.length x.pc]] w fun r w' => r = .returned (.agg #[.string x.name, .slice none 0 0]) ∧ Below w.heap.size w w' := by
  go_enter Try.func28, Try.ntmps28
  go_wp2
  refine bodyPost_ret (v := .agg #[.string x.name, .slice none 0 0]) (by simp [results, Try.results28, go_sem]) rfl ⟨rfl, ?_⟩
  exact ((Below.refl _ _).alloc (Nat.le_refl _) _).alloc (by simp) _
def star : ByteArray := ⟨#[42]⟩
theorem star_l : star.toList = [42] := by rw [ByteArray.toList_eq]; rfl
def thrL (L : List ByteArray) : Nat := (L.filter (fun s => s.toList == star.toList)).length
theorem thrL_le (L : List ByteArray) : thrL L ≤ L.length := List.length_filter_le _ _
theorem thrL_succ {L : List ByteArray} {k : Nat} {s : ByteArray} (h : L[k]? = some s) : thrL (L.take (k + 1)) = if (s.toList == star.toList) = true then thrL (L.take k) + 1 else thrL (L.take k) := by
  unfold thrL
  rw [List.take_add_one, h, List.filter_append]
  cases hs : (s.toList == star.toList) <;> simp [hs]
set_option maxHeartbeats 800000 in
theorem through_any (x : Pl) (w : World) (hx : PlOk w w.heap.size x) (hl : x.path.length ≤ 1000000) :
    Calls Try.prog 21 #[.agg #[.string x.name, .slice x.pa x.path.length x.pc]] w fun r w' => r = .returned (.int .i64 (thrL x.path)) ∧ Below w.heap.size w w' := by
  obtain ⟨lx, hlx⟩ : ∃ n, x.path.length = n := ⟨_, rfl⟩
  obtain ⟨W, hW⟩ : ∃ W, W = (w.alloc (.cells #[.string x.name, .slice x.pa lx x.pc] 24)) := ⟨_, rfl⟩
  have hb2 : Below w.heap.size w W := by rw [hW]; exact (Below.refl _ _).alloc (Nat.le_refl _) _
  have HB := Lib.hid hb2
  have HX := Lib.hid (hx.rd.below hb2)
  have HLX := Lib.hid hlx
  have HW := Lib.hid hW
  rw [hlx] at hl ⊢
  clear hx hb2 hlx
  go_enter Try.func21, Try.ntmps21
  go_wp2
  rw [← HW.out]
  clear hW
  go_loop [3, 9] (fun n i => ∃ k : Nat, k ≤ lx ∧ i = .int .i64 k ∧ n = .int .i64 (thrL (x.path.take k))) (fun _ i => lx - (intOf i).toNat)
  case atStart => exact ⟨0, by omega, rfl, rfl⟩
  case round =>
    obtain ⟨k, hk, rfl, rfl⟩ := hrel
    by_cases hlt : k < lx
    · obtain ⟨b, off, s, hs, hpa, hb, hc⟩ := HX.out.str (k := k) (by rw [HLX.out]; exact hlt)
      have hki : (k : Int) < (lx : Int) := by omega
      have hbd : thrL (x.path.take k) ≤ k := Nat.le_trans (thrL_le _) (List.length_take_le _ _)
      rw [hpa]
      obtain ⟨e, he⟩ : ∃ e, (s.toList == star.toList) = e := ⟨_, rfl⟩
      have HS := Lib.hid (thrL_succ hs)
      rw [he] at HS
      have he' : (s.toList == [42]) = e := by rw [← star_l]; exact he
      obtain ⟨t, ht⟩ : ∃ t, t = thrL (x.path.take k) := ⟨_, rfl⟩
      rw [← ht] at hbd HS ⊢
      clear hs he ht hpa
      cases e
      · go_wp2
        go_round
        case rel => exact ⟨k + 1, by omega, by go_num, by rw [HS.out]; rfl⟩
        case measure => simp [intOf] <;> omega
      · go_wp2
        go_round
        case rel => exact ⟨k + 1, by omega, by go_num, by rw [HS.out]; simp⟩
        case measure => simp [intOf] <;> omega
    · obtain rfl : k = lx := by omega
      have HT := Lib.hid (show x.path.take k = x.path by rw [← HLX.out, List.take_length])
      obtain ⟨t, ht⟩ : ∃ t, t = thrL (x.path.take k) := ⟨_, rfl⟩
      have HTT := Lib.hid ht
      rw [← ht]
      clear ht
      go_wp2
      go_ret
      exact ⟨by rw [HTT.out, HT.out]; rfl, HB.out⟩
end Go.Proofs.Ytnofmnoohnmanaa
