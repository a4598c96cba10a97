/- Loans: plain laws: which uses may be, books put together, ended, the same. No program in sight. -/
import Derived.Test.YtfbhmamdckkimaaPlL
namespace Go.Proofs.Ytfbhmamdckkimaa

abbrev LKey := PKey × Bool × Int
def clash (p : PKey) (use : Int) (x : LKey) : Bool := (x.2.1 || decide (2 < use)) && meetB x.1 p
def mayL (L : List LKey) (p : PKey) (use : Int) : Int := if use < 1 ∨ 6 < use then 2 else if L.any (clash p use) then 141 else 0
def sameLo (x y : LKey) : Bool := decide (x = y)
def hasL (L : List LKey) (x : LKey) : Bool := L.any (fun y => sameLo y x)
theorem sameLo_iff {x y : LKey} : sameLo x y = true ↔ x = y := by unfold sameLo; rw [decide_eq_true_iff]
theorem sameLo_eq (x y : LKey) : sameLo x y = (decide (x.2.1 = y.2.1) && decide (x.2.2 = y.2.2) && sameB x.1 y.1) := by
  rw [Bool.eq_iff_iff, sameLo_iff, Bool.and_eq_true, Bool.and_eq_true, decide_eq_true_iff, decide_eq_true_iff, sameB_iff]
  constructor
  · rintro rfl; exact ⟨⟨rfl, rfl⟩, rfl⟩
  · rintro ⟨⟨h1, h2⟩, h3⟩; exact Prod.ext h3 (Prod.ext h1 h2)
theorem hasL_iff {L : List LKey} {x : LKey} : hasL L x = true ↔ x ∈ L := by
  unfold hasL
  rw [List.any_eq_true]
  constructor
  · rintro ⟨y, hy, h⟩; rw [← sameLo_iff.1 h]; exact hy
  · intro h; exact ⟨x, h, sameLo_iff.2 rfl⟩
def addL (L : List LKey) (x : LKey) : List LKey := if hasL L x then L else L ++ [x]
def unionL (a b : List LKey) : List LKey := b.foldl addL a
def endL (L : List LKey) (d : Int) : List LKey := L.filter (fun x => decide (x.2.2 < d))
def ofL (L : List LKey) (n : ByteArray) : List LKey := L.filter (fun x => decide (x.1.1 = n))
def withinL (a b : List LKey) : Bool := a.all (hasL b)
def sameBk (a b : List LKey) : Bool := withinL a b && withinL b a

theorem mem_addL {L : List LKey} {x y : LKey} : y ∈ addL L x ↔ y ∈ L ∨ y = x := by
  unfold addL
  split
  · rename_i h
    rw [hasL_iff] at h
    constructor
    · exact .inl
    · rintro (h1 | rfl)
      · exact h1
      · exact h
  · simp
theorem mem_unionL {a b : List LKey} {y : LKey} : y ∈ unionL a b ↔ y ∈ a ∨ y ∈ b := by
  induction b generalizing a with
  | nil => simp [unionL]
  | cons x b ih =>
    show y ∈ unionL (addL a x) b ↔ _
    rw [ih, mem_addL, List.mem_cons, or_assoc]
theorem unionL_one (a : List LKey) (x : LKey) : unionL a [x] = addL a x := rfl
theorem unionL_succ {a b : List LKey} {n : Nat} {x : LKey} (h : b[n]? = some x) : unionL a (b.take (n + 1)) = addL (unionL a (b.take n)) x := by
  unfold unionL
  rw [List.take_add_one, h, List.foldl_append]; rfl
theorem addL_len (a : List LKey) (x : LKey) : (addL a x).length ≤ a.length + 1 := by
  unfold addL; split <;> simp
theorem unionL_len (a b : List LKey) : (unionL a b).length ≤ a.length + b.length := by
  induction b generalizing a with
  | nil => simp [unionL]
  | cons x b ih =>
    have h1 := ih (addL a x)
    have h2 := addL_len a x
    show (unionL (addL a x) b).length ≤ _
    simp only [List.length_cons]
    omega
theorem unionL_nil (a : List LKey) : unionL a [] = a := rfl
theorem sameBk_self (a : List LKey) : sameBk a a = true := by
  have : withinL a a = true := List.all_eq_true.2 fun x hx => hasL_iff.2 hx
  simp [sameBk, this]

theorem mayL_eq (L : List LKey) (p : PKey) (use : Int) : mayL L p use = 0 ∨ mayL L p use = 2 ∨ mayL L p use = 141 := by
  unfold mayL; split
  · simp
  · split <;> simp
theorem mayL_arg {L : List LKey} {p : PKey} {use : Int} : mayL L p use = 2 ↔ (use < 1 ∨ 6 < use) := by
  unfold mayL; split
  · rename_i h; simp [h]
  · rename_i h
    constructor
    · split <;> intro h' <;> omega
    · intro h'; exact absurd h' h
theorem mayL_loan {L : List LKey} {p : PKey} {use : Int} : mayL L p use = 141 ↔ (1 ≤ use ∧ use ≤ 6 ∧ L.any (clash p use) = true) := by
  unfold mayL; split
  · constructor
    · intro h; omega
    · rintro ⟨h1, h2, _⟩; omega
  · split
    · rename_i h1 h2; exact ⟨fun _ => ⟨by omega, by omega, h2⟩, fun _ => rfl⟩
    · rename_i h1 h2
      constructor
      · intro h; omega
      · rintro ⟨_, _, h⟩; exact absurd h h2
theorem mayL_ok {L : List LKey} {p : PKey} {use : Int} : mayL L p use = 0 ↔ (1 ≤ use ∧ use ≤ 6 ∧ L.any (clash p use) = false) := by
  unfold mayL; split
  · constructor
    · intro h; omega
    · rintro ⟨h1, h2, _⟩; omega
  · split
    · rename_i h1 h2
      constructor
      · intro h; omega
      · rintro ⟨_, _, h⟩; rw [h2] at h; cases h
    · rename_i h1 h2
      exact ⟨fun _ => ⟨by omega, by omega, by simpa using h2⟩, fun _ => rfl⟩
theorem any_sub {L M : List LKey} {f : LKey → Bool} (h : ∀ x ∈ L, x ∈ M) (hf : M.any f = false) : L.any f = false := by
  rw [List.any_eq_false] at *
  exact fun x hx => hf x (h x hx)
/-- one by one -/
theorem one_mayL (L : List LKey) (p : PKey) (use : Int) : (decide (mayL L p use = 141)) = L.any (fun x => decide (mayL [x] p use = 141)) := by
  rw [Bool.eq_iff_iff, decide_eq_true_iff, mayL_loan, List.any_eq_true]
  constructor
  · rintro ⟨h1, h2, h3⟩
    obtain ⟨x, hx, h⟩ := h3
    refine List.any_eq_true.2 ⟨x, hx, ?_⟩
    rw [decide_eq_true_iff, mayL_loan]
    exact ⟨h1, h2, by simpa using h⟩
  · intro h
    obtain ⟨x, hx, h⟩ := List.any_eq_true.1 h
    rw [decide_eq_true_iff, mayL_loan] at h
    exact ⟨h.1, h.2.1, x, hx, by simpa using h.2.2⟩
theorem part_mayL {a b : List LKey} {p : PKey} {use : Int} (h : mayL (unionL a b) p use = 0) : mayL a p use = 0 ∧ mayL b p use = 0 := by
  rw [mayL_ok] at *
  rw [mayL_ok]
  exact ⟨⟨h.1, h.2.1, any_sub (fun x hx => mem_unionL.2 (.inl hx)) h.2.2⟩, ⟨h.1, h.2.1, any_sub (fun x hx => mem_unionL.2 (.inr hx)) h.2.2⟩⟩
/-- who may lend alone may do all -/
theorem alone_all {L : List LKey} {p : PKey} {use : Int} (h1 : 1 ≤ use) (h2 : use ≤ 6) (h : mayL L p 3 = 0) (S : List ByteArray) : mayL L p use = 0 ∧ mayL L (withK p S) use = 0 := by
  rw [mayL_ok] at h
  have h3 := h.2.2
  rw [List.any_eq_false] at h3
  constructor
  · rw [mayL_ok]
    refine ⟨h1, h2, ?_⟩
    rw [List.any_eq_false]
    intro x hx hc
    apply h3 x hx
    unfold clash at *
    rw [Bool.and_eq_true] at hc
    simp [hc.2]
  · rw [mayL_ok]
    refine ⟨h1, h2, ?_⟩
    rw [List.any_eq_false]
    intro x hx hc
    apply h3 x hx
    unfold clash at *
    rw [Bool.and_eq_true] at hc
    have : meetB x.1 p = true := by
      rw [meetB_comm]
      exact meetB_less (beg_with p S) (by rw [meetB_comm]; exact hc.2)
    simp [this]
theorem share_read (L : List LKey) (p : PKey) : mayL L p 2 = mayL L p 1 := by
  unfold mayL
  rw [if_neg (show ¬ ((2:Int) < 1 ∨ (6:Int) < 2) by omega), if_neg (show ¬ ((1:Int) < 1 ∨ (6:Int) < 1) by omega)]
  rfl
theorem big_alone (L : List LKey) (p : PKey) (use : Int) (h1 : 3 ≤ use) (h2 : use ≤ 6) : mayL L p use = mayL L p 3 := by
  unfold mayL
  rw [if_neg (show ¬ (use < 1 ∨ 6 < use) by omega), if_neg (show ¬ ((3:Int) < 1 ∨ (6:Int) < 3) by omega)]
  have : clash p use = clash p 3 := by
    funext x
    unfold clash
    rw [decide_eq_true (show 2 < use by omega), decide_eq_true (show (2:Int) < 3 by omega)]
  rw [this]

/-- a book that was kept -/
def useOf (x : LKey) : Int := if x.2.1 then 3 else 2
def keepStep (book : List LKey) (x : LKey) : List LKey := if mayL book x.1 (useOf x) = 0 then addL book x else book
def keepL (L : List LKey) : List LKey := L.foldl keepStep []
theorem keepL_succ {L : List LKey} {n : Nat} {x : LKey} (h : L[n]? = some x) : keepL (L.take (n + 1)) = keepStep (keepL (L.take n)) x := by
  unfold keepL
  rw [List.take_add_one, h, List.foldl_append]; rfl
def Apart (L : List LKey) : Prop := ∀ (i k : Nat) (x y : LKey), k < i → L[i]? = some x → L[k]? = some y → meetB x.1 y.1 = true → x.2.1 = false ∧ y.2.1 = false
theorem keepStep_apart {L : List LKey} (h : Apart L) (x : LKey) : Apart (keepStep L x) := by
  unfold keepStep addL
  split
  · rename_i hm
    split
    · exact h
    · intro i k y z hki hy hz hmt
      rcases Nat.lt_or_ge i L.length with hi | hi
      · rw [List.getElem?_append_left hi] at hy
        rw [List.getElem?_append_left (by omega)] at hz
        exact h i k y z hki hy hz hmt
      · rw [List.getElem?_append_right hi] at hy
        have hi0 : i - L.length = 0 := by
          rcases Nat.eq_zero_or_pos (i - L.length) with h0 | h0
          · exact h0
          · rw [List.getElem?_eq_none (by simp; omega)] at hy; cases hy
        rw [hi0] at hy
        cases hy
        rw [List.getElem?_append_left (by omega)] at hz
        rw [mayL_ok] at hm
        have := List.any_eq_false.1 hm.2.2 z (List.mem_of_getElem? hz)
        unfold clash useOf at this
        rw [meetB_comm] at hmt
        rw [hmt, Bool.and_true] at this
        rw [Bool.not_eq_true, Bool.or_eq_false_iff] at this
        refine ⟨?_, this.1⟩
        have h2 := this.2
        cases hx : x.2.1
        · rfl
        · rw [hx] at h2; simp at h2
  · exact h
theorem keep_apart (L : List LKey) : ∀ n, n ≤ L.length → Apart (keepL (L.take n))
  | 0, _ => by intro i k x y _ h; simp [keepL] at h
  | n + 1, h => by
    rw [keepL_succ (List.getElem?_eq_getElem (show n < L.length by omega))]
    exact keepStep_apart (keep_apart L n (by omega)) _
theorem keepStep_len (L : List LKey) (x : LKey) : (keepStep L x).length ≤ L.length + 1 := by
  unfold keepStep; split
  · exact addL_len L x
  · omega

theorem end_end (L : List LKey) (a b : Int) : endL (endL L a) b = endL L (if b < a then b else a) := by
  unfold endL
  rw [List.filter_filter]
  congr 1
  funext x
  split <;> (rw [Bool.eq_iff_iff]; simp; omega)
theorem end_till {L : List LKey} {d : Int} {x : LKey} (h : x ∈ endL L d) : x.2.2 < d := by
  unfold endL at h
  rw [List.mem_filter] at h
  exact of_decide_eq_true h.2
theorem filter_succ {α : Type} {f : α → Bool} {L : List α} {n : Nat} {x : α} (h : L[n]? = some x) : (L.take (n + 1)).filter f = if f x then (L.take n).filter f ++ [x] else (L.take n).filter f := by
  rw [List.take_add_one, h, List.filter_append]
  cases hf : f x <;> simp [hf]
end Go.Proofs.Ytfbhmamdckkimaa
