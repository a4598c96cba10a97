/- Sets: plain laws: rows that rise, who is in them, and that these settle them. No program in sight. -/
import Derived.Lib.SlicesCompact
import Derived.Lib.Hide
namespace Go.Proofs.Ytfdgbegoaaihoaa
open Go.Lib

abbrev Bs := List UInt8
def Rise (l : List Bs) : Prop := l.Pairwise (· < ·)
theorem lt_ne {x y : Bs} (h : x < y) : x ≠ y := by rintro rfl; exact List.lt_irrefl x h
theorem le_of_lt' {x y : Bs} (h : x < y) : x ≤ y := List.not_lt.1 fun h2 => List.lt_irrefl x (List.lt_trans h h2)
theorem lt_of_le_ne {x y : Bs} (h : x ≤ y) (h2 : x ≠ y) : x < y := Std.lt_of_le_of_ne h h2
theorem lt_three (x y : Bs) : x < y ∨ x = y ∨ y < x := by
  by_cases h : x < y
  · exact .inl h
  · by_cases e : y = x
    · exact .inr (.inl e.symm)
    · exact .inr (.inr (lt_of_le_ne (List.not_lt.1 h) e))

/-- a row that rises is settled by who is in it -/
theorem rise_ext : ∀ {l m : List Bs}, Rise l → Rise m → (∀ x, x ∈ l ↔ x ∈ m) → l = m
  | [], [], _, _, _ => rfl
  | [], y :: m, _, _, h => by have := (h y).2 (by simp); simp at this
  | x :: l, [], _, _, h => by have := (h x).1 (by simp); simp at this
  | x :: l, y :: m, hl, hm, h => by
    have hl' := List.pairwise_cons.1 hl
    have hm' := List.pairwise_cons.1 hm
    have e : x = y := by
      rcases lt_three x y with c | c | c
      · exfalso
        rcases List.mem_cons.1 ((h x).1 (by simp)) with e | e
        · exact lt_ne c e
        · exact List.lt_irrefl x (List.lt_trans c (hm'.1 x e))
      · exact c
      · exfalso
        rcases List.mem_cons.1 ((h y).2 (by simp)) with e | e
        · exact lt_ne c e
        · exact List.lt_irrefl y (List.lt_trans c (hl'.1 y e))
    subst e
    congr 1
    refine rise_ext hl'.2 hm'.2 fun z => ?_
    constructor
    · intro hz
      rcases List.mem_cons.1 ((h z).1 (List.mem_cons_of_mem _ hz)) with e | e
      · exact absurd e (lt_ne (hl'.1 z hz)).symm
      · exact e
    · intro hz
      rcases List.mem_cons.1 ((h z).2 (List.mem_cons_of_mem _ hz)) with e | e
      · exact absurd e (lt_ne (hm'.1 z hz)).symm
      · exact e

/-! ### the program's way -/
def sortS (L : List Bs) : List Bs := L.mergeSort fun x y => decide (x ≤ y)
def setS (L : List Bs) : List Bs := compact (sortS L)
theorem sortS_le (L : List Bs) : (sortS L).Pairwise (· ≤ ·) := by
  have := List.pairwise_mergeSort (le := fun x y : Bs => decide (x ≤ y)) (fun a b c h1 h2 => by
    rw [decide_eq_true_iff] at *; exact List.le_trans h1 h2) (fun a b => by
    rcases List.le_total a b with h | h <;> simp [h]) L
  simpa [sortS] using this
theorem sortS_mem {L : List Bs} {x : Bs} : x ∈ sortS L ↔ x ∈ L := List.mem_mergeSort
theorem sortS_len (L : List Bs) : (sortS L).length = L.length := List.length_mergeSort L
theorem compact_law {d : Array Bs} (hd : d.toList.Pairwise (· ≤ ·)) : ∀ m, m ≤ d.size → Rise (compactUpTo d m) ∧ (∀ x, x ∈ compactUpTo d m ↔ ∃ j, j < m ∧ d[j]! = x)
  | 0, _ => ⟨by simp [compactUpTo, Rise], by simp [compactUpTo]⟩
  | m + 1, hm => by
    obtain ⟨ih1, ih2⟩ := compact_law hd m (by omega)
    have hle : ∀ i j, i < j → j < d.size → d[i]! ≤ d[j]! := by
      intro i j hij hj
      have hi : i < d.size := by omega
      rw [getElem!_pos d i hi, getElem!_pos d j hj]
      have := List.pairwise_iff_getElem.1 hd i j (by simpa using hi) (by simpa using hj) hij
      simpa using this
    rw [compactUpTo_succ]
    by_cases hk : keeps d m = true
    · rw [if_pos hk]
      constructor
      · unfold Rise
        rw [List.pairwise_append]
        refine ⟨ih1, by simp, ?_⟩
        intro x hx y hy
        simp at hy
        subst hy
        obtain ⟨j, hj, rfl⟩ := (ih2 x).1 hx
        refine lt_of_le_ne (hle j m hj (by omega)) ?_
        intro e
        simp only [keeps, decide_eq_true_iff] at hk
        rcases hk with h0 | hne
        · omega
        · apply hne
          rcases Nat.lt_or_ge j (m - 1) with h1 | h1
          · have a1 := hle j (m - 1) h1 (by omega)
            rw [e] at a1
            exact List.le_antisymm a1 (hle (m - 1) m (by omega) (by omega))
          · obtain rfl : j = m - 1 := by omega
            exact e.symm
      · intro x
        rw [List.mem_append, ih2]
        constructor
        · rintro (⟨j, hj, e⟩ | h)
          · exact ⟨j, by omega, e⟩
          · simp at h; exact ⟨m, by omega, h.symm⟩
        · rintro ⟨j, hj, e⟩
          rcases Nat.lt_or_ge j m with h1 | h1
          · exact .inl ⟨j, h1, e⟩
          · obtain rfl : j = m := by omega
            exact .inr (by simp [e])
    · rw [if_neg hk, List.append_nil]
      refine ⟨ih1, fun x => ?_⟩
      rw [ih2]
      simp only [keeps, decide_eq_true_iff, not_or] at hk
      obtain ⟨h0, he⟩ := hk
      have he : d[m]! = d[m - 1]! := by
        by_cases e : d[m]! = d[m - 1]!
        · exact e
        · exact absurd e he
      constructor
      · rintro ⟨j, hj, e⟩; exact ⟨j, by omega, e⟩
      · rintro ⟨j, hj, e⟩
        rcases Nat.lt_or_ge j m with h1 | h1
        · exact ⟨j, h1, e⟩
        · obtain rfl : j = m := by omega
          exact ⟨j - 1, by omega, by rw [← he, e]⟩
theorem setS_rise (L : List Bs) : Rise (setS L) := (compact_law (d := (sortS L).toArray) (by simpa using sortS_le L) _ (by simp)).1
theorem setS_mem {L : List Bs} {x : Bs} : x ∈ setS L ↔ x ∈ L := by
  unfold setS compact
  rw [(compact_law (d := (sortS L).toArray) (by simpa using sortS_le L) (sortS L).length (by simp)).2, ← sortS_mem]
  constructor
  · rintro ⟨j, hj, rfl⟩
    have hj' : j < (sortS L).toArray.size := by simpa using hj
    rw [getElem!_pos _ j hj']
    simp
  · intro h
    obtain ⟨j, hj, e⟩ := List.getElem_of_mem h
    refine ⟨j, hj, ?_⟩
    have hj' : j < (sortS L).toArray.size := by simpa using hj
    rw [getElem!_pos _ j hj']
    simpa using e
theorem setS_len (L : List Bs) : (setS L).length ≤ L.length := by
  unfold setS compact compactUpTo
  rw [List.length_map, ← sortS_len L]
  refine Nat.le_trans (List.length_filter_le _ _) ?_
  simp
theorem setS_of {L M : List Bs} (h : Rise M) (he : ∀ x, x ∈ M ↔ x ∈ L) : M = setS L := rise_ext h (setS_rise L) fun x => (he x).trans setS_mem.symm
theorem setS_ext {L M : List Bs} (h : ∀ x, x ∈ L ↔ x ∈ M) : setS L = setS M := rise_ext (setS_rise L) (setS_rise M) fun x => by rw [setS_mem, setS_mem]; exact h x
theorem setS_self {L : List Bs} (h : Rise L) : setS L = L := (setS_of h fun _ => Iff.rfl).symm

def hasS (L : List Bs) (x : Bs) : Bool := decide (x ∈ L)
theorem hasS_iff {L : List Bs} {x : Bs} : hasS L x = true ↔ x ∈ L := by unfold hasS; rw [decide_eq_true_iff]
def pickS (a b : List Bs) (is : Bool) : List Bs := (setS a).filter fun x => hasS b x == is
theorem pickS_rise (a b : List Bs) (is : Bool) : Rise (pickS a b is) := (setS_rise a).filter _
theorem pickS_mem {a b : List Bs} {is : Bool} {x : Bs} : x ∈ pickS a b is ↔ x ∈ a ∧ hasS b x = is := by
  unfold pickS
  rw [List.mem_filter, setS_mem, beq_iff_eq]
theorem hasS_set (b : List Bs) (x : Bs) : hasS (setS b) x = hasS b x := by
  rw [Bool.eq_iff_iff, hasS_iff, hasS_iff, setS_mem]

/-! ### the document's way: each name is put at its place -/
def putS : List Bs → Bs → List Bs
  | [], x => [x]
  | y :: l, x => if x < y then x :: y :: l else y :: putS l x
theorem putS_mem {l : List Bs} {x y : Bs} : y ∈ putS l x ↔ y ∈ l ∨ y = x := by
  induction l with
  | nil => simp [putS]
  | cons z l ih =>
    unfold putS
    split
    · simp; constructor
      · rintro (h | h | h)
        · exact .inr h
        · exact .inl (.inl h)
        · exact .inl (.inr h)
      · rintro ((h | h) | h)
        · exact .inr (.inl h)
        · exact .inr (.inr h)
        · exact .inl h
    · rw [List.mem_cons, ih, List.mem_cons, or_assoc]
theorem putS_rise {l : List Bs} {x : Bs} (h : Rise l) (hx : x ∉ l) : Rise (putS l x) := by
  induction l with
  | nil => simp [putS, Rise]
  | cons z l ih =>
    have hc := List.pairwise_cons.1 h
    unfold putS
    split
    · rename_i hlt
      refine List.pairwise_cons.2 ⟨?_, h⟩
      intro y hy
      rcases List.mem_cons.1 hy with rfl | hy
      · exact hlt
      · exact List.lt_trans hlt (hc.1 y hy)
    · rename_i hlt
      refine List.pairwise_cons.2 ⟨?_, ih hc.2 (fun h => hx (List.mem_cons_of_mem _ h))⟩
      intro y hy
      rcases putS_mem.1 hy with hy | rfl
      · exact hc.1 y hy
      · refine lt_of_le_ne (List.not_lt.1 hlt) ?_
        rintro rfl
        exact hx (by simp)
theorem putS_len (l : List Bs) (x : Bs) : (putS l x).length = l.length + 1 := by
  induction l with
  | nil => rfl
  | cons z l ih =>
    unfold putS
    split
    · simp
    · simp [ih]
def refStep (out : List Bs) (x : Bs) : List Bs := if hasS out x then out else putS out x
def refS (L : List Bs) : List Bs := L.foldl refStep []
theorem refS_succ {L : List Bs} {n : Nat} {x : Bs} (h : L[n]? = some x) : refS (L.take (n + 1)) = refStep (refS (L.take n)) x := by
  unfold refS
  rw [List.take_add_one, h, List.foldl_append]; rfl
theorem refFold (L : List Bs) : ∀ out : List Bs, Rise out → Rise (L.foldl refStep out) ∧ ∀ x, x ∈ L.foldl refStep out ↔ x ∈ out ∨ x ∈ L := by
  induction L with
  | nil => intro out h; exact ⟨h, by simp⟩
  | cons y L ih =>
    intro out h
    rw [List.foldl_cons]
    by_cases hy : hasS out y = true
    · have e : refStep out y = out := if_pos hy
      rw [e]
      obtain ⟨h1, h2⟩ := ih out h
      refine ⟨h1, fun x => ?_⟩
      rw [h2, List.mem_cons]
      constructor
      · rintro (h | h)
        · exact .inl h
        · exact .inr (.inr h)
      · rintro (h | rfl | h)
        · exact .inl h
        · exact .inl (hasS_iff.1 hy)
        · exact .inr h
    · have e : refStep out y = putS out y := if_neg hy
      rw [e]
      obtain ⟨h1, h2⟩ := ih (putS out y) (putS_rise h (fun hm => hy (hasS_iff.2 hm)))
      refine ⟨h1, fun x => ?_⟩
      rw [h2, putS_mem, List.mem_cons, or_assoc]
theorem refS_eq (L : List Bs) : refS L = setS L := by
  obtain ⟨h1, h2⟩ := refFold L [] (by simp [Rise])
  exact setS_of h1 fun x => by rw [show refS L = L.foldl refStep [] from rfl, h2]; simp
theorem refS_pick (a b : List Bs) (is : Bool) : setS (a.filter fun x => hasS b x == is) = pickS a b is := by
  refine rise_ext (setS_rise _) (pickS_rise _ _ _) fun x => ?_
  rw [setS_mem, pickS_mem, List.mem_filter, beq_iff_eq]

/-! ### the laws -/
def unionS (a b : List Bs) : List Bs := setS (a ++ b)
theorem unionS_mem {a b : List Bs} {x : Bs} : x ∈ unionS a b ↔ x ∈ a ∨ x ∈ b := by unfold unionS; rw [setS_mem, List.mem_append]
def withinS (a b : List Bs) : Bool := decide ((pickS a b false).length = 0)
theorem withinS_iff {a b : List Bs} : withinS a b = true ↔ ∀ x ∈ a, x ∈ b := by
  unfold withinS
  rw [decide_eq_true_iff, List.length_eq_zero_iff, List.eq_nil_iff_forall_not_mem]
  constructor
  · intro h x hx
    have := h x
    rw [pickS_mem] at this
    cases hb : hasS b x
    · exact absurd ⟨hx, hb⟩ this
    · exact hasS_iff.1 hb
  · intro h x hx
    rw [pickS_mem] at hx
    rw [hasS_iff.2 (h x hx.1)] at hx
    cases hx.2
def eqS (a b : List Bs) : Bool := decide (setS a = setS b)
theorem eqS_iff {a b : List Bs} : eqS a b = true ↔ ∀ x, x ∈ a ↔ x ∈ b := by
  unfold eqS
  rw [decide_eq_true_iff]
  constructor
  · intro h x; rw [← setS_mem, h, setS_mem]
  · exact setS_ext
theorem eqS_within (a b : List Bs) : eqS a b = (withinS a b && withinS b a) := by
  rw [Bool.eq_iff_iff, eqS_iff, Bool.and_eq_true, withinS_iff, withinS_iff]
  constructor
  · intro h; exact ⟨fun x hx => (h x).1 hx, fun x hx => (h x).2 hx⟩
  · intro h x; exact ⟨h.1 x, h.2 x⟩
theorem common_mem {a b : List Bs} {x : Bs} : x ∈ pickS a b true ↔ x ∈ a ∧ x ∈ b := by rw [pickS_mem, hasS_iff]
theorem minus_mem {a b : List Bs} {x : Bs} : x ∈ pickS a b false ↔ x ∈ a ∧ x ∉ b := by
  rw [pickS_mem, ← Bool.not_eq_true, hasS_iff]
theorem alg1 (a b : List Bs) : eqS (unionS a b) (unionS b a) = true := eqS_iff.2 fun x => by simp only [unionS_mem]; exact or_comm
theorem alg2 (a b : List Bs) : eqS (pickS a b true) (pickS b a true) = true := eqS_iff.2 fun x => by simp only [common_mem]; exact and_comm
theorem alg3 (a b c : List Bs) : eqS (unionS a (unionS b c)) (unionS (unionS a b) c) = true := eqS_iff.2 fun x => by simp only [unionS_mem]; exact or_assoc.symm
theorem alg4 (a b c : List Bs) : eqS (pickS a (pickS b c true) true) (pickS (pickS a b true) c true) = true := eqS_iff.2 fun x => by simp only [common_mem]; exact and_assoc.symm
theorem alg5 (a b c : List Bs) : eqS (pickS a (unionS b c) true) (unionS (pickS a b true) (pickS a c true)) = true := eqS_iff.2 fun x => by simp only [common_mem, unionS_mem]; exact and_or_left
theorem alg6 (a b c : List Bs) : eqS (pickS a (unionS b c) false) (pickS (pickS a b false) c false) = true := eqS_iff.2 fun x => by simp only [minus_mem, unionS_mem, not_or]; exact and_assoc.symm
/-- states -/
def joinS (ad : Bool) (a : List Bs) (bd : Bool) (b : List Bs) : Bool × List Bs := if ad && bd then (true, []) else if ad then (false, setS b) else if bd then (false, setS a) else (false, pickS a b true)
def lessS (ad : Bool) (a : List Bs) (bd : Bool) (b : List Bs) : Bool := bd || (!ad && withinS a b)
theorem less_self (ad : Bool) (a : List Bs) : lessS ad a ad a = true := by
  unfold lessS
  cases ad
  · simp [withinS_iff.2 fun x (hx : x ∈ a) => hx]
  · rfl
theorem join_less1 (ad : Bool) (a : List Bs) (bd : Bool) (b : List Bs) : lessS (joinS ad a bd b).1 (joinS ad a bd b).2 ad a = true := by
  unfold lessS joinS
  cases ad <;> cases bd
  · simp only [Bool.false_eq_true, if_false, Bool.false_and, Bool.not_false, Bool.true_and, Bool.false_or]
    exact withinS_iff.2 fun x hx => (common_mem.1 hx).1
  · simp only [Bool.false_eq_true, if_false, if_true, Bool.false_and, Bool.not_false, Bool.true_and, Bool.false_or]
    exact withinS_iff.2 fun x hx => setS_mem.1 hx
  · rfl
  · rfl
theorem join_less2 (ad : Bool) (a : List Bs) (bd : Bool) (b : List Bs) : lessS (joinS ad a bd b).1 (joinS ad a bd b).2 bd b = true := by
  unfold lessS joinS
  cases ad <;> cases bd
  · simp only [Bool.false_eq_true, if_false, Bool.false_and, Bool.not_false, Bool.true_and, Bool.false_or]
    exact withinS_iff.2 fun x hx => (common_mem.1 hx).2
  · rfl
  · simp only [Bool.and_false, Bool.false_eq_true, if_false, if_true, Bool.not_false, Bool.true_and, Bool.false_or]
    exact withinS_iff.2 fun x hx => setS_mem.1 hx
  · rfl
theorem join_most {ad bd cd : Bool} {a b c : List Bs} (h1 : lessS cd c ad a = true) (h2 : lessS cd c bd b = true) : lessS cd c (joinS ad a bd b).1 (joinS ad a bd b).2 = true := by
  unfold lessS at h1 h2 ⊢
  unfold joinS
  cases ad <;> cases bd <;> cases cd <;> simp_all only [Bool.false_eq_true, if_false, if_true, Bool.false_and, Bool.and_false, Bool.and_true, Bool.not_false, Bool.not_true, Bool.true_and, Bool.false_or, Bool.true_or]
  · rw [withinS_iff] at *
    exact fun x hx => common_mem.2 ⟨h1 x hx, h2 x hx⟩
  · rw [withinS_iff] at *
    exact fun x hx => setS_mem.2 (h1 x hx)
  · rw [withinS_iff] at *
    exact fun x hx => setS_mem.2 (h2 x hx)

/-- the two rows gone through side by side: where the second one stands -/
theorem merge_skip {b : List Bs} (hb : Rise b) {i : Nat} {x y : Bs} (hlow : ∀ j z, j < i → b[j]? = some z → z < x) (hy : b[i]? = some y) (h : x < y) : x ∉ b := by
  intro hx
  obtain ⟨j, hj⟩ := List.mem_iff_getElem?.1 hx
  rcases Nat.lt_or_ge j i with h1 | h1
  · exact List.lt_irrefl x (hlow j x h1 hj)
  · rcases Nat.lt_or_ge i j with h2 | h2
    · obtain ⟨li, ei⟩ := List.getElem?_eq_some_iff.1 hy
      obtain ⟨lj, ej⟩ := List.getElem?_eq_some_iff.1 hj
      have := List.pairwise_iff_getElem.1 hb i j li lj h2
      rw [ei, ej] at this
      exact List.lt_irrefl x (List.lt_trans h this)
    · obtain rfl : i = j := by omega
      rw [hy] at hj
      cases hj
      exact List.lt_irrefl _ h
theorem merge_end {b : List Bs} {x : Bs} (hlow : ∀ j z, j < b.length → b[j]? = some z → z < x) : x ∉ b := by
  intro hx
  obtain ⟨j, hj⟩ := List.mem_iff_getElem?.1 hx
  exact List.lt_irrefl x (hlow j x (List.getElem?_eq_some_iff.1 hj).1 hj)
end Go.Proofs.Ytfdgbegoaaihoaa
