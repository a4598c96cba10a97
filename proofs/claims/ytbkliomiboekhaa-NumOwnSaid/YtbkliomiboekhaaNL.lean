/- Numbers: the plain laws: what is in range; what a text says; a number's own numeral. No program in sight. -/
import Derived.Lib.Hide
namespace Go.Proofs.Ytbkliomiboekhaa

def inR (n : Int) : Bool := decide (-9223372036854775808 ≤ n ∧ n ≤ 9223372036854775807)
theorem inR_iff {n : Int} : inR n = true ↔ (-9223372036854775808 ≤ n ∧ n ≤ 9223372036854775807) := by simp [inR]
theorem inR_no {n : Int} : inR n = false ↔ (n < -9223372036854775808 ∨ 9223372036854775807 < n) := by
  rw [← Bool.not_eq_true, inR_iff]; omega
/-- what is told: the number, or 0 -/
def numR (n : Int) : Int := if inR n = true then n else 0
/-- the error: 0, or 10 -/
def errR (n : Int) : Int := if inR n = true then 0 else 10
theorem numR_in {n : Int} (h : inR n = true) : numR n = n := if_pos h
theorem errR_in {n : Int} (h : inR n = true) : errR n = 0 := if_pos h
theorem numR_out {n : Int} (h : inR n = false) : numR n = 0 := by simp [numR, h]
theorem errR_out {n : Int} (h : inR n = false) : errR n = 10 := by simp [errR, h]
theorem numR_bd (n : Int) : -9223372036854775808 ≤ numR n ∧ numR n ≤ 9223372036854775807 := by
  unfold numR
  split
  · rename_i h; exact inR_iff.1 h
  · omega
theorem errR_eq (n : Int) : errR n = 0 ∨ errR n = 10 := by unfold errR; split <;> simp

def divN (a b : Int) : Int := if b = 0 then 0 else numR (a.tdiv b)
def divE (a b : Int) : Int := if b = 0 then 11 else errR (a.tdiv b)
def modN (a b : Int) : Int := if b = 0 then 0 else a.tmod b
def modE (b : Int) : Int := if b = 0 then 11 else 0

/-- a number put together of a side and a size -/
def sv (l : Bool) (s : Int) : Int := if l then -s else s

/-! ### numerals -/
def dig (c : UInt8) : Bool := decide (48 ≤ c.toNat ∧ c.toNat ≤ 57)
def valL : List UInt8 → Nat := fun l => l.foldl (fun n c => n * 10 + (c.toNat - 48)) 0
theorem valL_nil : valL [] = 0 := rfl
theorem valL_snoc (l : List UInt8) (c : UInt8) : valL (l ++ [c]) = valL l * 10 + (c.toNat - 48) := by simp [valL]
theorem valL_le (l m : List UInt8) : valL l ≤ valL (l ++ m) := by
  induction m generalizing l with
  | nil => simp
  | cons c m ih =>
    have e : l ++ c :: m = (l ++ [c]) ++ m := by simp
    rw [e]
    have := ih (l ++ [c])
    rw [valL_snoc] at this
    omega
theorem valL_take_le (l : List UInt8) (k : Nat) : valL (l.take k) ≤ valL l := by
  have := valL_le (l.take k) (l.drop k)
  rwa [List.take_append_drop] at this
theorem valL_take_succ (l : List UInt8) {k : Nat} {c : UInt8} (h : l[k]? = some c) : valL (l.take (k + 1)) = valL (l.take k) * 10 + (c.toNat - 48) := by
  rw [List.take_add_one, h]; exact valL_snoc _ _

def minus (l : List UInt8) : Bool := l.head? == some 45
def bodyL (l : List UInt8) : List UInt8 := if minus l then l.tail else l
def okL (l : List UInt8) : Bool := (bodyL l).all dig && !(bodyL l).isEmpty && !(minus l && (bodyL l).head? == some 48)
def sval (l : List UInt8) : Int := if minus l then -(valL (bodyL l) : Int) else (valL (bodyL l) : Int)
def parN (l : List UInt8) : Int := if okL l then numR (sval l) else 0
def parE (l : List UInt8) : Int := if okL l then errR (sval l) else 2
theorem parN_ok {l : List UInt8} (h : okL l = true) : parN l = numR (sval l) := by simp [parN, h]
theorem parE_ok {l : List UInt8} (h : okL l = true) : parE l = errR (sval l) := by simp [parE, h]
theorem parN_no {l : List UInt8} (h : okL l = false) : parN l = 0 := by simp [parN, h]
theorem parE_no {l : List UInt8} (h : okL l = false) : parE l = 2 := by simp [parE, h]
theorem parN_bd (l : List UInt8) : -9223372036854775808 ≤ parN l ∧ parN l ≤ 9223372036854775807 := by
  unfold parN
  split
  · exact numR_bd _
  · omega
theorem parE_eq (l : List UInt8) : parE l = 0 ∨ parE l = 10 ∨ parE l = 2 := by
  unfold parE
  split
  · rcases errR_eq (sval l) with h | h <;> simp [h]
  · simp

/-- a digit's byte -/
def dch (n : Nat) : UInt8 := UInt8.ofNat (48 + n)
theorem head_append {l : List UInt8} (m : List UInt8) (h : l ≠ []) : (l ++ m).head? = l.head? := by
  cases l with
  | nil => exact absurd rfl h
  | cons _ _ => rfl
/-- the last digit first -/
def rdigs (n : Nat) : List UInt8 := if h : n < 10 then [dch n] else dch (n % 10) :: rdigs (n / 10)
def digs (n : Nat) : List UInt8 := (rdigs n).reverse
theorem rdigs_lt {n : Nat} (h : n < 10) : rdigs n = [dch n] := by rw [rdigs, dif_pos h]
theorem rdigs_ge {n : Nat} (h : ¬ n < 10) : rdigs n = dch (n % 10) :: rdigs (n / 10) := by rw [rdigs, dif_neg h]
theorem digs_lt {n : Nat} (h : n < 10) : digs n = [dch n] := by rw [digs, rdigs_lt h]; rfl
theorem digs_ge {n : Nat} (h : ¬ n < 10) : digs n = digs (n / 10) ++ [dch (n % 10)] := by rw [digs, rdigs_ge h, List.reverse_cons]; rfl
def priL (a : Int) : List UInt8 := if a < 0 then 45 :: digs a.natAbs else digs a.natAbs

theorem toNat_dig {n : Nat} (h : n < 10) : (dch n).toNat = 48 + n := by
  rw [dch, UInt8.toNat_ofNat']; omega
theorem dig_dig {n : Nat} (h : n < 10) : dig (dch n) = true := by
  simp only [dig, toNat_dig h, decide_eq_true_eq]; omega
theorem digs_ne (n : Nat) : digs n ≠ [] := by
  by_cases h : n < 10
  · rw [digs_lt h]; simp
  · rw [digs_ge h]; simp
theorem digs_all (n : Nat) : (digs n).all dig = true := by
  induction n using Nat.strongRecOn with
  | _ n ih =>
    by_cases h : n < 10
    · rw [digs_lt h]; simp [dig_dig h]
    · rw [digs_ge h, List.all_append, ih (n / 10) (by omega)]
      simp [dig_dig (n := n % 10) (by omega)]
theorem valL_digs (n : Nat) : valL (digs n) = n := by
  induction n using Nat.strongRecOn with
  | _ n ih =>
    by_cases h : n < 10
    · rw [digs_lt h]
      show 0 * 10 + ((dch n).toNat - 48) = n
      rw [toNat_dig h]; omega
    · rw [digs_ge h, valL_snoc, ih (n / 10) (by omega), toNat_dig (by omega)]; omega
theorem digs_head (n : Nat) (h : 0 < n) : ((digs n).head? == some 48) = false := by
  induction n using Nat.strongRecOn with
  | _ n ih =>
    by_cases h10 : n < 10
    · rw [digs_lt h10]
      have : dch n ≠ 48 := fun e => by
        have := congrArg UInt8.toNat e
        rw [toNat_dig h10] at this
        have e2 : (48 : UInt8).toNat = 48 := rfl
        omega
      simp [this]
    · rw [digs_ge h10, head_append _ (digs_ne _)]
      exact ih (n / 10) (by omega) (by omega)
theorem all_head {l : List UInt8} (h : l.all dig = true) : minus l = false := by
  cases l with
  | nil => rfl
  | cons c l =>
    simp only [List.all_cons, Bool.and_eq_true] at h
    have h1 := h.1
    simp only [dig, decide_eq_true_eq] at h1
    have : c ≠ 45 := fun e => by subst e; have e2 : (45 : UInt8).toNat = 45 := rfl; omega
    simp [minus, this]
theorem okL_digits {l : List UInt8} (h : l.all dig = true) (hn : l ≠ []) : okL l = true ∧ sval l = valL l := by
  have hm := all_head h
  have hb : bodyL l = l := by simp [bodyL, hm]
  constructor
  · simp [okL, hb, h, hm, hn]
  · simp [sval, hb, hm]
theorem okL_minus {l : List UInt8} (h : l.all dig = true) (hn : l ≠ []) (h0 : (l.head? == some 48) = false) : okL (45 :: l) = true ∧ sval (45 :: l) = -(valL l : Int) := by
  have hm : minus (45 :: l) = true := rfl
  have hb : bodyL (45 :: l) = l := by simp [bodyL, hm]
  constructor
  · simp only [okL, hb, h, hm, h0]; simp [hn]
  · simp [sval, hb, hm]
theorem pri_ok (a : Int) : okL (priL a) = true ∧ sval (priL a) = a := by
  unfold priL
  by_cases h : a < 0
  · rw [if_pos h]
    obtain ⟨h1, h2⟩ := okL_minus (digs_all a.natAbs) (digs_ne _) (digs_head _ (by omega))
    refine ⟨h1, ?_⟩
    rw [h2, valL_digs]; omega
  · rw [if_neg h]
    obtain ⟨h1, h2⟩ := okL_digits (digs_all a.natAbs) (digs_ne _)
    refine ⟨h1, ?_⟩
    rw [h2, valL_digs]; omega
theorem pri_ne (a : Int) : priL a ≠ [] := by
  unfold priL
  split
  · simp
  · exact digs_ne _
theorem par_pri {a : Int} (h : inR a = true) : parN (priL a) = a ∧ parE (priL a) = 0 := by
  obtain ⟨h1, h2⟩ := pri_ok a
  rw [parN_ok h1, parE_ok h1, h2, numR_in h, errR_in h]
  exact ⟨rfl, rfl⟩

theorem valL_noughts (k : Nat) (l : List UInt8) : valL (List.replicate k 48 ++ l) = valL l := by
  induction k with
  | zero => simp
  | succ k ih =>
    rw [List.replicate_succ]
    show List.foldl _ (0 * 10 + ((48 : UInt8).toNat - 48)) (List.replicate k 48 ++ l) = _
    exact ih
/-- noughts in front -/
theorem par_noughts {a : Int} (h : inR a = true) (h0 : 0 ≤ a) (k : Nat) : parN (List.replicate k 48 ++ priL a) = a ∧ parE (List.replicate k 48 ++ priL a) = 0 := by
  have hp : priL a = digs a.natAbs := by unfold priL; rw [if_neg (by omega)]
  have hall : (List.replicate k 48 ++ priL a).all dig = true := by
    rw [hp, List.all_append, digs_all]
    have h48 : dig 48 = true := by decide
    simp [List.all_replicate, h48]
  obtain ⟨h1, h2⟩ := okL_digits hall (by simp [pri_ne])
  rw [parN_ok h1, parE_ok h1, h2, valL_noughts, hp, valL_digs]
  have e : ((a.natAbs : Nat) : Int) = a := by omega
  rw [e, numR_in h, errR_in h]
  exact ⟨rfl, rfl⟩
/-- a numeral doesn't begin with a nought, nor with one behind the sign, unless it is short -/
theorem pri_form (a : Int) : (priL a).length ≤ 1 ∨ ((priL a)[0]? ≠ some 48 ∧ ((priL a)[0]? = some 45 → (priL a)[1]? ≠ some 48)) := by
  unfold priL
  by_cases h : a < 0
  · rw [if_pos h]
    refine .inr ⟨by simp, fun _ => ?_⟩
    have := digs_head a.natAbs (by omega)
    rw [List.head?_eq_getElem?] at this
    simpa using this
  · rw [if_neg h]
    by_cases h0 : a.natAbs = 0
    · rw [h0]; exact .inl (by rw [digs_lt (by omega)]; simp)
    · have h1 := digs_head a.natAbs (by omega)
      have h2 := all_head (digs_all a.natAbs)
      rw [List.head?_eq_getElem?] at h1
      simp only [minus, List.head?_eq_getElem?] at h2
      refine .inr ⟨by simpa using h1, fun e => ?_⟩
      rw [e] at h2; cases h2

/-- a byte that is no digit makes it none -/
theorem okL_bad (l m : List UInt8) (x : UInt8) (hx : dig x = false) (h : l = [] → x ≠ 45) : okL (l ++ x :: m) = false := by
  have hm : x ∈ bodyL (l ++ x :: m) := by
    unfold bodyL
    cases l with
    | nil =>
      have : minus ([] ++ x :: m) = false := by simpa [minus] using h rfl
      rw [this]; simp
    | cons c l =>
      split <;> simp
  have : (bodyL (l ++ x :: m)).all dig = false := by
    rw [List.all_eq_false]
    exact ⟨x, hm, by simp [hx]⟩
  simp [okL, this]

/-- one more digit -/
theorem okL_more {l : List UInt8} (h : okL l = true) (d : Nat) (hd : d < 10) :
    okL (l ++ [dch d]) = true ∧ sval (l ++ [dch d]) = sval l * 10 + (if minus l then -(d : Int) else d) := by
  have hne : bodyL l ≠ [] := by intro e; simp [okL, e] at h
  have hl : l ≠ [] := by rintro rfl; exact hne (by simp [bodyL, minus])
  have hm : minus (l ++ [dch d]) = minus l := by simp [minus, head_append _ hl]
  have hb : bodyL (l ++ [dch d]) = bodyL l ++ [dch d] := by
    unfold bodyL
    rw [hm]
    split
    · rw [List.tail_append_of_ne_nil hl]
    · rfl
  have hv : valL (bodyL l ++ [dch d]) = valL (bodyL l) * 10 + d := by rw [valL_snoc, toNat_dig hd]; omega
  constructor
  · unfold okL at h ⊢
    rw [hb, hm, List.all_append, head_append _ hne]
    simp only [Bool.and_eq_true] at h
    simp [h.1.1, dig_dig hd]
    simpa using h.2
  · unfold sval
    rw [hm, hb, hv]
    split <;> omega
theorem okL_less {l : List UInt8} (h : okL l = false) (d : Nat) (hd : d < 10) : okL (l ++ [dch d]) = false ∨ l = [] ∨ (l = [45] ∧ 0 < d) := by
  by_cases hl : l = []
  · exact .inr (.inl hl)
  have hm : minus (l ++ [dch d]) = minus l := by simp [minus, head_append _ hl]
  have hb : bodyL (l ++ [dch d]) = bodyL l ++ [dch d] := by
    unfold bodyL
    rw [hm]
    split
    · rw [List.tail_append_of_ne_nil hl]
    · rfl
  by_cases hn : bodyL l = []
  · have : l = [45] := by
      by_cases hm' : minus l = true
      · rw [bodyL, if_pos hm'] at hn
        cases l with
        | nil => exact absurd rfl hl
        | cons c t =>
          simp only [List.tail_cons] at hn
          subst hn
          simp only [minus, List.head?_cons, beq_iff_eq, Option.some.injEq] at hm'
          rw [hm']
      · rw [bodyL, if_neg hm'] at hn; exact absurd hn hl
    rcases Nat.eq_zero_or_pos d with h0 | h0
    · subst h0; subst this; exact .inl (by decide)
    · exact .inr (.inr ⟨this, h0⟩)
  · left
    unfold okL at h ⊢
    rw [hb, hm, List.all_append, head_append _ hn]
    simp only [Bool.and_eq_false_iff, Bool.not_eq_false'] at h ⊢
    rcases h with (h | h) | h
    · exact .inl (.inl (.inl h))
    · exact absurd (by simpa using h) hn
    · exact .inr h

/-- what NumDigit asks -/
theorem digit_arg {l : List UInt8} (h : parE l = 2) (d : Nat) (hd : d < 10) : parE (l ++ [dch d]) = 2 ∨ l = [] ∨ (l = [45] ∧ 0 < d) := by
  have hk : okL l = false := by
    cases e : okL l
    · rfl
    · rw [parE_ok e] at h; rcases errR_eq (sval l) with h' | h' <;> omega
  rcases okL_less hk d hd with h1 | h1
  · exact .inl (parE_no h1)
  · exact .inr h1
theorem digit_okL {l : List UInt8} (h : parE l ≠ 2) : okL l = true := by
  cases e : okL l
  · exact absurd (parE_no e) h
  · rfl
theorem digit_over {l : List UInt8} (h : parE l = 10) (d : Nat) (hd : d < 10) : parE (l ++ [dch d]) = 10 := by
  have hk := digit_okL (l := l) (by omega)
  obtain ⟨h1, h2⟩ := okL_more hk d hd
  rw [parE_ok hk] at h
  rw [parE_ok h1, h2]
  have : inR (sval l) = false := by
    cases e : inR (sval l)
    · rfl
    · rw [errR_in e] at h; omega
  apply errR_out
  rw [inR_no] at this ⊢
  have hs : (minus l = true → sval l ≤ 0) ∧ (minus l = false → 0 ≤ sval l) := by
    unfold sval
    constructor
    · intro e; rw [if_pos e]; omega
    · intro e; rw [e]; simp
  cases e : minus l
  · have := hs.2 e; simp; omega
  · have := hs.1 e; simp; omega
theorem digit_tens {l : List UInt8} (h : parE l = 0) (d : Nat) (hd : d < 10) (hm : errR (parN l * 10) = 10) : parE (l ++ [dch d]) = 10 := by
  have hk := digit_okL (l := l) (by omega)
  obtain ⟨h1, h2⟩ := okL_more hk d hd
  rw [parE_ok hk] at h
  have hin : inR (sval l) = true := by
    cases e : inR (sval l)
    · rw [errR_out e] at h; omega
    · rfl
  rw [parN_ok hk, numR_in hin] at hm
  rw [parE_ok h1, h2]
  have : inR (sval l * 10) = false := by
    cases e : inR (sval l * 10)
    · rfl
    · rw [errR_in e] at hm; omega
  apply errR_out
  rw [inR_no] at this ⊢
  have hs : (minus l = true → sval l ≤ 0) ∧ (minus l = false → 0 ≤ sval l) := by
    unfold sval
    constructor
    · intro e; rw [if_pos e]; omega
    · intro e; rw [e]; simp
  cases e : minus l
  · have := hs.2 e; simp; omega
  · have := hs.1 e; simp; omega
theorem digit_sum {l : List UInt8} (h : parE l = 0) (d : Nat) (hd : d < 10) (hm : errR (parN l * 10) = 0) :
    parE (l ++ [dch d]) = errR (numR (parN l * 10) + (if minus l then -(d : Int) else d)) ∧ parN (l ++ [dch d]) = numR (numR (parN l * 10) + (if minus l then -(d : Int) else d)) := by
  have hk := digit_okL (l := l) (by omega)
  obtain ⟨h1, h2⟩ := okL_more hk d hd
  rw [parE_ok hk] at h
  have hin : inR (sval l) = true := by
    cases e : inR (sval l)
    · rw [errR_out e] at h; omega
    · rfl
  rw [parN_ok hk, numR_in hin] at hm ⊢
  have h10 : inR (sval l * 10) = true := by
    cases e : inR (sval l * 10)
    · rw [errR_out e] at hm; omega
    · rfl
  rw [numR_in h10, parE_ok h1, parN_ok h1, h2]
  exact ⟨rfl, rfl⟩

/-! ### the laws of the six ways -/
theorem paper_add {a b c : Int} (h1 : inR (a + b) = true) (h2 : inR (b + c) = true) : numR (numR (a + b) + c) = numR (a + numR (b + c)) ∧ errR (numR (a + b) + c) = errR (a + numR (b + c)) := by
  rw [numR_in h1, numR_in h2, Int.add_assoc]; exact ⟨rfl, rfl⟩
theorem paper_mul {a b c : Int} (h : inR (a + b) = true) (h1 : inR (numR (a + b) * c) = true) (h2 : inR (a * c) = true) (h3 : inR (b * c) = true) (h4 : inR (numR (a * c) + numR (b * c)) = true) :
    numR (numR (a * c) + numR (b * c)) = numR (numR (a + b) * c) := by
  rw [numR_in h4, numR_in h1, numR_in h, numR_in h2, numR_in h3, Int.add_mul]
theorem share_back (a b : Int) : b * a.tdiv b + a.tmod b = a := Int.mul_tdiv_add_tmod a b
theorem share_in {a b : Int} (ha : inR a = true) (hb : b ≠ 0) (h : ¬ (a = -9223372036854775808 ∧ b = -1)) : inR (a.tdiv b) = true := by
  rw [inR_iff] at ha ⊢
  have h1 : (a.tdiv b).natAbs = a.natAbs / b.natAbs := Int.natAbs_tdiv a b
  have h2 : a.natAbs / b.natAbs ≤ a.natAbs := Nat.div_le_self _ _
  by_cases hm : a = -9223372036854775808
  · by_cases h1' : b.natAbs = 1
    · have : b = 1 ∨ b = -1 := by omega
      rcases this with rfl | rfl
      · rw [Int.tdiv_one]; omega
      · exact absurd ⟨hm, rfl⟩ h
    · have : a.natAbs / b.natAbs ≤ a.natAbs / 2 := Nat.div_le_div_left (by omega) (by omega)
      omega
  · omega
theorem share_rest {a b : Int} (hb : b ≠ 0) : (0 ≤ a → 0 ≤ a.tmod b) ∧ (a ≤ 0 → a.tmod b ≤ 0) ∧ (a.tmod b).natAbs < b.natAbs := by
  have h3 : (a.tmod b).natAbs = a.natAbs % b.natAbs := Int.natAbs_tmod a b
  have h4 : a.natAbs % b.natAbs < b.natAbs := Nat.mod_lt _ (by omega)
  refine ⟨fun h => Int.tmod_nonneg b h, fun h => ?_, by omega⟩
  have := Int.tmod_nonneg b (a := -a) (by omega)
  rw [Int.neg_tmod] at this
  omega
end Go.Proofs.Ytbkliomiboekhaa
