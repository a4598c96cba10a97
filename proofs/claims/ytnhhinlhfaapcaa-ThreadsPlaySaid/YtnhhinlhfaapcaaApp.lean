/- append of a slice that reads as a list, onto a row of the call's own: one law for nil, empty and other sources. Plain lemmas; no statement of the seat is proved here. -/
import Derived.Test.YtnhhinlhfaapcaaArgs
namespace Go.Proofs.Ytnhhinlhfaapcaa
open Go.RowKit

theorem flat_at {α : Type} {cells : α → List Value} {size : Nat} (hlen : ∀ x, (cells x).length = size) : ∀ (L : List α) (i : Nat) (x : α), L[i]? = some x → ∀ j u, (cells x)[j]? = some u → (L.flatMap cells)[i * size + j]? = some u
  | [], i, x, h => by simp at h
  | y :: L, 0, x, h => by
    intro j u hu
    simp at h
    subst h
    have hj : j < (cells y).length := by
      rcases Nat.lt_or_ge j (cells y).length with h | h
      · exact h
      · rw [List.getElem?_eq_none h] at hu; cases hu
    rw [List.flatMap_cons, List.getElem?_append_left (by simpa using hj)]
    simpa using hu
  | y :: L, i + 1, x, h => by
    intro j u hu
    simp at h
    have := flat_at hlen L i x h j u hu
    have e : (i + 1) * size + j = (cells y).length + (i * size + j) := by rw [hlen, Nat.add_mul]; omega
    rw [List.flatMap_cons, e, List.getElem?_append_right (by omega)]
    simpa using this

theorem flat_len {α : Type} {cells : α → List Value} {size : Nat} (hlen : ∀ x, (cells x).length = size) (L : List α) : (L.flatMap cells).length = L.length * size := by
  induction L with
  | nil => simp
  | cons x L ih => simp [ih, hlen, Nat.add_mul]; omega

/-- and back: which element a cell of the flat row belongs to -/
theorem flat_back {α : Type} {cells : α → List Value} {size : Nat} (hlen : ∀ x, (cells x).length = size) (hs : 0 < size) : ∀ (L : List α) (k : Nat) (u : Value), (L.flatMap cells)[k]? = some u → ∃ x, L[k / size]? = some x ∧ (cells x)[k % size]? = some u
  | [], k, u, h => by simp at h
  | y :: L, k, u, h => by
    rcases Nat.lt_or_ge k size with hk | hk
    · rw [List.flatMap_cons, List.getElem?_append_left (by rw [hlen]; exact hk)] at h
      rw [Nat.div_eq_of_lt hk, Nat.mod_eq_of_lt hk]
      exact ⟨y, rfl, h⟩
    · obtain ⟨j, rfl⟩ : ∃ j, k = size + j := ⟨k - size, by omega⟩
      rw [List.flatMap_cons, List.getElem?_append_right (by rw [hlen]; omega), hlen, Nat.add_sub_cancel_left] at h
      obtain ⟨x, h1, h2⟩ := flat_back hlen hs L j u h
      refine ⟨x, ?_, ?_⟩
      · rw [Nat.add_div_left _ hs]; simpa using h1
      · rw [Nat.add_mod_left]; exact h2

theorem own_rd {α : Type} {w : World} {B e size : Nat} {cells : α → List Value} (hlen : ∀ x, (cells x).length = size) {v : Value} {L : List α} (h : w.ownsRow B e size v L.length (L.flatMap cells)) :
    ∃ A c, v = .slice A L.length c ∧ Rd w w.heap.size size cells A L ∧ L.length ≤ c ∧ c ≤ maxLen := by
  have hc := h
  rcases h.2 with ⟨rfl, h0⟩ | ⟨g, cap, cur, rfl, hb, hg, hn, hm, _⟩
  · have : L = [] := List.eq_nil_of_length_eq_zero h0
    subst this
    exact ⟨none, 0, rfl, .inl rfl, Nat.le_refl _, Nat.zero_le _⟩
  · refine ⟨_, cap, rfl, .inr ⟨g, 0, rfl, (Array.getElem?_eq_some_iff.1 hg).1, ?_⟩, hn, hm⟩
    intro i x hx j u hu
    have h1 := hc.cells (g := g) rfl (i * size + j) u (flat_at hlen L i x hx j u hu)
    have e : (⟨g, 0, none⟩ : Addr).add (i * size + j) = ⟨g, 0 + i * size + j, none⟩ := by
      unfold Addr.add
      by_cases hz : i * size + j = 0
      · rw [if_pos hz]; congr 1; omega
      · rw [if_neg hz]; congr 1; simp only; omega
    rw [e] at h1
    exact h1

theorem Rd.cut {α : Type} {w : World} {B size : Nat} {cells : α → List Value} {A : Option Addr} {L : List α} (h : Rd w B size cells A L) {k cap : Nat} (hk : k ≤ L.length) (hc : L.length ≤ cap) :
    Rd w B size cells (if cap = k then A else A.map (·.add (k * size))) (L.drop k) := by
  rcases Nat.lt_or_ge k L.length with hlt | hge
  · rcases h with h | ⟨b, off, e, hb, hcell⟩
    · subst h; simp at hlt
    · subst e
      rw [if_neg (by omega)]
      refine .inr ⟨b, off + k * size, ?_, hb, ?_⟩
      · simp only [Option.map_some, Addr.add]
        by_cases hz : k * size = 0
        · rw [if_pos hz]; simp [hz]
        · rw [if_neg hz]
      · intro i x hx j u hu
        rw [List.getElem?_drop] at hx
        have := hcell (k + i) x hx j u hu
        rw [Nat.add_mul] at this
        rw [← this]
        congr 2
        omega
  · exact .inl (List.drop_eq_nil_of_le hge)

theorem Rd.from_ {α : Type} {w : World} {B size : Nat} {cells : α → List Value} {b off : Nat} {L : List α} (h : Rd w B size cells (some ⟨b, off, none⟩) L) (k : Nat) : Rd w B size cells (some ⟨b, off + k * size, none⟩) (L.drop k) := by
  rcases h with h | ⟨b', off', e, hb, hcell⟩
  · exact .inl (by rw [h]; simp)
  · cases e
    refine .inr ⟨b, off + k * size, rfl, hb, ?_⟩
    intro i x hx j u hu
    rw [List.getElem?_drop] at hx
    have := hcell (k + i) x hx j u hu
    rw [Nat.add_mul] at this
    rw [← this]
    congr 2
    omega

section
variable {P : Program} (w : World)

theorem run_append_of_nil (base : Nat) (t ty e : TypeId) (i : TypeInfo) (size : Nat) (ht : P.underlying t = some (.slice e)) (hi : P.info? e = some i)
    (v : Value) (n : Nat) (xs : List Value) (hown : w.ownsRow base e size v n xs) (c : Nat) : (Builtin.append_ #[t, t] ty #[v, .slice none 0 c]).run P w = .ok v w := by
  rcases hown.2 with ⟨rfl, rfl⟩ | ⟨g, cap, cur, rfl, _, _, hnc, _⟩
  · simp [Builtin.append_, run_underlying ht, sizeOf, typeInfo, hi, Builtin.lenOf, Builtin.firstCells]
  · simp [Builtin.append_, run_underlying ht, sizeOf, typeInfo, hi, Builtin.lenOf, Builtin.firstCells, hnc, storeCells]

theorem run_append_rd {α : Type} (base : Nat) (t ty e : TypeId) (i : TypeInfo) (z : Value) (size bytes : Nat) (ht : P.underlying t = some (.slice e)) (hi : P.info? e = some i) (hz : i.zero = some z)
    (hsize : i.size = size) (hby : i.bytes = bytes) (hzs : z.cells.size = size) (hsz : 0 < size)
    (v : Value) (n : Nat) (xs : List Value) (hown : w.ownsRow base e size v n xs)
    (B : Nat) (A : Option Addr) (m c : Nat) (cells : α → List Value) (hlen : ∀ x, (cells x).length = size) (h1 : ∀ x, ∀ u ∈ cells x, u.oneCell' = true) (M : List α) (hM : M.length = m) (hr : Rd w B size cells A M)
    (h63 : n + m ≤ maxLen) (hbytes : (n + m) * bytes ≤ 140737488355328) (hbase : base ≤ w.heap.size) :
    ∃ v' w', (Builtin.append_ #[t, t] ty #[v, .slice A m c]).run P w = .ok v' w' ∧ w'.ownsRow base e size v' (n + m) (xs ++ M.flatMap cells) ∧ w.grownBy w' v.ownBlock ∧
      (v'.ownBlock = v.ownBlock ∨ v'.ownBlock = some w.heap.size) := by
  have hflat : (M.flatMap cells).length = m * size := by rw [flat_len hlen, hM]
  have h1' : ∀ u ∈ M.flatMap cells, u.oneCell' = true := fun u hu => by
    obtain ⟨x, _, hx⟩ := List.mem_flatMap.1 hu
    exact h1 x u hx
  rcases A with _ | ad
  · have hnil : M = [] := by
      rcases hr with h | ⟨b, off, h, _⟩
      · exact h
      · cases h
    subst hnil
    obtain rfl : m = 0 := by simpa using hM.symm
    exact ⟨v, w, run_append_of_nil w base t ty e i size ht hi v n xs hown c, by simpa using hown, World.grownBy.refl w _, .inl rfl⟩
  · have hcells : ∀ j u, (M.flatMap cells)[j]? = some u → w.cell? (ad.add j) = some u := by
      intro j u hu
      obtain ⟨x, hx, hu'⟩ := flat_back hlen hsz M j u hu
      rcases hr with h | ⟨b, off, h, _, hc⟩
      · subst h; simp at hx
      · cases h
        have := hc _ x hx _ u hu'
        have e : (⟨b, off, none⟩ : Addr).add j = ⟨b, off + j / size * size + j % size, none⟩ := by
          have hd : j / size * size + j % size = j := by rw [Nat.mul_comm]; exact Nat.div_add_mod j size
          unfold Addr.add
          by_cases hz : j = 0
          · subst hz; simp
          · rw [if_neg hz]; congr 1; simp only; omega
        rw [e]; exact this
    obtain ⟨v', w', hrun, h2, h3, _, h5⟩ := run_append_own_at (P := P) w base t ty e i z size bytes ht hi hz hsize hby hzs hsz v n xs hown ad m c (M.flatMap cells) hflat hcells h1' h63 hbytes hbase
    exact ⟨v', w', hrun, h2, h3, h5⟩

theorem wp_append_rd {α : Type} {o : Oper} {a : Act} {K : Act → World → Prop} {Q : Exit → Act → World → Prop} (s x : Operand) (t : TypeId)
    (ho : o.op = .call { callee := .builtin .append, args := #[s, x], argTypes := #[t, t] })
    (base : Nat) (e : TypeId) (i : TypeInfo) (z : Value) (size bytes : Nat) (ht : P.underlying t = some (.slice e)) (hi : P.info? e = some i) (hz : i.zero = some z)
    (hsize : i.size = size) (hby : i.bytes = bytes) (hzs : z.cells.size = size) (hsz : 0 < size)
    (v : Value) (n : Nat) (xs : List Value) (hs : a.eval s = v) (hown : w.ownsRow base e size v n xs)
    (B : Nat) (A : Option Addr) (m c : Nat) (cells : α → List Value) (hlen : ∀ x, (cells x).length = size) (h1 : ∀ x, ∀ u ∈ cells x, u.oneCell' = true) (M : List α) (hM : M.length = m) (hx : a.eval x = .slice A m c) (hr : Rd w B size cells A M)
    (h63 : n + m ≤ maxLen) (hbytes : (n + m) * bytes ≤ 140737488355328) (hbase : base ≤ w.heap.size)
    (h : ∀ v' w', w'.ownsRow base e size v' (n + m) (xs ++ M.flatMap cells) → w.grownBy w' v.ownBlock → (v'.ownBlock = v.ownBlock ∨ v'.ownBlock = some w.heap.size) → K (a.put o.dst v') w') : o.wp P a w K Q := by
  obtain ⟨v', w', hrun, h2, h3, h4⟩ := run_append_rd (P := P) w base t o.type e i z size bytes ht hi hz hsize hby hzs hsz v n xs hown B A m c cells hlen h1 M hM hr h63 hbytes hbase
  unfold Oper.wp execOp
  simp only [ho, resolve, invoke, builtin, Sem.run_bind, Sem.run_pure, Result.andThen_ok, List.map_toArray, List.map_cons, List.map_nil, hs, hx, hrun]
  exact h v' w' h2 h3 h4

theorem wpList_append_rd {α : Type} {ops : Array Oper} {rest : List Oper} {o : Oper} {a : Act} {Q : Exit → Act → World → Prop} (hgd : o.guard = none) (s x : Operand) (t : TypeId)
    (ho : o.op = .call { callee := .builtin .append, args := #[s, x], argTypes := #[t, t] })
    (base : Nat) (e : TypeId) (i : TypeInfo) (z : Value) (size bytes : Nat) (ht : P.underlying t = some (.slice e)) (hi : P.info? e = some i) (hz : i.zero = some z)
    (hsize : i.size = size) (hby : i.bytes = bytes) (hzs : z.cells.size = size) (hsz : 0 < size)
    (v : Value) (n : Nat) (xs : List Value) (hs : a.eval s = v) (hown : w.ownsRow base e size v n xs)
    (B : Nat) (A : Option Addr) (m c : Nat) (cells : α → List Value) (hlen : ∀ x, (cells x).length = size) (h1 : ∀ x, ∀ u ∈ cells x, u.oneCell' = true) (M : List α) (hM : M.length = m) (hx : a.eval x = .slice A m c) (hr : Rd w B size cells A M)
    (h63 : n + m ≤ maxLen) (hbytes : (n + m) * bytes ≤ 140737488355328) (hbase : base ≤ w.heap.size)
    (h : ∀ v' w', w'.ownsRow base e size v' (n + m) (xs ++ M.flatMap cells) → w.grownBy w' v.ownBlock → (v'.ownBlock = v.ownBlock ∨ v'.ownBlock = some w.heap.size) → wpList P ops Q rest (a.put o.dst v') w') : wpList P ops Q (o :: rest) a w :=
  wpList_plain hgd fun _ hK => wp_append_rd w s x t ho base e i z size bytes ht hi hz hsize hby hzs hsz v n xs hs hown B A m c cells hlen h1 M hM hx hr h63 hbytes hbase fun v' w' h2 h3 h4 => hK _ _ (h v' w' h2 h3 h4)
end
end Go.Proofs.Ytnhhinlhfaapcaa
