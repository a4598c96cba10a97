/- Words for memory and laws on maps, shared by the proofs of this seat: plain lemmas, no statement of the seat is proved here. -/
import Derived.Maps.Own
import Derived.Maps.OwnSet
import Derived.Maps.OwnOps
import Derived.Maps.AppendAt
import Derived.WideKeyEntry
import Derived.DeepKeys4
import Derived.WalkKit
import Derived.WalkSpells
import Derived.WalkLawsBesides
import Derived.Laws.OwnMore
import Derived.Laws.CopyOwn
import Derived.Deep.AppendLies
import Derived.Deep.Draws
import Derived.Deep.QuietTactic
import Derived.BigQuiet
import Derived.Lib.Hide
import Derived.Deep.DeepMust
import Derived.Deep.DeepFit
namespace Go.Proofs.Ytnhhinlhfaapcaa
open Go.RowKit Go.ChangeMaps Go.MapKept
open Go.Maps (Keyed)

/-! ### blocks known whole -/
def Blk (w : World) (g : Nat) (t : TypeId) (cs : Array Value) : Prop := w.heap[g]? = some (.cells cs t (0, 0))

section
variable {w w' : World} {g : Nat} {t : TypeId} {cs : Array Value}
theorem Blk.lt (h : Blk w g t cs) : g < w.heap.size := by
  rcases Nat.lt_or_ge g w.heap.size with hlt | hge
  · exact hlt
  · unfold Blk at h; rw [Array.getElem?_eq_none hge] at h; cases h
theorem Blk.cell (h : Blk w g t cs) (i : Nat) : w.cell? ⟨g, i, none⟩ = cs[i]? := cell_of_row w g i cs t (0, 0) h
theorem Blk.frozen (h : Blk w g t cs) (i : Nat) : w.frozen? ⟨g, i, none⟩ = false := by
  unfold Blk at h
  simp [World.frozen?, h]
theorem Blk.new (w : World) (t : TypeId) (cs : Array Value) : Blk (w.alloc (.cells cs t)) w.heap.size t cs := heap_alloc_new w _
theorem Blk.drew (h : Blk w g t cs) : Blk w.drew g t cs := h
theorem Blk.drewN (h : Blk w g t cs) (n : Nat) : Blk (w.drewN n) g t cs := h
theorem Blk.alloc (h : Blk w g t cs) (o : Obj) : Blk (w.alloc o) g t cs := (Below.heap_alloc w o g h.lt).trans h
theorem Blk.set_ (h : Blk w g t cs) (i : Nat) (u : Value) : Blk (w.setCell ⟨g, i, none⟩ u) g t (cs.setIfInBounds i u) := by
  unfold Blk at h ⊢
  simp [World.setCell, Array.getElem?_modify, h]
theorem Blk.far (h : Blk w g t cs) {p : Addr} (hp : g ≠ p.block) (u : Value) : Blk (w.setCell p u) g t cs := (Below.heap_setCell w p u g hp).trans h
theorem Blk.below {B : Nat} (h : Blk w g t cs) (hb : Below B w w') (hg : g < B) : Blk w' g t cs := (hb.block g hg).trans h
theorem Blk.grown {row : Option Nat} (h : Blk w g t cs) (hb : w.grownBy w' row) (hg : some g ≠ row) : Blk w' g t cs := (hb.block g h.lt hg).trans h
theorem Blk.ne_ {g' : Nat} {t' : TypeId} {cs' : Array Value} (h : Blk w g t cs) (h' : Blk w g' t' cs') (hne : t ≠ t') : g ≠ g' := by
  rintro rfl
  unfold Blk at h h'
  rw [h] at h'
  injection h' with h'
  injection h' with _ ht
  exact hne ht
theorem own_blk_ne {base : Nat} {e : TypeId} {size n : Nat} {v : Value} {xs : List Value} (h : w.ownsRow base e size v n xs) (hg : Blk w g t cs) (hne : e ≠ t) : v.ownBlock ≠ some g := by
  rcases h.2 with ⟨rfl, _⟩ | ⟨g', cap, cur, rfl, _, hh, _⟩
  · simp [Value.ownBlock]
  · intro he
    have : g' = g := by simpa [Value.ownBlock] using he
    subst this
    exact Blk.ne_ (t := e) hh hg hne rfl
end

theorem own_succ {W : World} {base : Nat} {e : TypeId} {size : Nat} {v : Value} {k : Nat} {xs : List Value} (h : W.ownsRow base e size v (k + 1) xs) : ∃ g cap, v = .slice (some ⟨g, 0, none⟩) (k + 1) cap := by
  rcases h.2 with ⟨_, h0⟩ | ⟨g, cap, _, rfl, _⟩
  · omega
  · exact ⟨g, cap, rfl⟩

theorem own_slice {W : World} {base : Nat} {e : TypeId} {size : Nat} {v : Value} {k : Nat} {xs : List Value} (h : W.ownsRow base e size v k xs) : ∃ A cap, v = .slice A k cap := by
  rcases h.2 with ⟨rfl, rfl⟩ | ⟨g, cap, _, rfl, _⟩
  · exact ⟨none, 0, rfl⟩
  · exact ⟨_, cap, rfl⟩

/-! ### a quiet region behind a quiet region -/
theorem quiet_add_left {P : Program} {f : FuncId} {args : Array Value} {w : World} {a n : Nat} {v : Value}
    (h : Calls P f args (w.drewN (a + n)) fun e w' => e = .returned v ∧ w.drewN (a + n) = w') :
    Calls P f args (w.drewN (a + n)) fun e w'' => e = .returned v ∧ ∃ m, w'' = w.drewN (a + m) :=
  h.mono fun _ _ ⟨he, hm⟩ => ⟨he, n, hm.symm⟩
theorem quiet_left {P : Program} {f : FuncId} {args : Array Value} {w : World} {n : Nat} {v : Value}
    (h : Calls P f args (w.drewN n) fun e w' => e = .returned v ∧ w.drewN n = w') : Calls P f args (w.drewN n) fun e w'' => e = .returned v ∧ ∃ m, w'' = w.drewN m :=
  h.mono fun _ _ ⟨he, hm⟩ => ⟨he, n, hm.symm⟩
theorem below_drewN {B : Nat} {a w : World} (h : Below B a w) (n : Nat) : Below B a (w.drewN n) := ⟨h.os, h.tape, h.output, h.size, h.block⟩

/-! ### a map's block that answers f -/
/-- Block g is a map of at most n entries that answers f. -/
def MapIs (P : Program) (k : TypeId) (w : World) (g n : Nat) (f : Value → Option Value) : Prop :=
  ∃ es clock, w.heap[g]? = some (.map es clock) ∧ Stamped es clock ∧ (∀ e ∈ es.toList, ∃ l, keyOf P k e.key = some l) ∧ es.size ≤ n ∧
    (∀ e ∈ es.toList, f e.key = some e.val) ∧ ∀ x, (∀ e ∈ es.toList, e.key ≠ x) → f x = none

open Classical in
/-- f, but v at x. -/
noncomputable def upd (f : Value → Option Value) (x : Value) (v : Option Value) : Value → Option Value := fun y => if y = x then v else f y

theorem upd_same (f : Value → Option Value) (x : Value) (v : Option Value) : upd f x v x = v := by simp [upd]
theorem upd_other (f : Value → Option Value) {x y : Value} (v : Option Value) (h : y ≠ x) : upd f x v y = f y := by simp [upd, h]

section
variable {P : Program} {k : TypeId} {w w' : World} {g n : Nat} {f : Value → Option Value}

theorem MapIs.lt (h : MapIs P k w g n f) : g < w.heap.size := by
  obtain ⟨es, clock, hb, _⟩ := h
  exact (Array.getElem?_eq_some_iff.1 hb).1
theorem MapIs.made (w : World) (P : Program) (k : TypeId) : MapIs P k (w.alloc (.map #[] 0)) w.heap.size 0 (fun _ => none) :=
  ⟨#[], 0, (MapKept.heap_alloc w _).1, stamped_empty 0, by simp, by simp, by simp, fun _ _ => rfl⟩
theorem MapIs.mono (h : MapIs P k w g n f) {n' : Nat} (hn : n ≤ n') : MapIs P k w g n' f := by
  obtain ⟨es, clock, hb, a, b, hs, c⟩ := h
  exact ⟨es, clock, hb, a, b, Nat.le_trans hs hn, c⟩
theorem MapIs.of_block (h : MapIs P k w g n f) (he : w'.heap[g]? = w.heap[g]?) : MapIs P k w' g n f := by
  obtain ⟨es, clock, hb, r⟩ := h
  exact ⟨es, clock, he.trans hb, r⟩
theorem MapIs.drew (h : MapIs P k w g n f) : MapIs P k w.drew g n f := h
theorem MapIs.drewN (h : MapIs P k w g n f) (m : Nat) : MapIs P k (w.drewN m) g n f := h
theorem MapIs.alloc (h : MapIs P k w g n f) (o : Obj) : MapIs P k (w.alloc o) g n f := h.of_block (Below.heap_alloc w o g h.lt)
theorem MapIs.far (h : MapIs P k w g n f) {p : Addr} (hp : g ≠ p.block) (u : Value) : MapIs P k (w.setCell p u) g n f := h.of_block (Below.heap_setCell w p u g hp)
theorem MapIs.below {B : Nat} (h : MapIs P k w g n f) (hb : Below B w w') (hg : g < B) : MapIs P k w' g n f := h.of_block (hb.block g hg)
theorem MapIs.grown {row : Option Nat} (h : MapIs P k w g n f) (hb : w.grownBy w' row) (hg : some g ≠ row) : MapIs P k w' g n f := h.of_block (hb.block g h.lt hg)
theorem MapIs.ne_blk {g' : Nat} {t : TypeId} {cs : Array Value} (h : MapIs P k w g n f) (h' : Blk w g' t cs) : g ≠ g' := by
  rintro rfl
  obtain ⟨es, clock, hb, _⟩ := h
  unfold Blk at h'
  rw [hb] at h'
  cases h'
theorem MapIs.congr (h : MapIs P k w g n f) {f' : Value → Option Value} (hf : ∀ x, f x = f' x) : MapIs P k w g n f' := by
  have : f = f' := funext hf
  rw [← this]; exact h

theorem heap_set_same {es : Array MapEntry} {clock : Nat} {o' : Obj} (hb : w.heap[g]? = some (.map es clock)) : (setBlock w g o').heap[g]? = some o' := heap_setBlock_same hb _
theorem grown_setBlock (w : World) (g : Nat) {es : Array MapEntry} {clock : Nat} (hb : w.heap[g]? = some (.map es clock)) (o' : Obj) : w.grownBy (setBlock w g o') (some g) :=
  ⟨rfl, rfl, rfl, by simp [setBlock], fun i _ hi => heap_setBlock_other hb _ (fun e => hi (by rw [e]))⟩

/-- two entries with one key are one -/
theorem stamped_key {es : Array MapEntry} {clock : Nat} (h : Stamped es clock) {i j : Nat} {a b : MapEntry} (ha : es.toList[i]? = some a) (hb : es.toList[j]? = some b) (hk : a.key = b.key) : i = j := by
  have hp := List.pairwise_iff_getElem.1 ((stamped_iff es clock).1 h).2.2
  obtain ⟨hi, ea⟩ := List.getElem?_eq_some_iff.1 ha
  obtain ⟨hj, eb⟩ := List.getElem?_eq_some_iff.1 hb
  rcases Nat.lt_trichotomy i j with hlt | he | hlt
  · exact absurd (by rw [ea, eb]; exact hk) (hp i j hi hj hlt)
  · exact he
  · exact absurd (by rw [ea, eb]; exact hk.symm) (hp j i hj hi hlt)

variable {t e : TypeId}

theorem MapIs.lookup (h : MapIs P k w g n f) (K : Keyed P k) (ht : P.underlying t = some (.map k e)) {z : Value} (hz : (zeroValue e).run P w = .ok z w) {key : Value} {kl : Lit} (hkey : keyOf P k key = some kl) (c : Bool) :
    (Instr.lookup t (.map (some g)) key c).run P w = .ok (if c then .tuple #[(f key).getD z, .bool (f key).isSome] else (f key).getD z) w := by
  obtain ⟨es, clock, hb, _, hks, _, hin, hout⟩ := h
  rcases K.find w hkey es.toList hks with ⟨h1, h2⟩ | ⟨j, e0, h1, h2, h3⟩
  · rw [hout key h2]
    simp [Instr.lookup, run_underlying ht, MapKept.run_getObj_map hb, K.check w _ hkey, h1, hz, Result.andThen]
  · have hm := hin e0 (List.mem_of_getElem? h2)
    rw [h3] at hm
    rw [hm]
    simp [Instr.lookup, run_underlying ht, MapKept.run_getObj_map hb, K.check w _ hkey, h1, Result.andThen]

theorem MapIs.update (h : MapIs P k w g n f) (K : Keyed P k) (ht : P.underlying t = some (.map k e)) {key : Value} {kl : Lit} (hkey : keyOf P k key = some kl) (val : Value) :
    ∃ w', (Instr.mapUpdate t (.map (some g)) key val).run P w = .ok () w' ∧ MapIs P k w' g (n + 1) (upd f key (some val)) ∧ w.grownBy w' (some g) := by
  obtain ⟨es, clock, hb, hst, hks, hs, hin, hout⟩ := h
  rcases K.find w hkey es.toList hks with ⟨h1, h2⟩ | ⟨j, e0, h1, h2, h3⟩
  · refine ⟨setBlock w g (.map (es.push ⟨key, val, clock⟩) (clock + 1)), ?_, ⟨_, _, heap_set_same hb, stamped_push hst h2, ?_, by simp; omega, ?_, ?_⟩, grown_setBlock w g hb _⟩
    · simp [Instr.mapUpdate, run_underlying ht, MapKept.run_getObj_map hb, K.check w false hkey, h1, MapKept.run_setObj_map _ hb, Result.andThen, setBlock]
    · intro x hx
      simp only [Array.toList_push, List.mem_append, List.mem_singleton] at hx
      rcases hx with hx | rfl
      · exact hks x hx
      · exact ⟨_, hkey⟩
    · intro x hx
      simp only [Array.toList_push, List.mem_append, List.mem_singleton] at hx
      rcases hx with hx | rfl
      · rw [upd_other _ _ (h2 x hx)]; exact hin x hx
      · exact upd_same _ _ _
    · intro x hx
      simp only [Array.toList_push, List.mem_append, List.mem_singleton] at hx
      have hne : key ≠ x := hx ⟨key, val, clock⟩ (.inr rfl)
      rw [upd_other _ _ (fun e => hne e.symm)]
      exact hout x (fun y hy => hx y (.inl hy))
  · have hj : es[j]? = some e0 := by simpa using h2
    have hjl : j < es.toList.length := (List.getElem?_eq_some_iff.1 h2).1
    have hkeyf : ∀ e', es[j]? = some e' → ({ e' with key := key, val := val } : MapEntry).key = e'.key := fun e' he' => by rw [hj] at he'; cases he'; exact h3.symm
    have hlist : (es.modify j (fun e' => { e' with key := key, val := val })).toList = es.toList.set j { e0 with key := key, val := val } := by rw [Array.toList_modify, modify_eq_set _ _ _ _ h2]
    have who : ∀ x ∈ es.toList.set j { e0 with key := key, val := val }, x = { e0 with key := key, val := val } ∨ (x ∈ es.toList ∧ x.key ≠ key) := by
      intro x hx
      obtain ⟨i, hi, ex⟩ := List.getElem_of_mem hx
      rw [List.getElem_set] at ex
      split at ex
      · exact Or.inl ex.symm
      · rename_i hne
        have hi' : i < es.toList.length := by simpa using hi
        refine Or.inr ⟨ex ▸ List.getElem_mem hi', fun hk => hne ?_⟩
        exact stamped_key hst h2 (by rw [List.getElem?_eq_getElem hi', ex]) (h3.trans hk.symm)
    refine ⟨setBlock w g (.map (es.modify j (fun e' => { e' with key := key, val := val })) clock), ?_, ⟨_, _, heap_set_same hb, stamped_modify hst _ _ (fun _ _ => rfl) (fun e' _ he' => hkeyf e' he'), ?_, by simp; omega, ?_, ?_⟩, grown_setBlock w g hb _⟩
    · simp [Instr.mapUpdate, run_underlying ht, MapKept.run_getObj_map hb, K.check w false hkey, h1, hj, h3, K.stays w hkey, MapKept.run_setObj_map _ hb, Result.andThen, setBlock]
    · intro x hx
      rw [hlist] at hx
      rcases who x hx with rfl | ⟨hx', _⟩
      · exact ⟨_, hkey⟩
      · exact hks x hx'
    · intro x hx
      rw [hlist] at hx
      rcases who x hx with rfl | ⟨hx', hne⟩
      · exact upd_same _ _ _
      · rw [upd_other _ _ hne]; exact hin x hx'
    · intro x hx
      rw [hlist] at hx
      have hself : ({ e0 with key := key, val := val } : MapEntry) ∈ es.toList.set j { e0 with key := key, val := val } := List.mem_iff_getElem.2 ⟨j, by simpa using hjl, by simp⟩
      have hne : key ≠ x := hx _ hself
      rw [upd_other _ _ (fun e => hne e.symm)]
      refine hout x (fun y hy hk => ?_)
      obtain ⟨i, hi, ex⟩ := List.getElem_of_mem hy
      by_cases hij : i = j
      · subst hij
        have h22 := h2
        rw [List.getElem?_eq_getElem hi, ex] at h22
        cases h22
        exact hne (h3.symm.trans hk)
      · refine hx y (List.mem_iff_getElem.2 ⟨i, by simpa using hi, ?_⟩) hk
        rw [List.getElem_set_ne (fun e => hij e.symm)]; exact ex

theorem MapIs.delete (h : MapIs P k w g n f) (K : Keyed P k) (ht : P.underlying t = some (.map k e)) {key : Value} {kl : Lit} (hkey : keyOf P k key = some kl) (ty : TypeId) :
    ∃ w', (Builtin.delete_ #[t, k] ty #[.map (some g), key]).run P w = .ok (.tuple #[]) w' ∧ MapIs P k w' g n (upd f key none) ∧ w.grownBy w' (some g) := by
  obtain ⟨es, clock, hb, hst, hks, hs, hin, hout⟩ := h
  rcases K.find w hkey es.toList hks with ⟨h1, h2⟩ | ⟨j, e0, h1, h2, h3⟩
  · refine ⟨setBlock w g (.map es clock), ?_, ⟨es, clock, heap_set_same hb, hst, hks, hs, ?_, ?_⟩, grown_setBlock w g hb _⟩
    · simp [Builtin.delete_, run_underlying ht, MapKept.run_getObj_map hb, K.check w _ hkey, h1, MapKept.run_setObj_map _ hb, Result.andThen, setBlock]
    · intro x hx
      rw [upd_other _ _ (h2 x hx)]; exact hin x hx
    · intro x hx
      by_cases hxk : x = key
      · subst hxk; exact upd_same _ _ _
      · rw [upd_other _ _ hxk]; exact hout x hx
  · have hjl : j < es.toList.length := (List.getElem?_eq_some_iff.1 h2).1
    have hjs : j < es.size := by simpa using hjl
    have hsub : (es.eraseIdxIfInBounds j).toList = es.toList.eraseIdx j := by
      unfold Array.eraseIdxIfInBounds
      rw [dif_pos hjs]
      simp
    refine ⟨setBlock w g (.map (es.eraseIdxIfInBounds j) clock), ?_, ⟨_, _, heap_set_same hb, stamped_erase hst j, ?_, Nat.le_trans (MapFrom.size_erase es j) hs, ?_, ?_⟩, grown_setBlock w g hb _⟩
    · simp [Builtin.delete_, run_underlying ht, MapKept.run_getObj_map hb, K.check w _ hkey, h1, MapKept.run_setObj_map _ hb, Result.andThen, setBlock]
    · intro x hx
      rw [hsub] at hx
      exact hks x ((List.eraseIdx_sublist _ _).subset hx)
    · intro x hx
      rw [hsub] at hx
      obtain ⟨i, hne, hi⟩ := List.mem_eraseIdx_iff_getElem?.1 hx
      have hxk : x.key ≠ key := fun hk => hne (stamped_key hst hi h2 (hk.trans h3.symm))
      rw [upd_other _ _ hxk]
      exact hin x (List.mem_of_getElem? hi)
    · intro x hx
      rw [hsub] at hx
      by_cases hxk : x = key
      · subst hxk; exact upd_same _ _ _
      · rw [upd_other _ _ hxk]
        refine hout x (fun y hy hk => ?_)
        obtain ⟨i, hi, ex⟩ := List.getElem_of_mem hy
        by_cases hij : i = j
        · subst hij
          have h22 := h2
          rw [List.getElem?_eq_getElem hi, ex] at h22
          cases h22
          exact hxk (hk.symm.trans h3)
        · exact hx y (List.mem_eraseIdx_iff_getElem?.2 ⟨i, hij, by rw [List.getElem?_eq_getElem hi, ex]⟩) hk

theorem MapIs.len (h : MapIs P k w g n f) : ∃ m, m ≤ n ∧ w.heap[g]? = w.heap[g]? ∧ ∃ es clock, w.heap[g]? = some (.map es clock) ∧ es.size = m := by
  obtain ⟨es, clock, hb, _, _, hs, _⟩ := h
  exact ⟨es.size, hs, rfl, es, clock, hb, rfl⟩

/-- Between 'm[k] op= v's two halves: as a map, and the entry at 'key' bears the stamp. -/
def MapAt (P : Program) (k : TypeId) (w : World) (g n : Nat) (f : Value → Option Value) (key : Value) (stamp : Nat) : Prop :=
  ∃ (es : Array MapEntry) (clock j : Nat) (e0 : MapEntry), w.heap[g]? = some (.map es clock) ∧ Stamped es clock ∧ (∀ e ∈ es.toList, ∃ l, keyOf P k e.key = some l) ∧ es.size ≤ n ∧
    (∀ e ∈ es.toList, f e.key = some e.val) ∧ (∀ x, (∀ e ∈ es.toList, e.key ≠ x) → f x = none) ∧ es.toList[j]? = some e0 ∧ e0.key = key ∧ e0.born = stamp

theorem MapAt.of_block {key : Value} {st : Nat} (h : MapAt P k w g n f key st) (he : w'.heap[g]? = w.heap[g]?) : MapAt P k w' g n f key st := by
  obtain ⟨es, clock, j, e0, hb, r⟩ := h
  exact ⟨es, clock, j, e0, he.trans hb, r⟩

theorem MapAt.toIs {key : Value} {st : Nat} (h : MapAt P k w g n f key st) : MapIs P k w g n f := by
  obtain ⟨es, clock, j, e0, hb, hst, hks, hs, hin, hout, _⟩ := h
  exact ⟨es, clock, hb, hst, hks, hs, hin, hout⟩

theorem MapIs.entry (h : MapIs P k w g n f) (K : Keyed P k) (ht : P.underlying t = some (.map k e)) {z : Value} (hz : (zeroValue e).run P w = .ok z w) {key : Value} {kl : Lit} (hkey : keyOf P k key = some kl) :
    ∃ (st : Nat) (w' : World), (Instr.mapEntry t (.map (some g)) key).run P w = .ok (.tuple #[(f key).getD z, goInt st]) w' ∧ MapAt P k w' g (n + 1) (upd f key (some ((f key).getD z))) key st ∧ w.grownBy w' (some g) := by
  obtain ⟨es, clock, hb, hst, hks, hs, hin, hout⟩ := h
  rcases K.find w hkey es.toList hks with ⟨h1, h2⟩ | ⟨j, e0, h1, h2, h3⟩
  · rw [hout key h2]
    refine ⟨clock, setBlock w g (.map (es.push ⟨key, z, clock⟩) (clock + 1)), ?_, ⟨_, _, es.size, ⟨key, z, clock⟩, heap_set_same hb, stamped_push hst h2, ?_, by simp; omega, ?_, ?_, by simp, rfl, rfl⟩, grown_setBlock w g hb _⟩
    · simp [Instr.mapEntry, run_underlying ht, MapKept.run_getObj_map hb, K.check w false hkey, h1, hz, MapKept.run_setObj_map _ hb, Result.andThen, setBlock]
    · intro x hx
      simp only [Array.toList_push, List.mem_append, List.mem_singleton] at hx
      rcases hx with hx | rfl
      · exact hks x hx
      · exact ⟨_, hkey⟩
    · intro x hx
      simp only [Array.toList_push, List.mem_append, List.mem_singleton] at hx
      rcases hx with hx | rfl
      · rw [upd_other _ _ (h2 x hx)]; exact hin x hx
      · exact upd_same _ _ _
    · intro x hx
      simp only [Array.toList_push, List.mem_append, List.mem_singleton] at hx
      have hne : key ≠ x := hx ⟨key, z, clock⟩ (.inr rfl)
      rw [upd_other _ _ (fun e => hne e.symm)]
      exact hout x (fun y hy => hx y (.inl hy))
  · have hj : es[j]? = some e0 := by simpa using h2
    have hm := hin e0 (List.mem_of_getElem? h2)
    rw [h3] at hm
    rw [hm]
    have hself : (es.modify j (fun e' => { e' with key := key })) = es := by
      apply Array.ext'
      rw [Array.toList_modify, modify_eq_set _ _ _ _ h2]
      apply List.ext_getElem?
      intro i
      by_cases hij : j = i
      · subst hij
        rw [List.getElem?_set_self (List.getElem?_eq_some_iff.1 h2).1, h2, ← h3]
      · rw [List.getElem?_set_ne hij]
    refine ⟨e0.born, setBlock w g (.map es clock), ?_, ⟨es, clock, j, e0, heap_set_same hb, hst, hks, by omega, ?_, ?_, h2, h3, rfl⟩, grown_setBlock w g hb _⟩
    · simp [Instr.mapEntry, run_underlying ht, MapKept.run_getObj_map hb, K.check w false hkey, h1, hj, h3, K.stays w hkey, MapKept.run_setObj_map _ hb, Result.andThen, setBlock, hself]
    · intro x hx
      by_cases hxk : x.key = key
      · rw [hxk, upd_same]
        have := hin x hx
        rw [hxk, hm] at this
        simpa using this
      · rw [upd_other _ _ hxk]; exact hin x hx
    · intro x hx
      have hne : key ≠ x := by rw [← h3]; exact hx e0 (List.mem_of_getElem? h2)
      rw [upd_other _ _ (fun e => hne e.symm)]
      exact hout x hx

theorem MapAt.store {key : Value} {st : Nat} (h : MapAt P k w g n f key st) (t : TypeId) (val : Value) :
    ∃ w', (Instr.entryStore t (.map (some g)) (goInt st) val).run P w = .ok () w' ∧ MapIs P k w' g n (upd f key (some val)) ∧ w.grownBy w' (some g) := by
  obtain ⟨es, clock, j, e0, hb, hst, hks, hs, hin, hout, h2, h3, h4⟩ := h
  subst h4
  have hj : es[j]? = some e0 := by simpa using h2
  have hjl : j < es.toList.length := (List.getElem?_eq_some_iff.1 h2).1
  have hidx : es.findIdx? (fun e => ((e.born : Nat) : Int) == ((e0.born : Nat) : Int)) = some j := by
    rw [WideElems.findIdx_arr]
    exact WideElems.findIdx_born hst.2.1 h2
  have hkeyf : ∀ e', es[j]? = some e' → ({ e' with val := val } : MapEntry).key = e'.key := fun e' _ => rfl
  have hlist : (es.modify j (fun e' => { e' with val := val })).toList = es.toList.set j { e0 with val := val } := by rw [Array.toList_modify, modify_eq_set _ _ _ _ h2]
  have who : ∀ x ∈ es.toList.set j { e0 with val := val }, x = { e0 with val := val } ∨ (x ∈ es.toList ∧ x.key ≠ key) := by
    intro x hx
    obtain ⟨i, hi, ex⟩ := List.getElem_of_mem hx
    rw [List.getElem_set] at ex
    split at ex
    · exact Or.inl ex.symm
    · rename_i hne
      have hi' : i < es.toList.length := by simpa using hi
      refine Or.inr ⟨ex ▸ List.getElem_mem hi', fun hk => hne ?_⟩
      exact stamped_key hst h2 (by rw [List.getElem?_eq_getElem hi', ex]) (h3.trans hk.symm)
  refine ⟨setBlock w g (.map (es.modify j (fun e' => { e' with val := val })) clock), ?_, ⟨_, _, heap_set_same hb, stamped_modify hst _ _ (fun _ _ => rfl) (fun e' _ he' => hkeyf e' he'), ?_, by simp; omega, ?_, ?_⟩, grown_setBlock w g hb _⟩
  · simp [Instr.entryStore, MapKept.run_getObj_map hb, goInt, asInt, asIntOf, hidx, MapKept.run_setObj_map _ hb, Result.andThen, setBlock]
  · intro x hx
    rw [hlist] at hx
    rcases who x hx with rfl | ⟨hx', _⟩
    · exact hks e0 (List.mem_of_getElem? h2)
    · exact hks x hx'
  · intro x hx
    rw [hlist] at hx
    rcases who x hx with rfl | ⟨hx', hne⟩
    · show upd f key (some val) e0.key = _
      rw [h3]; exact upd_same _ _ _
    · rw [upd_other _ _ hne]; exact hin x hx'
  · intro x hx
    rw [hlist] at hx
    have hself : ({ e0 with val := val } : MapEntry) ∈ es.toList.set j { e0 with val := val } := List.mem_iff_getElem.2 ⟨j, by simpa using hjl, by simp⟩
    have hne : key ≠ x := by have h9 := hx _ hself; rw [← h3]; exact h9
    rw [upd_other _ _ (fun e => hne e.symm)]
    refine hout x (fun y hy hk => ?_)
    obtain ⟨i, hi, ex⟩ := List.getElem_of_mem hy
    by_cases hij : i = j
    · subst hij
      have h22 := h2
      rw [List.getElem?_eq_getElem hi, ex] at h22
      cases h22
      exact hne (h3.symm.trans hk)
    · refine hx y (List.mem_iff_getElem.2 ⟨i, by simpa using hi, ?_⟩) hk
      rw [List.getElem_set_ne (fun e => hij e.symm)]; exact ex
end

/-! ### the same at the operation, for the walk -/
section
variable {P : Program} {w : World} {ops : Array Oper} {rest : List Oper} {o : Oper} {a : Act} {Q : Exit → Act → World → Prop}

theorem wpList_lookup_is (hg : o.guard = none) (m x : Operand) (t : TypeId) (c : Bool) (hop : o.op = Op.lookup t m x c)
    (k e : TypeId) (K : Keyed P k) (ht : P.underlying t = some (.map k e)) (z : Value) (hz : (zeroValue e).run P w = .ok z w) (b n : Nat) (f : Value → Option Value)
    (hm : a.eval m = .map (some b)) (h : MapIs P k w b n f) (key : Value) (kl : Lit) (hx : a.eval x = key) (hkey : keyOf P k key = some kl)
    (hK : wpList P ops Q rest (a.put o.dst (if c then .tuple #[(f key).getD z, .bool (f key).isSome] else (f key).getD z)) w) :
    wpList P ops Q (o :: rest) a w := by
  refine wpList_plain hg fun K' hK' => ?_
  have hrun := h.lookup K ht hz hkey c
  unfold Oper.wp
  simp [execOp, hop, hm, hx, hrun, Result.andThen]
  exact hK' _ _ hK

theorem wpList_mapUpdate_is (hg : o.guard = none) (m x v : Operand) (t : TypeId) (hop : o.op = Op.mapUpdate t m x v)
    (k e : TypeId) (K : Keyed P k) (ht : P.underlying t = some (.map k e)) (b n : Nat) (f : Value → Option Value)
    (hm : a.eval m = .map (some b)) (h : MapIs P k w b n f) (key val : Value) (kl : Lit) (hx : a.eval x = key) (hv : a.eval v = val) (hkey : keyOf P k key = some kl)
    (hK : ∀ w', MapIs P k w' b (n + 1) (upd f key (some val)) → w.grownBy w' (some b) → wpList P ops Q rest (a.put o.dst undef) w') :
    wpList P ops Q (o :: rest) a w := by
  refine wpList_plain hg fun K' hK' => ?_
  obtain ⟨w', hrun, r1, r2⟩ := h.update K ht hkey val
  unfold Oper.wp
  simp [execOp, hop, hm, hx, hv, hrun, Result.andThen]
  exact hK' _ _ (hK w' r1 r2)

theorem wpList_mapEntry_is (hg : o.guard = none) (m x : Operand) (t : TypeId) (hop : o.op = Op.mapEntry t m x)
    (k e : TypeId) (K : Keyed P k) (ht : P.underlying t = some (.map k e)) (z : Value) (hz : (zeroValue e).run P w = .ok z w) (b n : Nat) (f : Value → Option Value)
    (hm : a.eval m = .map (some b)) (h : MapIs P k w b n f) (key : Value) (kl : Lit) (hx : a.eval x = key) (hkey : keyOf P k key = some kl)
    (hK : ∀ (w' : World) (st : Nat), MapAt P k w' b (n + 1) (upd f key (some ((f key).getD z))) key st → w.grownBy w' (some b) → wpList P ops Q rest (a.put o.dst (.tuple #[(f key).getD z, goInt st])) w') :
    wpList P ops Q (o :: rest) a w := by
  refine wpList_plain hg fun K' hK' => ?_
  obtain ⟨st, w', hrun, r1, r2⟩ := h.entry K ht hz hkey
  unfold Oper.wp
  simp [execOp, hop, hm, hx, hrun, Result.andThen]
  exact hK' _ _ (hK w' st r1 r2)

theorem wpList_entryStore_is (hg : o.guard = none) (m s v : Operand) (t : TypeId) (hop : o.op = Op.entryStore t m s v)
    (k : TypeId) (b n : Nat) (f : Value → Option Value) (key : Value) (st : Nat)
    (hm : a.eval m = .map (some b)) (h : MapAt P k w b n f key st) (val : Value) (hs : a.eval s = goInt st) (hv : a.eval v = val)
    (hK : ∀ w', MapIs P k w' b n (upd f key (some val)) → w.grownBy w' (some b) → wpList P ops Q rest (a.put o.dst undef) w') :
    wpList P ops Q (o :: rest) a w := by
  refine wpList_plain hg fun K' hK' => ?_
  obtain ⟨w', hrun, r1, r2⟩ := h.store t val
  unfold Oper.wp
  simp [execOp, hop, hm, hs, hv, hrun, Result.andThen]
  exact hK' _ _ (hK w' r1 r2)

theorem wpList_delete_is (hg : o.guard = none) (m x : Operand) (t k : TypeId) (hop : o.op = Op.call { callee := Callee.builtin Builtin.delete, args := #[m, x], argTypes := #[t, k] })
    (e : TypeId) (K : Keyed P k) (ht : P.underlying t = some (.map k e)) (b n : Nat) (f : Value → Option Value)
    (hm : a.eval m = .map (some b)) (h : MapIs P k w b n f) (key : Value) (kl : Lit) (hx : a.eval x = key) (hkey : keyOf P k key = some kl)
    (hK : ∀ w', MapIs P k w' b n (upd f key none) → w.grownBy w' (some b) → wpList P ops Q rest (a.put o.dst (.tuple #[])) w') :
    wpList P ops Q (o :: rest) a w := by
  refine wpList_plain hg fun K' hK' => ?_
  obtain ⟨w', hrun, r1, r2⟩ := h.delete K ht hkey o.type
  unfold Oper.wp
  simp [execOp, hop, resolve, invoke, builtin, hm, hx, hrun, Result.andThen]
  exact hK' _ _ (hK w' r1 r2)
end

end Go.Proofs.Ytnhhinlhfaapcaa
