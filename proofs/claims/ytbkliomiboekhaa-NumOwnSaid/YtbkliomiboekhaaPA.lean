/- Numbers: contracts of numeral, Parse. -/
import Derived.Test.YtbkliomiboekhaaND
import Derived.LoopTactic
import Derived.OpenShut
import Derived.Lib.Strings
namespace Go.Proofs.Ytbkliomiboekhaa
open Go.RowKit
set_option linter.unusedVariables false

def numB (l : List UInt8) (lower : Bool) : Bool := l.all dig && !l.isEmpty && !(lower && l.head? == some 48)

theorem get_list {s : ByteArray} {k : Nat} (h : k < s.size) : s.data.toList[k]? = some s[k] := by
  have h' : k < s.data.toList.length := by simpa using h
  rw [List.getElem?_eq_getElem h']; rfl
theorem all_take_succ {l : List UInt8} {k : Nat} {c : UInt8} (h : l[k]? = some c) (hd : dig c = true) (ha : (l.take k).all dig = true) : (l.take (k + 1)).all dig = true := by
  rw [List.take_add_one, h, List.all_append, ha]; simp [hd]
theorem all_bad {l : List UInt8} {k : Nat} {c : UInt8} (h : l[k]? = some c) (hd : dig c = false) : l.all dig = false := by
  rw [List.all_eq_false]
  exact ⟨c, List.mem_of_getElem? h, by simp [hd]⟩

set_option maxHeartbeats 400000 in
theorem numeral_any (s : ByteArray) (lower : Bool) (w : World) (hs : s.size ≤ maxLen) :
    Calls Try.prog 38 #[.string s, .bool lower] w fun r w' => r = .returned (.bool (numB s.data.toList lower)) ∧ w = w' := by
  unfold maxLen at hs
  by_cases h0 : s.size = 0
  · obtain rfl : s = ByteArray.empty := ByteArray.ext (Array.eq_empty_of_size_eq_zero h0)
    clear hs h0
    have HN := Lib.hid (show numB [] lower = false by cases lower <;> decide)
    go_enter Try.func38, Try.ntmps38
    go_wp2
    go_loop [8] (fun i => i = .int .i64 0) (fun i => 0)
    case atStart => rfl
    case round =>
      subst hrel
      go_wp2
      go_ret
      exact ⟨by rw [HN.out]; rfl, rfl⟩
  have hpos : 0 < s.size := by omega
  have hne : s.toList.isEmpty = false := by
    cases h : s.toList.isEmpty
    · rfl
    · exfalso
      rw [List.isEmpty_iff, Lib.toList_data] at h
      exact h0 (by simpa using congrArg List.length h)
  have hne2 : s.toList ≠ [] := by intro h; rw [h] at hne; cases hne
  have HL := Lib.hid (show s.data.toList.head? = some s[0] by rw [List.head?_eq_getElem?]; exact get_list hpos)
  have HE := Lib.hid (show s.data.toList.isEmpty = false by
    cases h : s.data.toList.isEmpty
    · rfl
    · exfalso
      rw [List.isEmpty_iff] at h
      exact h0 (by simpa using congrArg List.length h))
  go_enter Try.func38, Try.ntmps38
  go_wp2
  go_loop [8] (fun i => ∃ k : Nat, k ≤ s.size ∧ i = .int .i64 k ∧ (s.data.toList.take k).all dig = true) (fun i => s.size - (intOf i).toNat)
  case atStart => exact ⟨0, Nat.zero_le _, rfl, rfl⟩
  case round =>
    obtain ⟨k, hk, rfl, hall⟩ := hrel
    have HALL := Lib.hid hall
    clear hall
    by_cases hlt : k < s.size
    · have HG := Lib.hid (get_list hlt)
      cases hd : dig s[k]
      · have HN := Lib.hid (show numB s.data.toList lower = false by unfold numB; rw [all_bad HG.out hd]; rfl)
        simp only [dig, decide_eq_false_iff_not] at hd
        by_cases h48 : s[k].toNat < 48
        · have d1 : decide ((s[k].toNat : Int) < 48) = true := decide_eq_true (by omega)
          clear hd
          go_wp2
          go_ret
          exact ⟨by rw [HN.out]; rfl, rfl⟩
        · have d1 : decide ((s[k].toNat : Int) < 48) = false := decide_eq_false (by omega)
          have d2 : decide (57 < (s[k].toNat : Int)) = true := decide_eq_true (by omega)
          clear hd
          go_wp2
          go_ret
          exact ⟨by rw [HN.out]; rfl, rfl⟩
      · have HD := Lib.hid hd
        simp only [dig, decide_eq_true_eq] at hd
        have d1 : decide ((s[k].toNat : Int) < 48) = false := decide_eq_false (by omega)
        have d2 : decide (57 < (s[k].toNat : Int)) = false := decide_eq_false (by omega)
        clear hd
        go_wp2
        go_round
        case rel => exact ⟨k + 1, by omega, by go_num, all_take_succ HG.out HD.out HALL.out⟩
        case measure => simp [intOf]; omega
    · obtain rfl : k = s.size := by omega
      have hall : s.data.toList.all dig = true := by
        have := HALL.out
        rwa [List.take_of_length_le (by simp)] at this
      have HN := Lib.hid (show numB s.data.toList lower = (!s.data.toList.isEmpty && !(lower && s.data.toList.head? == some 48)) by unfold numB; rw [hall]; rfl)
      clear hall
      cases lower
      · have HN2 := Lib.hid (show numB s.data.toList false = true by rw [HN.out, HE.out]; rfl)
        go_wp2
        go_ret
        exact ⟨by rw [HN2.out]; rfl, rfl⟩
      · by_cases h48 : s[0] = 48
        · have HN2 := Lib.hid (show numB s.data.toList true = false by rw [HN.out, HE.out, HL.out, h48]; rfl)
          have d : ((s[0].toNat : Int) != 48) = false := by rw [h48]; rfl
          clear h48
          go_wp2
          go_ret
          exact ⟨by rw [HN2.out]; rfl, rfl⟩
        · have HN2 := Lib.hid (show numB s.data.toList true = true by rw [HN.out, HE.out, HL.out]; simp [h48])
          have d : ((s[0].toNat : Int) != 48) = true := by
            rw [bne_iff_ne]; intro h; exact h48 (UInt8.toNat_inj.1 (by show s[0].toNat = 48; omega))
          clear h48
          go_wp2
          go_ret
          exact ⟨by rw [HN2.out]; rfl, rfl⟩
end Go.Proofs.Ytbkliomiboekhaa
