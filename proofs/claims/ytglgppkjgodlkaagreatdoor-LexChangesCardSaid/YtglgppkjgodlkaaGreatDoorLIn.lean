/- What the printed In computes. Conditions: none. -/
import Derived.Test.YtglgppkjgodlkaaGreatDoorLKd
import Derived.Test.YtglgppkjgodlkaaGreatDoorG4
namespace Go.Proofs.YtglgppkjgodlkaaGreatDoor
open Go.RowKit Go.Proofs.YtglgppkjgodlkaaGreatDoorW.PrintWords Go.Proofs.YtglgppkjgodlkaaGreatDoor.P
set_option linter.unusedVariables false
set_option linter.unusedSimpArgs false

theorem rd_map (l : List Lex.Bytes) (i : Nat) (h : i < l.length) : rdOf ByteArray.empty (l.map mkB) (i : Int) = mkB l[i] := by
  unfold rdOf
  simp [List.getD, h]
theorem in_from (l : List Lex.Bytes) (a : ByteArray) (hl : l.length ≤ 1000) : ∀ (m i k : Nat), l.length - i = m → i ≤ l.length → m < k → madrigalref01_In.l0 k (l.map mkB) a (i : Int) = some ((l.drop i).contains a.data.toList) := by
  intro m
  induction m with
  | zero =>
    intro i k hm hi hk
    obtain ⟨k, rfl⟩ : ∃ j, k = j + 1 := ⟨k - 1, by omega⟩
    rw [madrigalref01_In.l0, if_neg (by rw [List.length_map]; omega), List.drop_of_length_le (by omega)]
    rfl
  | succ m ih =>
    intro i k hm hi hk
    obtain ⟨k, rfl⟩ : ∃ j, k = j + 1 := ⟨k - 1, by omega⟩
    have hlt : i < l.length := by omega
    rw [madrigalref01_In.l0, if_pos (by rw [List.length_map]; omega), if_pos (by omega), rd_map l i hlt, Lib.toList_data, Lib.toList_data, mkB_list, List.drop_eq_getElem_cons hlt, List.contains_cons]
    by_cases e : l[i] = a.data.toList
    · rw [if_pos e, e]
      simp
    · rw [if_neg e, w64 _ (by omega), show (i : Int) + 1 = ((i + 1 : Nat) : Int) by omega, ih (i + 1) k (by omega) (by omega) (by omega)]
      have : (a.data.toList == l[i]) = false := by simpa using fun h => e h.symm
      rw [this]
      rfl
theorem in_of (l : List Lex.Bytes) (a : ByteArray) (hl : l.length ≤ 1000) (k : Nat) (hk : l.length < k) : madrigalref01_In.f k (l.map mkB) a = some (l.contains a.data.toList) := by
  unfold madrigalref01_In.f
  exact in_from l a hl l.length 0 k (by omega) (by omega) hk
end Go.Proofs.YtglgppkjgodlkaaGreatDoor
