/- What the printed Same computes at equal lists. Conditions: none. -/
import Derived.Test.YtglgppkjgodlkaaGreatDoorLU
import Derived.Test.YtglgppkjgodlkaaGreatDoorG10
namespace Go.Proofs.YtglgppkjgodlkaaGreatDoor
open Go.RowKit Go.Proofs.YtglgppkjgodlkaaGreatDoorW.PrintWords Go.Proofs.YtglgppkjgodlkaaGreatDoor.P
set_option linter.unusedVariables false
set_option linter.unusedSimpArgs false

theorem same_from (xs : List S38) (hn : xs.length ≤ 1000000) : ∀ (m i k : Nat), xs.length - i = m → i ≤ xs.length → m < k → madrigalref01_Same.l0 k xs xs (i : Int) = some true := by
  intro m
  induction m with
  | zero =>
    intro i k hm hi hk
    obtain ⟨k, rfl⟩ : ∃ j, k = j + 1 := ⟨k - 1, by omega⟩
    rw [madrigalref01_Same.l0, if_neg (by omega)]
  | succ m ih =>
    intro i k hm hi hk
    obtain ⟨k, rfl⟩ : ∃ j, k = j + 1 := ⟨k - 1, by omega⟩
    rw [madrigalref01_Same.l0, if_pos (by omega), if_pos (by omega), if_pos (by omega), if_neg (by simp), w64 _ (by omega), show (i : Int) + 1 = ((i + 1 : Nat) : Int) by omega]
    exact ih (i + 1) k (by omega) (by omega) (by omega)
theorem same_ok (xs : List S38) (hn : xs.length ≤ 1000000) (k : Nat) (hk : xs.length < k) : madrigalref01_Same.f k xs xs = some true := by
  unfold madrigalref01_Same.f
  rw [if_pos rfl]
  exact same_from xs hn xs.length 0 k (by omega) (by omega) hk
end Go.Proofs.YtglgppkjgodlkaaGreatDoor
