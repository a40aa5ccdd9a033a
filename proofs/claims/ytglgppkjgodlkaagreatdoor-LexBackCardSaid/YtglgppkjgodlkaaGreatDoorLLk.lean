/- What the printed helper of the laws computes: like. Conditions: none. -/
import Derived.Test.YtglgppkjgodlkaaGreatDoorLU
import Derived.Test.YtglgppkjgodlkaaGreatDoorG15
namespace Go.Proofs.YtglgppkjgodlkaaGreatDoor.P
open Go.RowKit Go.Proofs.YtglgppkjgodlkaaGreatDoorW.PrintWords
set_option linter.unusedVariables false
set_option linter.unusedSimpArgs false

theorem like_from (xs ys : List S38) (hl : xs.length = ys.length) (hn : xs.length ≤ 1000000) (h : ∀ i (h1 : i < xs.length) (h2 : i < ys.length), xs[i].f0 = ys[i].f0 ∧ xs[i].f1 = ys[i].f1 ∧ xs[i].f2 = ys[i].f2) :
    ∀ (m i k : Nat), xs.length - i = m → i ≤ xs.length → m < k → madrigallaw01_like.l0 k xs ys (xs.length : Int) (i : Int) = some true := by
  intro m
  induction m with
  | zero =>
    intro i k hm hi hk
    obtain ⟨k, rfl⟩ : ∃ j, k = j + 1 := ⟨k - 1, by omega⟩
    rw [madrigallaw01_like.l0, if_neg (by omega)]
  | succ m ih =>
    intro i k hm hi hk
    obtain ⟨k, rfl⟩ : ∃ j, k = j + 1 := ⟨k - 1, by omega⟩
    have hlt : i < xs.length := by omega
    have hlt2 : i < ys.length := by omega
    obtain ⟨e0, e1, e2⟩ := h i hlt hlt2
    rw [madrigallaw01_like.l0, if_pos (by omega), if_pos (by omega), if_pos (by omega), if_pos (by omega), rd_at _ _ hlt, rd_at _ _ hlt2, e0, e1, e2]
    have hL : madrigalref01_Like.f ys[i].f0 ys[i].f1 ys[i].f2 xs[i].f3 xs[i].f4 ys[i].f0 ys[i].f1 ys[i].f2 ys[i].f3 ys[i].f4 = some true := by
      unfold madrigalref01_Like.f
      simp
    rw [hL]
    simp only [Option.bind_some, if_true]
    rw [w64 _ (by omega), show (i : Int) + 1 = ((i + 1 : Nat) : Int) by omega]
    exact ih (i + 1) k (by omega) (by omega) (by omega)
theorem like_ok (xs ys : List S38) (hl : xs.length = ys.length) (hn : xs.length ≤ 1000000) (h : ∀ i (h1 : i < xs.length) (h2 : i < ys.length), xs[i].f0 = ys[i].f0 ∧ xs[i].f1 = ys[i].f1 ∧ xs[i].f2 = ys[i].f2) (k : Nat) (hk : xs.length < k) :
    madrigallaw01_like.f k xs ys = some true := by
  unfold madrigallaw01_like.f
  rw [if_pos (by omega)]
  exact like_from xs ys hl hn h xs.length 0 k (by omega) (by omega) hk
end Go.Proofs.YtglgppkjgodlkaaGreatDoor.P
