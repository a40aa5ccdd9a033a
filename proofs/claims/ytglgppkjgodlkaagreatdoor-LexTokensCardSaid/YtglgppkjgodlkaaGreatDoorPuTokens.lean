/- The pure law of LexTokens. Conditions: none. -/
import Derived.Test.YtglgppkjgodlkaaGreatDoorLRk
import Derived.Test.YtglgppkjgodlkaaGreatDoorLSm
import Derived.Test.YtglgppkjgodlkaaGreatDoorG22
namespace Go.Proofs.YtglgppkjgodlkaaGreatDoor
open Go.RowKit Go.Proofs.YtglgppkjgodlkaaGreatDoorW.PrintWords Go.Proofs.YtglgppkjgodlkaaGreatDoor.P
set_option linter.unusedVariables false
set_option linter.unusedSimpArgs false

theorem strs_from (l : List ByteArray) (hl : l.length ≤ 1000) : ∀ (m i k : Nat), l.length - i = m → i ≤ l.length → m < k → madrigallaw01_same.l0 k l l (l.length : Int) (i : Int) = some true := by
  intro m
  induction m with
  | zero =>
    intro i k hm hi hk
    obtain ⟨k, rfl⟩ : ∃ j, k = j + 1 := ⟨k - 1, by omega⟩
    rw [madrigallaw01_same.l0, if_neg (by omega)]
  | succ m ih =>
    intro i k hm hi hk
    obtain ⟨k, rfl⟩ : ∃ j, k = j + 1 := ⟨k - 1, by omega⟩
    rw [madrigallaw01_same.l0, if_pos (by omega), if_pos (by omega), if_pos (by omega), if_pos (by omega), if_pos rfl, w64 _ (by omega), show (i : Int) + 1 = ((i + 1 : Nat) : Int) by omega]
    exact ih (i + 1) k (by omega) (by omega) (by omega)
theorem strs_ok (l : List ByteArray) (hl : l.length ≤ 1000) (k : Nat) (hk : l.length < k) : madrigallaw01_same.f k l l = some true := by
  unfold madrigallaw01_same.f
  rw [if_pos rfl]
  exact strs_from l hl l.length 0 k (by omega) (by omega) hk
theorem toks_few (l : Lex.Bytes) : (Lex.tokensL l).1.length ≤ 20000 := by
  rcases h : Lex.tokensL l with ⟨ts, p, e⟩
  unfold Lex.tokensL at h
  split at h
  · injection h with h _; subst h; simp
  · split at h
    · injection h with h _; subst h; simp
    · split at h
      · injection h with h _; subst h; simp
      · rename_i hn
        injection h with h _; subst h
        exact Nat.le_of_not_gt hn
theorem tokens_j0 (a : ByteArray) (ha : a.size ≤ 140737488351232) (K : Nat) (hK : 500000 < K) : madrigallaw01_LexTokens.j0 (K + 1) a false = some true := by
  have n1 : (Lex.wordsL.map mkB).length = 37 := rfl
  have n2 : (Lex.signsL.map mkB).length = 24 := rfl
  have hf := toks_few a.data.toList
  rw [madrigallaw01_LexTokens.j0, if_neg (show ¬ (false = true) by simp), toks_of a ha, Option.bind_some, rtoks_of a K hK, Option.bind_some, same_ok _ (by rw [List.length_map]; omega) K (by rw [List.length_map]; omega), Option.bind_some, if_pos rfl, if_pos rfl, if_pos rfl,
    kind_of a ha, Option.bind_some, rkind_of a K hK, Option.bind_some, if_pos rfl, show lex_Words.f = some (Lex.wordsL.map mkB) from rfl, Option.bind_some, show madrigalref01_Words.f = some (Lex.wordsL.map mkB) from rfl, Option.bind_some, strs_ok _ (by rw [n1]; omega) K (by rw [n1]; omega), Option.bind_some, if_pos rfl,
    show lex_Signs.f = some (Lex.signsL.map mkB) from rfl, Option.bind_some, show madrigalref01_Signs.f = some (Lex.signsL.map mkB) from rfl, Option.bind_some, strs_ok _ (by rw [n2]; omega) K (by rw [n2]; omega), Option.bind_some]
theorem pure_LexTokens : P.madrigallaw01_LexTokens.Pure := by
  intro a ha
  obtain ⟨K, hK⟩ : ∃ K : Nat, 500000 < K := ⟨500001, by omega⟩
  refine ⟨K + 1 + 1, ?_⟩
  unfold madrigallaw01_LexTokens.f
  rw [show madrigallaw01_sane.f = some true from rfl, Option.bind_some, if_pos rfl, short_one K _ ha, Option.bind_some]
  have hj := tokens_j0 a ha (K + 1) (by omega)
  have ht : madrigallaw01_LexTokens.j0 (K + 1 + 1) a true = some true := by
    rw [madrigallaw01_LexTokens.j0, if_pos rfl]
  by_cases hs : (a.size : Int) ≤ 20000
  · rw [if_pos (decide_eq_true hs)]
    exact hj
  · rw [if_neg (by rw [decide_eq_false hs]; simp)]
    by_cases hm : (a.size : Int) ≤ 100000
    · rw [decide_eq_true hm]; exact ht
    · rw [decide_eq_false hm]; exact hj
end Go.Proofs.YtglgppkjgodlkaaGreatDoor
