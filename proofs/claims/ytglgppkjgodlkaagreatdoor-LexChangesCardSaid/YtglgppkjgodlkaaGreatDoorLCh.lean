/- What the printed Change computes. Conditions: none. -/
import Derived.Test.YtglgppkjgodlkaaGreatDoorLKd
import Derived.Test.YtglgppkjgodlkaaGreatDoorLT8
import Derived.Test.YtglgppkjgodlkaaGreatDoorG16
namespace Go.Proofs.YtglgppkjgodlkaaGreatDoor
open Go.RowKit Go.Proofs.YtglgppkjgodlkaaGreatDoorW.PrintWords Go.Proofs.YtglgppkjgodlkaaGreatDoor.P
set_option linter.unusedVariables false
set_option linter.unusedSimpArgs false

theorem eq_from (xs : List S38) (hn : xs.length ≤ 1000000) : ∀ (m i k : Nat), xs.length - i = m → i ≤ xs.length → m < k → api_Token.l0 k xs xs (xs.length : Int) (i : Int) = some true := by
  intro m
  induction m with
  | zero =>
    intro i k hm hi hk
    obtain ⟨k, rfl⟩ : ∃ j, k = j + 1 := ⟨k - 1, by omega⟩
    rw [api_Token.l0, if_neg (by omega)]
  | succ m ih =>
    intro i k hm hi hk
    obtain ⟨k, rfl⟩ : ∃ j, k = j + 1 := ⟨k - 1, by omega⟩
    rw [api_Token.l0, if_pos (by omega), if_pos (by omega), if_pos (by omega), if_pos (by omega), if_neg (by simp), w64 _ (by omega), show (i : Int) + 1 = ((i + 1 : Nat) : Int) by omega]
    exact ih (i + 1) k (by omega) (by omega) (by omega)
theorem eq_ok (xs : List S38) (hn : xs.length ≤ 1000000) (k : Nat) (hk : xs.length < k) : api_Token.f k xs xs = some true := by
  unfold api_Token.f
  rw [if_pos rfl]
  exact eq_from xs hn xs.length 0 k (by omega) (by omega) hk
theorem toks_short (l : Lex.Bytes) : (Lex.tokensL l).1.length ≤ 20000 := by
  rcases h : Lex.tokensL l with ⟨ts, p, e⟩
  unfold Lex.tokensL at h
  split at h
  · injection h with h _; subst h; simp
  · split at h
    · injection h with h _; subst h; simp
    · split at h
      · injection h with h _; subst h; simp
      · rename_i hn
        injection h with h _; subst h
        exact Nat.le_of_not_gt hn
theorem data_app (a b : ByteArray) : (a ++ b).data.toList = a.data.toList ++ b.data.toList := by simp
/-- what Change returns of a text -/
def toksOf (l : Lex.Bytes) : List S38 := (Lex.tokensL l).1.map toS
theorem change_ok (a s : ByteArray) (ha : a.size ≤ 1000000) (hs : s.size ≤ 1000000) (p q K : Nat) (hpq : p + q ≤ a.size) (hK : 20000 < K) (h0 : (Lex.tokensL a.data.toList).2.2 = 0) :
    lex_Change.f K a (toksOf a.data.toList) (p : Int) (q : Int) s = some (mkB (Lex.editL a.data.toList p q s.data.toList), toksOf (Lex.editL a.data.toList p q s.data.toList), ((Lex.tokensL (Lex.editL a.data.toList p q s.data.toList)).2.1 : Int), ((Lex.tokensL (Lex.editL a.data.toList p q s.data.toList)).2.2 : Int)) := by
  have hlen := Lex.edit_len a.data.toList s.data.toList p q (by rw [size_list]; exact hpq)
  rw [size_list, size_list] at hlen
  have hfew := toks_short a.data.toList
  unfold lex_Change.f
  have z1 : (a.extract 0 (p : Int).toNat).size = p := by rw [← size_list, Lib.extract_data, List.length_take, List.length_drop, size_list]; omega
  have z2 : (a.extract ((p : Int) + (q : Int)).toNat a.size).size = a.size - (p + q) := by rw [← size_list, Lib.extract_data, List.length_take, List.length_drop, size_list]; omega
  have hx : (a.extract 0 (p : Int).toNat ++ s) ++ a.extract ((p : Int) + (q : Int)).toNat a.size = mkB (Lex.editL a.data.toList p q s.data.toList) := by
    apply Go.WideShapes.bytes_inj
    rw [mkB_list, data_app, data_app, Lib.extract_data, Lib.extract_data]
    unfold Lex.editL
    rw [show ((p : Int) + (q : Int)).toNat = p + q by omega, Int.toNat_natCast, List.drop_zero, Nat.sub_zero, List.take_of_length_le (l := a.data.toList.drop (p + q)) (by rw [List.length_drop, size_list]; omega)]
  rw [toks_of a (by omega), Option.bind_some]
  dsimp only
  rw [if_pos (show (((Lex.tokensL a.data.toList).2.2 : Nat) : Int) = 0 by omega)]
  have he := eq_ok (toksOf a.data.toList) (by unfold toksOf; rw [List.length_map]; omega) K (by unfold toksOf; rw [List.length_map]; omega)
  unfold toksOf at he ⊢
  rw [he, Option.bind_some, if_pos rfl, if_neg (by omega), if_neg (by omega), if_neg (by omega), w64 ((a.size : Int) - (p : Int)) (by omega), w64 ((p : Int) + (q : Int)) (by omega), if_neg (by omega), if_pos (by omega), if_pos (by omega), if_pos (by rw [z1]; omega), if_pos (by omega), if_pos (by omega),
    if_pos (by rw [ByteArray.size_append, z1, z2]; omega), hx, toks_of _ (by rw [mkB_size, hlen]; omega), Option.bind_some, mkB_list]
theorem change_no (a s : ByteArray) (l : List S38) (ha : a.size ≤ 1000000) (p q : Int) (hp : -9223372036854775808 ≤ p ∧ p ≤ 9223372036854775807) (hq : -9223372036854775808 ≤ q ∧ q ≤ 9223372036854775807) (K : Nat) (hK : 20000 < K) (hl : l = toksOf a.data.toList) (h0 : (Lex.tokensL a.data.toList).2.2 = 0) (hno : ¬ (0 ≤ p ∧ 0 ≤ q ∧ p + q ≤ a.size)) :
    lex_Change.f K a l p q s = some ((⟨#[]⟩ : ByteArray), [], 0, 1) := by
  subst hl
  have hfew := toks_short a.data.toList
  unfold lex_Change.f
  rw [toks_of a (by omega), Option.bind_some]
  dsimp only
  rw [if_pos (show (((Lex.tokensL a.data.toList).2.2 : Nat) : Int) = 0 by omega)]
  have he := eq_ok (toksOf a.data.toList) (by unfold toksOf; rw [List.length_map]; omega) K (by unfold toksOf; rw [List.length_map]; omega)
  unfold toksOf at he ⊢
  rw [he, Option.bind_some, if_pos rfl]
  by_cases h1 : p < 0
  · rw [if_pos h1]
  · rw [if_neg h1]
    by_cases h2 : q < 0
    · rw [if_pos h2]
    · rw [if_neg h2]
      by_cases h3 : p > (a.size : Int)
      · rw [if_pos h3]
      · rw [if_neg h3, w64 ((a.size : Int) - p) (by omega), if_pos (by omega)]
end Go.Proofs.YtglgppkjgodlkaaGreatDoor
