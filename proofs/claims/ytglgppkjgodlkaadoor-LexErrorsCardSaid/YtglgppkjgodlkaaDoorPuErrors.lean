/- The pure law of LexErrors. Conditions: none. -/
import Derived.Test.YtglgppkjgodlkaaDoorLU
import Derived.Test.YtglgppkjgodlkaaDoorG11
namespace Go.Proofs.YtglgppkjgodlkaaDoor
open Go.RowKit Go.Proofs.YtglgppkjgodlkaaDoorW.PrintWords Go.Proofs.YtglgppkjgodlkaaDoor.P
set_option linter.unusedVariables false
set_option linter.unusedSimpArgs false

theorem beg_prefix (l : Lex.Bytes) : Lib.hasPrefix l [40, 42] = Lex.begComment l := by
  unfold Lib.hasPrefix
  match l with
  | [] => rfl
  | [c] => simp [List.isPrefixOf, Lex.begComment]
  | c :: d :: r =>
    unfold Lex.begComment
    split
    · rename_i h
      injection h with h1 h
      injection h with h2 _
      subst h1 h2
      simp [List.isPrefixOf]
    · rename_i h
      by_cases h1 : c = 40
      · by_cases h2 : d = 42
        · subst h1 h2
          exact absurd rfl (h _)
        · simp [List.isPrefixOf, h1, Ne.symm h2]
      · simp [List.isPrefixOf, Ne.symm h1]
theorem errs_bytes (a b : ByteArray) : ((a ++ (⟨#[10]⟩ : ByteArray)) ++ b).data.toList = a.data.toList ++ 10 :: b.data.toList := by simp
theorem pure_LexErrors : P.madrigallaw01_LexErrors.Pure := by
  intro a b ha hb
  obtain ⟨K, hK⟩ : ∃ K : Nat, 100000 ≤ K := ⟨100000, Nat.le_refl _⟩
  refine ⟨K + 3, ?_⟩
  unfold madrigallaw01_LexErrors.f
  rw [show madrigallaw01_sane.f = some true from rfl, Option.bind_some, if_pos rfl, short_two _ _ _ ha hb, Option.bind_some]
  by_cases hs : (a.size : Int) + (b.size : Int) ≤ 20000
  case neg =>
    rw [if_neg (by rw [decide_eq_false hs]; simp)]
  rw [if_pos (decide_eq_true hs), toks_of a ha, Option.bind_some]
  rcases few_toks a.data.toList (by rw [size_list]; omega) with ⟨ta, ca, hca, ea⟩ | ⟨p, hca, ea⟩
  · rw [ea, if_pos (show ((0 : Nat) : Int) = 0 from rfl), madrigallaw01_LexErrors.j0, if_pos rfl, if_pos (show ((0 : Nat) : Int) = 0 from rfl)]
  · obtain ⟨hp, ts, cs, hcut, hbad⟩ := Lex.cut_ahead hca
    rw [size_list] at hp
    have hx : (a.extract 0 (p : Int).toNat).data.toList = a.data.toList.take p := by
      rw [Int.toNat_natCast, Lib.extract_data]
      simp
    have hy : (a.extract (p : Int).toNat a.size).data.toList = a.data.toList.drop p := by
      rw [Int.toNat_natCast]
      exact rest_data a p
    have hxs : (a.extract 0 (p : Int).toNat).size ≤ 140737488351232 := by
      rw [← size_list, hx, List.length_take, size_list]
      omega
    have et : Lex.tokensL (a.data.toList.take p) = (ts, 0, 0) := by
      rcases few_toks (a.data.toList.take p) (by rw [List.length_take, size_list]; omega) with ⟨t2, c2, h2, e2⟩ | ⟨q, h2, e2⟩
      · rw [hcut] at h2
        injection h2 with h2 _
        rw [e2, h2]
      · rw [hcut] at h2; cases h2
    have hsz : ((a ++ (⟨#[10]⟩ : ByteArray)) ++ b).size ≤ 140737488351232 := by
      rw [← size_list, errs_bytes, List.length_append, List.length_cons, size_list, size_list]; omega
    have hs1 : (a ++ (⟨#[10]⟩ : ByteArray)).size = a.size + 1 := by rw [ByteArray.size_append]; rfl
    rw [ea, if_neg (show ¬ ((10 : Nat) : Int) = 0 by decide), show (((10 : Nat) : Int) == 2) = false from rfl, madrigallaw01_LexErrors.j0, if_neg (by simp), if_pos (show ((10 : Nat) : Int) = 10 from rfl), if_neg (by show ¬ ((p : Nat) : Int) < 0; omega), if_neg (by show ¬ ((p : Nat) : Int) ≥ _; omega),
      show (((([] : List Lex.Tok).map toS).length : Int) != 0) = false from rfl, madrigallaw01_LexErrors.j1, if_neg (by simp), if_pos (by show (0 : Int) ≤ ((p : Nat) : Int); omega), if_pos (by show ((p : Nat) : Int) ≤ _; omega), toks_of _ hxs, Option.bind_some, hx, et, if_pos (show ((0 : Nat) : Int) = 0 from rfl),
      if_pos (by omega), if_pos (by omega), toks_of _ hsz, Option.bind_some, errs_bytes]
    unfold strings_HasPrefix.f
    rw [Option.bind_some, hy, show (⟨#[40, 42]⟩ : ByteArray).data.toList = [40, 42] from rfl, beg_prefix]
    cases hbeg : Lex.begComment (a.data.toList.drop p) with
    | true => rw [if_pos rfl]
    | false =>
      have hst := Lex.cut_stays (x := 10) (r := b.data.toList) rfl hca hbeg
      have e3 : Lex.tokensL (a.data.toList ++ 10 :: b.data.toList) = ([], p, 10) := by
        rcases toks_cases (a.data.toList ++ 10 :: b.data.toList) (by rw [List.length_append, List.length_cons, size_list, size_list]; omega) with ⟨t2, c2, h2, _, e2⟩ | ⟨t2, c2, h2, _, e2⟩ | ⟨q, h2, e2⟩
        · rw [hst] at h2; cases h2
        · rw [hst] at h2; cases h2
        · rw [hst] at h2
          injection h2 with h2
          rw [e2, h2]
      rw [if_neg (by simp), e3, if_pos (show ((10 : Nat) : Int) = 10 from rfl), show (((p : Nat) : Int) == ((p : Nat) : Int)) = true by simp]
end Go.Proofs.YtglgppkjgodlkaaDoor
