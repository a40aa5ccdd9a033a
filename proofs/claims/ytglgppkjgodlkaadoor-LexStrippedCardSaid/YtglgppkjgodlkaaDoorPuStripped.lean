/- The pure law of LexStripped. Conditions: none. -/
import Derived.Test.YtglgppkjgodlkaaDoorLSm
import Derived.Test.YtglgppkjgodlkaaDoorG12
import Derived.Test.YtglgppkjgodlkaaDoorLT4
namespace Go.Proofs.YtglgppkjgodlkaaDoor
open Go.RowKit Go.Proofs.YtglgppkjgodlkaaDoorW.PrintWords Go.Proofs.YtglgppkjgodlkaaDoor.P
set_option linter.unusedVariables false
set_option linter.unusedSimpArgs false

theorem strip_of (a : ByteArray) (ha : a.size ≤ 140737488351232) : lex_Strip.f a = some (⟨(Lex.stripL a.data.toList).1.toArray⟩, ((Lex.stripL a.data.toList).2 : Int)) := by
  unfold lex_Strip.f
  rw [if_pos ha]
theorem count_of (a : ByteArray) : strings_Count.f a (⟨#[10]⟩ : ByteArray) = some ((a.data.toList.count 10 : Nat) : Int) := by
  unfold strings_Count.f
  rw [if_pos (show (⟨#[10]⟩ : ByteArray).size = 1 from rfl)]
  rfl
theorem few_strip {a : ByteArray} (hl : a.size ≤ 20000) {ts : List Lex.Tok} {cs : List (Nat × Nat)} (h : Lex.cutL a.data.toList = .done ts cs) : Lex.stripL a.data.toList = (Lex.blankAll a.data.toList cs, 0) := by
  have := cut_few h
  rw [size_list] at this
  exact stripL_done a (by omega) ts cs h (by omega)
theorem pure_LexStripped : P.madrigallaw01_LexStripped.Pure := by
  intro a ha
  obtain ⟨K, hK⟩ : ∃ K : Nat, 100000 ≤ K := ⟨100000, Nat.le_refl _⟩
  refine ⟨K + 3, ?_⟩
  unfold madrigallaw01_LexStripped.f
  rw [show madrigallaw01_sane.f = some true from rfl, Option.bind_some, if_pos rfl, short_one (K + 1) _ ha, Option.bind_some]
  by_cases hs : (a.size : Int) ≤ 20000
  case neg =>
    rw [if_neg (by rw [decide_eq_false hs]; simp)]
  rw [if_pos (decide_eq_true hs), strip_of a ha, toks_of a ha, Option.bind_some, Option.bind_some]
  have hl : a.data.toList.length ≤ 20000 := by rw [size_list]; omega
  cases hc : Lex.cutL a.data.toList with
  | err p =>
    rw [few_toks_err hl hc, stripL_err a (by omega) p hc, if_neg (show ¬ ((10 : Nat) : Int) = 0 by decide), madrigallaw01_LexStripped.j0, if_pos rfl, if_pos rfl, Lib.toList_data]
    rfl
  | done ts cs =>
    rw [few_toks_done hl hc, few_strip (by omega) hc, if_pos (show ((0 : Nat) : Int) = 0 from rfl), show (((0 : Nat) : Int) != 0) = false from rfl, madrigallaw01_LexStripped.j0, if_neg (by simp)]
    have hd : (⟨(Lex.blankAll a.data.toList cs).toArray⟩ : ByteArray).data.toList = Lex.blankAll a.data.toList cs := by simp
    have hlen : (Lex.blankAll a.data.toList cs).length = a.size := by rw [Lex.blankAll_len, size_list]
    have hz : (⟨(Lex.blankAll a.data.toList cs).toArray⟩ : ByteArray).size = a.size := by rw [← size_list, hd, hlen]
    have hc2 := Lex.strip_cut hc
    have hcb : Lex.cutL (⟨(Lex.blankAll a.data.toList cs).toArray⟩ : ByteArray).data.toList = .done ts [] := by rw [hd]; exact hc2
    have ht := few_toks_done (by rw [hlen]; omega) hc2
    have hst := few_strip (by rw [hz]; omega) hcb
    rw [hd] at hst
    have hfew := cut_few hc
    rw [toks_of _ (by rw [hz]; exact ha), strip_of _ (by rw [hz]; exact ha), hd, ht, hst, Option.bind_some, Option.bind_some, if_pos (show ((0 : Nat) : Int) = 0 from rfl), if_pos (show ((0 : Nat) : Int) = 0 from rfl)]
    dsimp only
    rw [show Lex.blankAll (Lex.blankAll a.data.toList cs) [] = Lex.blankAll a.data.toList cs from rfl, if_pos rfl, if_pos (by rw [hz]), same_ok _ (by rw [List.length_map]; omega) _ (by rw [List.length_map]; omega), Option.bind_some, if_pos rfl, count_of, count_of, Option.bind_some, Option.bind_some, hd, Lex.blankAll_count]
    simp
end Go.Proofs.YtglgppkjgodlkaaDoor
