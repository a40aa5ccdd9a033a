/- The pure law of LexBoth. Conditions: none. -/
import Derived.Test.YtglgppkjgodlkaaDoorLLk
import Derived.Test.YtglgppkjgodlkaaDoorG10
namespace Go.Proofs.YtglgppkjgodlkaaDoor
open Go.RowKit Go.Proofs.YtglgppkjgodlkaaDoorW.PrintWords Go.Proofs.YtglgppkjgodlkaaDoor.P
set_option linter.unusedVariables false
set_option linter.unusedSimpArgs false

theorem both_bytes (a b : ByteArray) : ((a ++ (⟨#[32]⟩ : ByteArray)) ++ b).data.toList = a.data.toList ++ 32 :: b.data.toList := by simp
theorem pure_LexBoth : P.madrigallaw01_LexBoth.Pure := by
  intro a b ha hb
  obtain ⟨K, hK⟩ : ∃ K : Nat, 100000 ≤ K := ⟨100000, Nat.le_refl _⟩
  refine ⟨K + 3, ?_⟩
  unfold madrigallaw01_LexBoth.f
  rw [show madrigallaw01_sane.f = some true from rfl, Option.bind_some, if_pos rfl, short_two _ _ _ ha hb, Option.bind_some]
  by_cases hs : (a.size : Int) + (b.size : Int) ≤ 20000
  case neg =>
    rw [if_neg (by rw [decide_eq_false hs]; simp)]
  rw [if_pos (decide_eq_true hs), toks_of a ha, toks_of b hb, Option.bind_some, Option.bind_some]
  have hla := toks_cases a.data.toList (by rw [size_list]; omega)
  have hlb := toks_cases b.data.toList (by rw [size_list]; omega)
  rcases hla with ⟨ta, ca, hca, hna, ea⟩ | ⟨ta, ca, hca, hna, ea⟩ | ⟨p, hca, ea⟩
  · rcases hlb with ⟨tb, cb, hcb, hnb, eb⟩ | ⟨tb, cb, hcb, hnb, eb⟩ | ⟨p, hcb, eb⟩
    · rw [ea, eb]
      have hcut := Lex.cut_both (x := 32) rfl hca hcb
      have hlen : (a.data.toList ++ 32 :: b.data.toList).length ≤ 100000 := by
        rw [List.length_append, List.length_cons, size_list, size_list]; omega
      have hk := toks_cases _ hlen
      have hsz : ((a ++ (⟨#[32]⟩ : ByteArray)) ++ b).size ≤ 140737488351232 := by
        rw [← size_list, both_bytes]; omega
      have ht := toks_of ((a ++ (⟨#[32]⟩ : ByteArray)) ++ b) hsz
      rw [both_bytes] at ht
      have hs1 : (a ++ (⟨#[32]⟩ : ByteArray)).size = a.size + 1 := by rw [ByteArray.size_append]; rfl
      have hw : wrap64 (((ta.map toS).length : Int) + ((tb.map toS).length : Int)) = (ta.length : Int) + (tb.length : Int) := by
        rw [List.length_map, List.length_map, w64 _ (by omega)]
      rw [if_pos (show ((0 : Nat) : Int) = 0 from rfl), madrigallaw01_LexBoth.j0, if_neg (by simp), if_pos (by omega), if_pos (by omega), ht, hw, Option.bind_some]
      rcases hk with ⟨ts, cs, hc, hn, et⟩ | ⟨ts, cs, hc, hn, et⟩ | ⟨p, hc, et⟩
      · rw [hcut] at hc
        injection hc with hc _
        rw [et, if_pos (show ((0 : Nat) : Int) = 0 from rfl)]
        have hln : ts.length = ta.length + tb.length := by rw [← hc, List.length_append, List.length_map]
        rw [if_pos (by rw [List.length_map, hln]; omega), if_pos (by omega), if_pos (by show (((ta.map toS).length : Nat) : Int) ≤ ((ts.map toS).length : Nat); rw [List.length_map, List.length_map]; omega)]
        have hN : (((ta.map toS).length : Int) : Int).toNat = ta.length := by rw [List.length_map]; omega
        rw [hN]
        have e1 : (ts.map toS).take ta.length = ta.map toS := by
          rw [← List.map_take, ← hc, List.take_left]
        have e2 : (ts.map toS).drop ta.length = (tb.map (Lex.Tok.by (a.data.toList.length + 1))).map toS := by
          rw [← List.map_drop, ← hc, List.drop_left]
        rw [e1, e2, like_ok (ta.map toS) (ta.map toS) rfl (by rw [List.length_map]; omega) (fun i h1 h2 => ⟨rfl, rfl, rfl⟩) _ (by rw [List.length_map]; omega)]
        rw [Option.bind_some, if_pos rfl, like_ok _ (tb.map toS) (by simp) (by simp; omega) (fun i h1 h2 => by simp [toS, Lex.Tok.by]) _ (by simp; omega)]
        rfl
      · rw [hcut] at hc
        injection hc with hc _
        rw [et]
        have hln : ts.length = ta.length + tb.length := by rw [← hc, List.length_append, List.length_map]
        rw [if_neg (show ¬ ((2 : Nat) : Int) = 0 by decide), if_pos (show ((2 : Nat) : Int) = 2 from rfl), decide_eq_true (by omega)]
      · rw [hcut] at hc; cases hc
    · rw [ea, eb]
      simp [madrigallaw01_LexBoth.j0]
    · rw [ea, eb]
      simp [madrigallaw01_LexBoth.j0]
  · rw [ea]
    simp [madrigallaw01_LexBoth.j0]
  · rw [ea]
    simp [madrigallaw01_LexBoth.j0]
end Go.Proofs.YtglgppkjgodlkaaDoor
