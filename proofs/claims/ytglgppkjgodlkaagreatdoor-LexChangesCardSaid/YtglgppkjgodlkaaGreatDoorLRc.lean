/- What the printed reference's Tokens and the law's filling compute. Conditions: none. -/
import Derived.Test.YtglgppkjgodlkaaGreatDoorLRb
import Derived.Test.YtglgppkjgodlkaaGreatDoorG7
namespace Go.Proofs.YtglgppkjgodlkaaGreatDoor
open Go.RowKit Go.Proofs.YtglgppkjgodlkaaGreatDoorW.PrintWords Go.Proofs.YtglgppkjgodlkaaGreatDoor.P
set_option linter.unusedVariables false
set_option linter.unusedSimpArgs false

theorem rtoks_from (a : ByteArray) (ha : a.size ≤ 100000) : ∀ (n i K : Nat) (ts0 : List Lex.Tok), a.size - i ≤ n → i ≤ a.size → n + 3 * a.size + 300 < K → ts0.length ≤ i →
    (∃ ts cs, Lex.Runs (a.data.toList.drop i) i ts cs [] a.size ∧ madrigalref01_Tokens.l0 K a (ts0.map toS) (i : Int) = (if ((ts0 ++ ts).length : Int) > 20000 then some ([], 0, 2) else some ((ts0 ++ ts).map toS, 0, 0))) ∨
    (∃ ts cs l' q, Lex.Runs (a.data.toList.drop i) i ts cs l' q ∧ l' ≠ [] ∧ Lex.step l' = .bad ∧ madrigalref01_Tokens.l0 K a (ts0.map toS) (i : Int) = some ([], ((q : Nat) : Int), 10)) := by
  intro n
  induction n with
  | zero =>
    intro i K ts0 hn hi hK hts
    obtain ⟨K, rfl⟩ : ∃ j, K = j + 1 := ⟨K - 1, by omega⟩
    obtain ⟨j, cs, fine, h1, h2, h3, h4, h5, h6⟩ := skip_from a (by omega) a.size i K (by omega) hi (by omega)
    rw [madrigalref01_Tokens.l0]
    unfold madrigalref01_Skip.f
    rw [h1, Option.bind_some]
    obtain rfl : i = a.size := by omega
    obtain rfl : j = a.size := by omega
    have hd : a.data.toList.drop a.size = [] := List.drop_of_length_le (by rw [size_list]; omega)
    cases fine with
    | false => exact absurd hd (h6 rfl).1
    | true =>
      refine .inl ⟨[], cs, by rw [hd] at h4 ⊢; exact h4, ?_⟩
      rw [if_pos rfl, if_pos rfl, List.append_nil, List.length_map]
  | succ n ih =>
    intro i K ts0 hn hi hK hts
    obtain ⟨K, rfl⟩ : ∃ j, K = j + 1 := ⟨K - 1, by omega⟩
    obtain ⟨j, cs, fine, h1, h2, h3, h4, h5, h6⟩ := skip_from a (by omega) a.size i K (by omega) hi (by omega)
    rw [madrigalref01_Tokens.l0]
    unfold madrigalref01_Skip.f
    rw [h1, Option.bind_some]
    cases fine with
    | false =>
      rw [if_neg (show ¬ (false = true) by simp)]
      exact .inr ⟨[], cs, _, j, h4, (h6 rfl).1, (h6 rfl).2, rfl⟩
    | true =>
      rw [if_pos rfl]
      rcases h5 rfl with hd | ⟨c, r, hd, hb, hbeg⟩
      · have := at_nil hd
        obtain rfl : j = a.size := by omega
        refine .inl ⟨[], cs, by rw [hd] at h4; exact h4, ?_⟩
        rw [if_pos rfl, List.append_nil, List.length_map]
      · obtain ⟨hlt, _, hr⟩ := at_cons hd
        have ho := one_of a (by omega) j K hd hb hbeg (by omega)
        have hlen := drop_len a j
        rw [hd] at hlen h4
        rw [if_neg (show ¬ ((j : Nat) : Int) = (a.size : Int) by omega)]
        cases hs : Lex.step (c :: r) with
        | skip => rw [hs] at ho; exact ho.elim
        | comm k => rw [hs] at ho; exact ho.elim
        | bad =>
          rw [hs] at ho
          obtain ⟨q1, q2, q3, q4, q5, ho⟩ := ho
          rw [ho, Option.bind_some, if_neg (show ¬ (false = true) by simp)]
          exact .inr ⟨[], cs, _, j, h4, by simp, hs, rfl⟩
        | tok kd m s k =>
          rw [hs] at ho
          have hk := Lex.step_tok hs
          have ho : madrigalref01_One.f K a (j : Int) = some (kd, m, mkB s, (j : Int), ((j + k : Nat) : Int), true) := ho
          rw [ho, Option.bind_some, if_pos rfl, if_pos (by rw [List.length_map]; omega)]
          have happ : ts0.map toS ++ [(⟨kd, m, mkB s, (j : Int), ((j + k : Nat) : Int)⟩ : S38)] = (ts0 ++ [(⟨kd, m, s, j, j + k⟩ : Lex.Tok)]).map toS := by
            rw [List.map_append]; rfl
          have hdk : (c :: r).drop k = a.data.toList.drop (j + k) := by rw [← hd, List.drop_drop]
          show _ ∨ _
          dsimp only
          rw [happ]
          rcases ih (j + k) K (ts0 ++ [⟨kd, m, s, j, j + k⟩]) (by omega) (by omega) (by omega) (by rw [List.length_append]; simp; omega) with ⟨ts, cs2, hr2, he⟩ | ⟨ts, cs2, l', q, hr2, hne, hbad, he⟩
          · refine .inl ⟨⟨kd, m, s, j, j + k⟩ :: ts, cs ++ cs2, ?_, ?_⟩
            · exact h4.trans (.tok hs (by rw [hdk]; exact hr2))
            · rw [he, List.append_assoc]
              rfl
          · refine .inr ⟨⟨kd, m, s, j, j + k⟩ :: ts, cs ++ cs2, l', q, ?_, hne, hbad, he⟩
            exact h4.trans (.tok hs (by rw [hdk]; exact hr2))
/-- THE REFERENCE's TOKENS. -/
theorem rtoks_of (a : ByteArray) (K : Nat) (hK : 500000 < K) : madrigalref01_Tokens.f K a = some ((Lex.tokensL a.data.toList).1.map toS, ((Lex.tokensL a.data.toList).2.1 : Int), ((Lex.tokensL a.data.toList).2.2 : Int)) := by
  unfold madrigalref01_Tokens.f
  by_cases hl : (a.size : Int) > 100000
  · rw [if_pos hl]
    unfold Lex.tokensL
    rw [if_pos (by rw [size_list]; omega)]
    rfl
  · rw [if_neg hl]
    have hz : (([] : List Lex.Tok).map toS) = ([] : List S38) := rfl
    have e : Lex.tokensL a.data.toList = (match Lex.cutL a.data.toList with
      | .err p => ([], p, 10)
      | .done ts _ => if ts.length > 20000 then ([], 0, 2) else (ts, 0, 0)) := by
      unfold Lex.tokensL
      rw [if_neg (by rw [size_list]; omega)]
      rfl
    rcases rtoks_from a (by omega) a.size 0 K [] (by omega) (by omega) (by omega) (by simp) with ⟨ts, cs, hr, he⟩ | ⟨ts, cs, l', q, hr, hne, hbad, he⟩
    · rw [List.drop_zero] at hr
      rw [hz, show ((0 : Nat) : Int) = 0 from rfl] at he
      rw [he, e, Lex.cut_of_done hr, List.nil_append]
      simp only
      by_cases hn : ts.length > 20000
      · rw [if_pos (by omega), if_pos hn]; rfl
      · rw [if_neg (by omega), if_neg hn]; rfl
    · rw [List.drop_zero] at hr
      rw [hz, show ((0 : Nat) : Int) = 0 from rfl] at he
      rw [he, e, Lex.cut_of_err hr hne hbad]
      rfl
end Go.Proofs.YtglgppkjgodlkaaGreatDoor
