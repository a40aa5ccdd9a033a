/- What the printed reference's Kind computes. Conditions: none. -/
import Derived.Test.YtglgppkjgodlkaaGreatDoorLRc
import Derived.Test.YtglgppkjgodlkaaGreatDoorG11
namespace Go.Proofs.YtglgppkjgodlkaaGreatDoor
open Go.RowKit Go.Proofs.YtglgppkjgodlkaaGreatDoorW.PrintWords Go.Proofs.YtglgppkjgodlkaaGreatDoor.P
set_option linter.unusedVariables false
set_option linter.unusedSimpArgs false

theorem rkind_of (a : ByteArray) (K : Nat) (hK : 500000 < K) : madrigalref01_Kind.f K a = some (Lex.kindL a.data.toList) := by
  unfold madrigalref01_Kind.f
  rw [rtoks_of a K hK, Option.bind_some]
  have hs : a.data.toList.length = a.size := by simp
  rcases ht : Lex.tokensL a.data.toList with ⟨ts, p, e⟩
  by_cases he : e = 0
  · subst he
    obtain ⟨rfl, hl, hn, cs, hc⟩ := Lex.tokens_done ht
    rw [if_pos (show ((0 : Nat) : Int) = 0 from rfl)]
    unfold Lex.kindL
    rw [ht]
    match ts, hc with
    | [], hc => rfl
    | [t], hc =>
      have hb := (Lex.cut_done hc).bounds.2 t (by simp)
      dsimp only
      rw [if_pos (show ((List.map toS [t]).length : Int) = 1 from rfl), if_pos (show (0 : Int) < ((List.map toS [t]).length : Int) by simp)]
      show (if (t.b : Int) = 0 then (if (t.e : Int) = (a.size : Int) then some t.kind else some 0) else some 0) = some (if (t.e : Int) - (t.b : Int) = (a.data.toList.length : Int) then t.kind else 0)
      by_cases h : (t.e : Int) - (t.b : Int) = (a.data.toList.length : Int)
      · rw [if_pos h, if_pos (by omega), if_pos (by omega)]
      · rw [if_neg h]
        by_cases h2 : (t.b : Int) = 0
        · rw [if_pos h2, if_neg (by omega)]
        · rw [if_neg h2]
    | t :: u :: r, hc => rfl
  · rw [if_neg (show ¬ ((e : Nat) : Int) = 0 by omega)]
    unfold Lex.kindL
    rw [ht]
    split
    · rename_i h
      injection h with _ h
      injection h with _ h
      exact absurd h he
    · rfl
end Go.Proofs.YtglgppkjgodlkaaGreatDoor
