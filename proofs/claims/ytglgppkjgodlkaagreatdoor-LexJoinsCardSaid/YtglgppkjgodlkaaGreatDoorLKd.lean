/- What the printed Kind computes. Conditions: none. -/
import Derived.Test.YtglgppkjgodlkaaGreatDoorLU
import Derived.Test.YtglgppkjgodlkaaGreatDoorLT5
import Derived.Test.YtglgppkjgodlkaaGreatDoorG0
namespace Go.Proofs.YtglgppkjgodlkaaGreatDoor
open Go.RowKit Go.Proofs.YtglgppkjgodlkaaGreatDoorW.PrintWords Go.Proofs.YtglgppkjgodlkaaGreatDoor.P
set_option linter.unusedVariables false
set_option linter.unusedSimpArgs false

theorem kind_of (a : ByteArray) (ha : a.size ≤ 140737488351232) : lex_Kind.f a = some (Lex.kindL a.data.toList) := by
  unfold lex_Kind.f
  rw [toks_of a ha, Option.bind_some]
  have hs : a.data.toList.length = a.size := by simp
  rcases ht : Lex.tokensL a.data.toList with ⟨ts, p, e⟩
  by_cases he : e = 0
  · subst he
    obtain ⟨rfl, hl, hn, cs, hc⟩ := Lex.tokens_done ht
    rw [if_pos (show ((0 : Nat) : Int) = 0 from rfl)]
    unfold Lex.kindL
    rw [ht]
    match ts, hc with
    | [], hc => rfl
    | [t], hc =>
      have hb := (Lex.cut_done hc).bounds.2 t (by simp)
      have hw : wrap64 ((rd_T38 ([t].map toS) 0).f4 - (rd_T38 ([t].map toS) 0).f3) = (t.e : Int) - (t.b : Int) := by
        show wrap64 ((t.e : Int) - (t.b : Int)) = _
        exact w64 _ (by omega)
      dsimp only
      rw [if_pos (show ((List.map toS [t]).length : Int) = 1 from rfl), if_pos (show (0 : Int) < ((List.map toS [t]).length : Int) by simp), hw, ← hs]
      show _ = some (if (t.e : Int) - (t.b : Int) = (a.data.toList.length : Int) then t.kind else 0)
      split <;> rfl
    | t :: u :: r, hc => rfl
  · rw [if_neg (show ¬ ((e : Nat) : Int) = 0 by omega)]
    unfold Lex.kindL
    rw [ht]
    split
    · rename_i h
      injection h with _ h
      injection h with _ h
      exact absurd h he
    · rfl
abbrev mkB (b : Lex.Bytes) : ByteArray := ⟨b.toArray⟩
theorem mkB_list (b : Lex.Bytes) : (mkB b).data.toList = b := by simp [mkB]
theorem mkB_size (b : Lex.Bytes) : (mkB b).size = b.length := by
  show b.toArray.size = _
  simp
theorem kind_mk (w : Lex.Bytes) (h : w.length ≤ 1000) : lex_Kind.f (mkB w) = some (Lex.kindL w) := by
  rw [kind_of _ (by rw [mkB_size]; omega), mkB_list]
end Go.Proofs.YtglgppkjgodlkaaGreatDoor
