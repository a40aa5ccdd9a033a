/- What the printed helpers of the laws compute: short; the tokens of a text. Conditions: none. -/
import Derived.Test.YtglgppkjgodlkaaGreatDoorG8
import Derived.Test.YtglgppkjgodlkaaGreatDoorG0
import Derived.Test.YtglgppkjgodlkaaGreatDoorMA
namespace Go.Proofs.YtglgppkjgodlkaaGreatDoor.P
open Go.RowKit Go.Proofs.YtglgppkjgodlkaaGreatDoorW.PrintWords
set_option linter.unusedVariables false
set_option linter.unusedSimpArgs false

theorem w64 (n : Int) (h : -9223372036854775808 ≤ n ∧ n ≤ 9223372036854775807) : wrap64 n = n := by unfold wrap64; omega
theorem rd_at (l : List S38) (i : Nat) (h : i < l.length) : rd_T38 l (i : Int) = l[i] := by
  unfold rd_T38
  simp [List.getD, h]
theorem short_one (k : Nat) (a : ByteArray) (ha : a.size ≤ 140737488351232) : madrigallaw01_short.f (k + 2) [a] = some (decide ((a.size : Int) ≤ 20000)) := by
  have h1 : wrap64 (a.size : Int) = (a.size : Int) := w64 _ (by omega)
  simp [madrigallaw01_short.f, madrigallaw01_short.l0, rdOf, h1, w64 1 (by decide)]
theorem short_two (k : Nat) (a b : ByteArray) (ha : a.size ≤ 140737488351232) (hb : b.size ≤ 140737488351232) : madrigallaw01_short.f (k + 3) [a, b] = some (decide ((a.size : Int) + (b.size : Int) ≤ 20000)) := by
  have h1 : wrap64 (a.size : Int) = (a.size : Int) := w64 _ (by omega)
  have h2 : wrap64 ((a.size : Int) + (b.size : Int)) = (a.size : Int) + (b.size : Int) := w64 _ (by omega)
  simp [madrigallaw01_short.f, madrigallaw01_short.l0, rdOf, h1, h2, w64 1 (by decide), w64 2 (by decide)]
/-- Tokens of a text, as the printed laws see them. -/
theorem toks_of (a : ByteArray) (ha : a.size ≤ 140737488351232) : lex_Tokens.f a = some ((Lex.tokensL a.data.toList).1.map toS, ((Lex.tokensL a.data.toList).2.1 : Int), ((Lex.tokensL a.data.toList).2.2 : Int)) := by
  unfold lex_Tokens.f
  rw [if_pos ha]
/-- What the plain tokens are: the text's own cut, or an error. -/
theorem toks_cases (l : Lex.Bytes) (hl : l.length ≤ 100000) :
    (∃ ts cs, Lex.cutL l = .done ts cs ∧ ts.length ≤ 20000 ∧ Lex.tokensL l = (ts, 0, 0)) ∨ (∃ ts cs, Lex.cutL l = .done ts cs ∧ 20000 < ts.length ∧ Lex.tokensL l = ([], 0, 2)) ∨ (∃ p, Lex.cutL l = .err p ∧ Lex.tokensL l = ([], p, 10)) := by
  have e : Lex.tokensL l = match Lex.cutL l with
    | .err p => ([], p, 10)
    | .done ts _ => if ts.length > 20000 then ([], 0, 2) else (ts, 0, 0) := by
    unfold Lex.tokensL
    rw [if_neg (by omega)]
    rfl
  cases hc : Lex.cutL l with
  | err p => rw [hc] at e; exact .inr (.inr ⟨p, rfl, e⟩)
  | done ts cs =>
    rw [hc] at e
    simp only at e
    split at e
    · rename_i h; exact .inr (.inl ⟨ts, cs, rfl, h, e⟩)
    · rename_i h; exact .inl ⟨ts, cs, rfl, by omega, e⟩
end Go.Proofs.YtglgppkjgodlkaaGreatDoor.P
namespace Go.Proofs.YtglgppkjgodlkaaGreatDoor
open Go.RowKit Go.Proofs.YtglgppkjgodlkaaGreatDoor.P
theorem size_list (a : ByteArray) : a.data.toList.length = a.size := by simp
theorem Lex.Runs.count {l : Lex.Bytes} {p : Nat} {ts : List Lex.Tok} {cs : List (Nat × Nat)} {l' : Lex.Bytes} {p' : Nat} (h : Lex.Runs l p ts cs l' p') : p + ts.length ≤ p' := by
  induction h with
  | nil l p => simp
  | skip h r ih => omega
  | comm h r ih => omega
  | tok h r ih =>
    have := Lex.step_tok h
    rw [List.length_cons]
    omega
theorem cut_few {l : Lex.Bytes} {ts : List Lex.Tok} {cs : List (Nat × Nat)} (h : Lex.cutL l = .done ts cs) : ts.length ≤ l.length := by
  have := (Lex.cut_done h).count
  omega
theorem few_toks (l : Lex.Bytes) (hl : l.length ≤ 20000) : (∃ ts cs, Lex.cutL l = .done ts cs ∧ Lex.tokensL l = (ts, 0, 0)) ∨ (∃ p, Lex.cutL l = .err p ∧ Lex.tokensL l = ([], p, 10)) := by
  rcases toks_cases l (by omega) with ⟨ts, cs, hc, _, et⟩ | ⟨ts, cs, hc, hn, et⟩ | ⟨p, hc, et⟩
  · exact .inl ⟨ts, cs, hc, et⟩
  · have := cut_few hc
    omega
  · exact .inr ⟨p, hc, et⟩
theorem few_toks_done {l : Lex.Bytes} (hl : l.length ≤ 20000) {ts : List Lex.Tok} {cs : List (Nat × Nat)} (h : Lex.cutL l = .done ts cs) : Lex.tokensL l = (ts, 0, 0) := by
  rcases few_toks l hl with ⟨t2, c2, h2, e2⟩ | ⟨q, h2, e2⟩
  · rw [h] at h2
    injection h2 with h2 _
    rw [e2, h2]
  · rw [h] at h2; cases h2
theorem few_toks_err {l : Lex.Bytes} (hl : l.length ≤ 20000) {p : Nat} (h : Lex.cutL l = .err p) : Lex.tokensL l = ([], p, 10) := by
  rcases few_toks l hl with ⟨t2, c2, h2, e2⟩ | ⟨q, h2, e2⟩
  · rw [h] at h2; cases h2
  · rw [h] at h2
    injection h2 with h2
    rw [e2, h2]
end Go.Proofs.YtglgppkjgodlkaaGreatDoor
