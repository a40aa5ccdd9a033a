/- The pure law of LexWords. Conditions: none. -/
import Derived.Test.YtglgppkjgodlkaaDoorLIn
import Derived.Test.YtglgppkjgodlkaaDoorG13
namespace Go.Proofs.YtglgppkjgodlkaaDoor
open Go.RowKit Go.Proofs.YtglgppkjgodlkaaDoorW.PrintWords Go.Proofs.YtglgppkjgodlkaaDoor.P
set_option linter.unusedVariables false
set_option linter.unusedSimpArgs false

theorem words_loop (a : ByteArray) (ws ss : List ByteArray) (l : List Lex.Bytes) (hl : l.length ≤ 100) (hw : (l.all fun w => Lex.kindL w == 2) = true) (hz : (l.all fun w => w.length ≤ 1000) = true) : ∀ (m i K : Nat), l.length - i = m → i ≤ l.length →
    madrigallaw01_LexWords.l0 (K + m + 1) a ws ss (l.map mkB) (l.length : Int) (i : Int) = madrigallaw01_LexWords.l1 K a ws ss ss (ss.length : Int) 0 := by
  intro m
  induction m with
  | zero =>
    intro i K hm hi
    rw [madrigallaw01_LexWords.l0, if_neg (by omega)]
  | succ m ih =>
    intro i K hm hi
    have hlt : i < l.length := by omega
    have hmem : l[i] ∈ l := List.getElem_mem hlt
    have h1 : Lex.kindL l[i] = 2 := by simpa using List.all_eq_true.1 hw _ hmem
    have h2 : l[i].length ≤ 1000 := by simpa using List.all_eq_true.1 hz _ hmem
    rw [madrigallaw01_LexWords.l0, if_pos (by omega), if_pos (by omega), if_pos (by rw [List.length_map]; omega), rd_map l i hlt, kind_mk _ h2, Option.bind_some, if_pos h1, w64 _ (by omega), show (i : Int) + 1 = ((i + 1 : Nat) : Int) by omega, show K + (m + 1) = K + m + 1 by omega]
    exact ih (i + 1) K (by omega) (by omega)
/-- the last row of the law -/
def lastRow (k : Nat) (ws ss : List ByteArray) (a : ByteArray) (t : Int) : Option Bool :=
  if t = 1 then ((madrigalref01_In.f k ws a).bind fun u => (if (u == (t == 2)) = true then (if t = 4 then ((madrigalref01_In.f k ss a).bind fun v => (some (v == (t == 5)))) else (if t = 5 then ((madrigalref01_In.f k ss a).bind fun v => (some (v == (t == 5)))) else (some true))) else (some false))) else (if t = 2 then ((madrigalref01_In.f k ws a).bind fun u => (if (u == (t == 2)) = true then (if t = 4 then ((madrigalref01_In.f k ss a).bind fun v => (some (v == (t == 5)))) else (if t = 5 then ((madrigalref01_In.f k ss a).bind fun v => (some (v == (t == 5)))) else (some true))) else (some false))) else (if t = 4 then ((madrigalref01_In.f k ss a).bind fun v => (some (v == (t == 5)))) else (if t = 5 then ((madrigalref01_In.f k ss a).bind fun v => (some (v == (t == 5)))) else (some true))))
theorem last_row (K : Nat) (hK : 100 < K) (a : ByteArray) : lastRow K (Lex.wordsL.map mkB) (Lex.signsL.map mkB) a (Lex.kindL a.data.toList) = some true := by
  have hI := in_of Lex.wordsL a (by decide) K (by have : Lex.wordsL.length = 37 := rfl; omega)
  have hJ := in_of Lex.signsL a (by decide) K (by have : Lex.signsL.length = 24 := rfl; omega)
  unfold lastRow
  by_cases h1 : Lex.kindL a.data.toList = 1
  · rw [if_pos h1, hI, Option.bind_some, Lex.kind_words (.inl h1), h1]
    rfl
  · by_cases h2 : Lex.kindL a.data.toList = 2
    · rw [if_neg h1, if_pos h2, hI, Option.bind_some, Lex.kind_words (.inr h2), h2]
      rfl
    · by_cases h4 : Lex.kindL a.data.toList = 4
      · rw [if_neg h1, if_neg h2, if_pos h4, hJ, Option.bind_some, Lex.kind_signs (.inl h4), h4]
        rfl
      · by_cases h5 : Lex.kindL a.data.toList = 5
        · rw [if_neg h1, if_neg h2, if_neg h4, if_pos h5, hJ, Option.bind_some, Lex.kind_signs (.inr h5), h5]
          rfl
        · rw [if_neg h1, if_neg h2, if_neg h4, if_neg h5]
theorem signs_loop (a : ByteArray) (ha : a.size ≤ 140737488351232) (ws ss : List ByteArray) (l : List Lex.Bytes) (hl : l.length ≤ 100) (hw : (l.all fun w => Lex.kindL w == 5) = true) (hz : (l.all fun w => w.length ≤ 1000) = true) : ∀ (m i K : Nat), l.length - i = m → i ≤ l.length →
    madrigallaw01_LexWords.l1 (K + m + 1) a ws ss (l.map mkB) (l.length : Int) (i : Int) = lastRow K ws ss a (Lex.kindL a.data.toList) := by
  intro m
  induction m with
  | zero =>
    intro i K hm hi
    rw [madrigallaw01_LexWords.l1, if_neg (by omega), kind_of a ha, Option.bind_some]
    rfl
  | succ m ih =>
    intro i K hm hi
    have hlt : i < l.length := by omega
    have hmem : l[i] ∈ l := List.getElem_mem hlt
    have h1 : Lex.kindL l[i] = 5 := by simpa using List.all_eq_true.1 hw _ hmem
    have h2 : l[i].length ≤ 1000 := by simpa using List.all_eq_true.1 hz _ hmem
    rw [madrigallaw01_LexWords.l1, if_pos (by omega), if_pos (by omega), if_pos (by rw [List.length_map]; omega), rd_map l i hlt, kind_mk _ h2, Option.bind_some, if_pos h1, w64 _ (by omega), show (i : Int) + 1 = ((i + 1 : Nat) : Int) by omega, show K + (m + 1) = K + m + 1 by omega]
    exact ih (i + 1) K (by omega) (by omega)
theorem pure_LexWords : P.madrigallaw01_LexWords.Pure := by
  intro a ha
  obtain ⟨K, hK⟩ : ∃ K : Nat, 1000 ≤ K := ⟨1000, Nat.le_refl _⟩
  refine ⟨K + 24 + 1 + 37 + 1 + 1, ?_⟩
  unfold madrigallaw01_LexWords.f
  have e1 : lex_Words.f = some (Lex.wordsL.map mkB) := rfl
  have e2 : lex_Signs.f = some (Lex.signsL.map mkB) := rfl
  have n1 : (Lex.wordsL.map mkB).length = 37 := rfl
  have n2 : (Lex.signsL.map mkB).length = 24 := rfl
  rw [show madrigallaw01_sane.f = some true from rfl, Option.bind_some, if_pos rfl, e1, e2, Option.bind_some, Option.bind_some, if_pos (by rw [n1]; rfl), n2, show (((24 : Nat) : Int) != 24) = false from rfl, madrigallaw01_LexWords.j0, if_neg (by simp), n1]
  have hA := words_loop a (Lex.wordsL.map mkB) (Lex.signsL.map mkB) Lex.wordsL (by decide) Lex.all_words (by decide +kernel) 37 0 (K + 24 + 1) rfl (by decide)
  have hB := signs_loop a ha (Lex.wordsL.map mkB) (Lex.signsL.map mkB) Lex.signsL (by decide) Lex.all_signs (by decide +kernel) 24 0 K rfl (by decide)
  rw [show (Lex.wordsL.length : Int) = ((37 : Nat) : Int) from rfl] at hA
  rw [show (Lex.signsL.length : Int) = ((24 : Nat) : Int) from rfl] at hB
  rw [n2] at hA
  exact hA.trans (hB.trans (last_row K (by omega) a))
end Go.Proofs.YtglgppkjgodlkaaDoor
