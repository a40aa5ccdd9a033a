/- What the printed reference's helpers compute: bytes, prefixes, comments, what is passed over. Conditions: none. -/
import Derived.Test.YtglgppkjgodlkaaGreatDoorLIn
import Derived.Test.YtglgppkjgodlkaaGreatDoorLT6
import Derived.Test.YtglgppkjgodlkaaGreatDoorG4
namespace Go.Proofs.YtglgppkjgodlkaaGreatDoor
open Go.RowKit Go.Proofs.YtglgppkjgodlkaaGreatDoorW.PrintWords Go.Proofs.YtglgppkjgodlkaaGreatDoor.P
set_option linter.unusedVariables false
set_option linter.unusedSimpArgs false

theorem at_cons {a : ByteArray} {i : Nat} {c : UInt8} {r : Lex.Bytes} (h : a.data.toList.drop i = c :: r) : i < a.size ∧ bt a (i : Int) = (c.toNat : Int) ∧ a.data.toList.drop (i + 1) = r := by
  have hl : i < a.data.toList.length := by
    rcases Nat.lt_or_ge i a.data.toList.length with h1 | h1
    · exact h1
    · rw [List.drop_of_length_le h1] at h; cases h
  have hd := List.drop_eq_getElem_cons hl
  rw [h] at hd
  injection hd with h1 h2
  have hi : i < a.size := by rw [← size_list]; exact hl
  refine ⟨hi, ?_, h2.symm⟩
  unfold bt
  rw [dif_pos (show (i : Int).toNat < a.size by rw [Int.toNat_natCast]; exact hi)]
  rw [h1]
  rfl
theorem at_nil {a : ByteArray} {i : Nat} (h : a.data.toList.drop i = []) : a.size ≤ i := by
  have := List.drop_eq_nil_iff.1 h
  rw [size_list] at this
  exact this
theorem drop_len (a : ByteArray) (i : Nat) : (a.data.toList.drop i).length = a.size - i := by rw [List.length_drop, size_list]
theorem letter_of (c : UInt8) : madrigalref01_letter.f (c.toNat : Int) = some (Lex.isLetter c) := by
  revert c
  exact fun c => Lex.all_bytes (p := fun c => madrigalref01_letter.f (c.toNat : Int) = some (Lex.isLetter c)) (by decide +kernel) c
theorem digit_of (c : UInt8) : madrigalref01_digit.f (c.toNat : Int) = some (Lex.isDigit c) :=
  Lex.all_bytes (p := fun c => madrigalref01_digit.f (c.toNat : Int) = some (Lex.isDigit c)) (by decide +kernel) c
theorem blank_of (c : UInt8) : madrigalref01_Blank.f (c.toNat : Int) = some (Lex.isBlank c) :=
  Lex.all_bytes (p := fun c => madrigalref01_Blank.f (c.toNat : Int) = some (Lex.isBlank c)) (by decide +kernel) c
theorem ext_bytes (a : ByteArray) (i m : Nat) : a.extract i (i + m) = mkB ((a.data.toList.drop i).take m) := by
  apply Go.WideShapes.bytes_inj
  rw [Lib.extract_data, mkB_list, Nat.add_sub_cancel_left]
theorem begins_of (a : ByteArray) (ha : a.size ≤ 140737488351232) (i : Nat) (hi : i ≤ a.size) (s : ByteArray) (hs : s.size ≤ 1000) : madrigalref01_begins.f a (i : Int) s = some (s.data.toList.isPrefixOf (a.data.toList.drop i)) := by
  unfold madrigalref01_begins.f
  rw [w64 _ (by omega), w64 _ (by omega)]
  by_cases h : (a.size : Int) - (i : Int) ≥ (s.size : Int)
  · rw [if_pos h, if_pos (by omega), if_pos (by omega), if_pos (by omega), Lib.toList_data, Lib.toList_data, show ((i : Int) + (s.size : Int)).toNat = i + s.size by omega, Int.toNat_natCast, ext_bytes, mkB_list]
    congr 1
    rw [Bool.eq_iff_iff, beq_iff_eq, List.isPrefixOf_iff_prefix, List.prefix_iff_eq_take, size_list]
    exact ⟨fun h => h.symm, fun h => h.symm⟩
  · rw [if_neg h]
    congr 1
    rw [eq_comm, Bool.eq_false_iff]
    intro hp
    have := (List.isPrefixOf_iff_prefix.1 hp).length_le
    rw [drop_len, size_list] at this
    omega
theorem isPre2 (x y c d : UInt8) (r : Lex.Bytes) : List.isPrefixOf [x, y] (c :: d :: r) = decide (c = x ∧ d = y) := by
  show ((x == c) && ((y == d) && true)) = _
  by_cases h1 : c = x
  · subst h1
    by_cases h2 : d = y
    · subst h2; simp
    · rw [decide_eq_false (fun h => h2 h.2)]; simp [Ne.symm h2]
  · rw [decide_eq_false (fun h => h1 h.1)]; simp [Ne.symm h1]
/-- the result of a comment -/
def comRes (i : Nat) : Option Nat → Int
  | some m => ((i + m : Nat) : Int)
  | none => -1
theorem comRes_add (i j : Nat) (o : Option Nat) : comRes i (o.map (· + j)) = comRes (i + j) o := by
  cases o with
  | none => rfl
  | some m => simp [comRes]; omega
theorem comment_from (a : ByteArray) (ha : a.size ≤ 140737488351232) : ∀ (n i d K : Nat), a.size - i ≤ n → i ≤ a.size → 1 ≤ d → d ≤ i → n < K → madrigalref01_comment.l0 K a (i : Int) (d : Int) = some (comRes i (Lex.comLen d (a.data.toList.drop i))) := by
  intro n
  induction n with
  | zero =>
    intro i d K hn hi hd hdi hK
    obtain ⟨K, rfl⟩ : ∃ j, K = j + 1 := ⟨K - 1, by omega⟩
    rw [madrigalref01_comment.l0, if_neg (by omega), List.drop_of_length_le (by rw [size_list]; omega)]
    rfl
  | succ n ih =>
    intro i d K hn hi hd hdi hK
    obtain ⟨K, rfl⟩ : ∃ j, K = j + 1 := ⟨K - 1, by omega⟩
    cases hl : a.data.toList.drop i with
    | nil =>
      have := at_nil hl
      rw [madrigalref01_comment.l0, if_neg (by omega)]
      rfl
    | cons c r =>
      obtain ⟨hlt, _, hr⟩ := at_cons hl
      have hb1 := begins_of a ha i hi (⟨#[40, 42]⟩ : ByteArray) (by decide)
      have hb2 := begins_of a ha i hi (⟨#[42, 41]⟩ : ByteArray) (by decide)
      rw [hl] at hb1 hb2
      rw [madrigalref01_comment.l0, if_pos (by omega), hb1, Option.bind_some]
      have hd0 : ¬ (d : Int) = 0 := by omega
      cases r with
      | nil =>
        have e1 : List.isPrefixOf (⟨#[40, 42]⟩ : ByteArray).data.toList [c] = false := by simp [List.isPrefixOf]
        have e2 : List.isPrefixOf (⟨#[42, 41]⟩ : ByteArray).data.toList [c] = false := by simp [List.isPrefixOf]
        rw [e1, if_neg (by simp), hb2, Option.bind_some, e2, if_neg (by simp), if_neg hd0, w64 _ (by omega), show (i : Int) + 1 = ((i + 1 : Nat) : Int) by omega, ih (i + 1) d K (by omega) (by omega) hd (by omega) (by omega), hr]
        rfl
      | cons c2 r =>
        have hr2 := (at_cons hr).2.2
        have hlt2 := (at_cons hr).1
        have e1 : List.isPrefixOf (⟨#[40, 42]⟩ : ByteArray).data.toList (c :: c2 :: r) = decide (c = 40 ∧ c2 = 42) := isPre2 40 42 c c2 r
        have e2 : List.isPrefixOf (⟨#[42, 41]⟩ : ByteArray).data.toList (c :: c2 :: r) = decide (c = 42 ∧ c2 = 41) := isPre2 42 41 c c2 r
        rw [e1, Lex.comLen]
        by_cases h1 : c = 40 ∧ c2 = 42
        · rw [if_pos (decide_eq_true h1), if_pos h1, w64 _ (by omega), if_neg (by omega), w64 _ (by omega), show (i : Int) + 2 = ((i + 2 : Nat) : Int) by omega, show (d : Int) + 1 = ((d + 1 : Nat) : Int) by omega, ih (i + 2) (d + 1) K (by omega) (by omega) (by omega) (by omega) (by omega), hr2, comRes_add]
        · rw [if_neg (by rw [decide_eq_false h1]; simp), hb2, Option.bind_some, e2, if_neg h1]
          by_cases h2 : c = 42 ∧ c2 = 41
          · rw [if_pos (decide_eq_true h2), if_pos h2, w64 _ (by omega)]
            by_cases h3 : d = 1
            · rw [if_pos (by omega), if_pos h3, w64 _ (by omega)]
              rfl
            · rw [if_neg (by omega), if_neg h3, w64 _ (by omega), show (i : Int) + 2 = ((i + 2 : Nat) : Int) by omega, show (d : Int) - 1 = ((d - 1 : Nat) : Int) by omega, ih (i + 2) (d - 1) K (by omega) (by omega) (by omega) (by omega) (by omega), hr2, comRes_add]
          · rw [if_neg (by rw [decide_eq_false h2]; simp), if_neg h2, if_neg hd0, w64 _ (by omega), show (i : Int) + 1 = ((i + 1 : Nat) : Int) by omega, ih (i + 1) d K (by omega) (by omega) hd (by omega) (by omega), hr, comRes_add]
theorem beg_shape {l : Lex.Bytes} (h : Lex.begComment l = true) : ∃ r, l = 40 :: 42 :: r := by
  unfold Lex.begComment at h
  split at h
  · exact ⟨_, rfl⟩
  · cases h
theorem comment_of (a : ByteArray) (ha : a.size ≤ 140737488351232) (i K : Nat) (hi : i ≤ a.size) (hb : Lex.begComment (a.data.toList.drop i) = true) (hK : a.size + 1 < K) : madrigalref01_comment.f K a (i : Int) = some (comRes i (Lex.comLen 0 (a.data.toList.drop i))) := by
  obtain ⟨r, hl⟩ := beg_shape hb
  obtain ⟨hlt, _, hr⟩ := at_cons hl
  obtain ⟨hlt2, _, hr2⟩ := at_cons hr
  unfold madrigalref01_comment.f
  obtain ⟨K, rfl⟩ : ∃ j, K = j + 1 := ⟨K - 1, by omega⟩
  have hb1 := begins_of a ha i hi (⟨#[40, 42]⟩ : ByteArray) (by decide)
  rw [hl, show List.isPrefixOf (⟨#[40, 42]⟩ : ByteArray).data.toList (40 :: 42 :: r) = true by simp [List.isPrefixOf]] at hb1
  rw [madrigalref01_comment.l0, if_pos (by omega), hb1, Option.bind_some, if_pos rfl, w64 (0 + 1) (by omega), if_neg (by omega), w64 _ (by omega), show (i : Int) + 2 = ((i + 2 : Nat) : Int) by omega, show (0 : Int) + 1 = ((1 : Nat) : Int) by omega,
    comment_from a ha a.size (i + 2) 1 K (by omega) (by omega) (by omega) (by omega) (by omega), hr2, hl, Lex.comLen, if_pos ⟨rfl, rfl⟩, comRes_add]
theorem beg_isPrefix (l : Lex.Bytes) : List.isPrefixOf (⟨#[40, 42]⟩ : ByteArray).data.toList l = Lex.begComment l := by
  match l with
  | [] => rfl
  | [c] => simp [List.isPrefixOf, Lex.begComment]
  | c :: d :: r =>
    unfold Lex.begComment
    split
    · rename_i h
      injection h with h1 h
      injection h with h2 _
      subst h1 h2
      simp [List.isPrefixOf]
    · rename_i h
      by_cases h1 : c = 40
      · by_cases h2 : d = 42
        · subst h1 h2
          exact absurd rfl (h _)
        · simp [List.isPrefixOf, h1, Ne.symm h2]
      · simp [List.isPrefixOf, Ne.symm h1]
theorem step_by (c : UInt8) (r : Lex.Bytes) : (Lex.cls c = 2 → Lex.step (c :: r) = Lex.wordStep (c :: r)) ∧ (Lex.cls c = 3 → Lex.step (c :: r) = Lex.numStep (c :: r)) ∧ (Lex.cls c = 4 → Lex.step (c :: r) = Lex.symStep (c :: r)) ∧ (Lex.cls c = 5 → Lex.step (c :: r) = Lex.markStep (c :: r)) ∧ (Lex.cls c = 0 → Lex.step (c :: r) = .bad) := by
  have e : Lex.step (c :: r) = if Lex.cls c = 1 then .skip else if Lex.cls c = 2 then Lex.wordStep (c :: r) else if Lex.cls c = 3 then Lex.numStep (c :: r) else if Lex.cls c = 4 then Lex.symStep (c :: r) else if Lex.cls c = 5 then Lex.markStep (c :: r) else .bad := rfl
  rw [e]
  refine ⟨fun h => ?_, fun h => ?_, fun h => ?_, fun h => ?_, fun h => ?_⟩ <;> simp [h]
theorem step_beg {l : Lex.Bytes} (h : Lex.begComment l = true) : Lex.step l = (match Lex.comLen 0 l with | some k => .comm k | none => .bad) := by
  obtain ⟨r, rfl⟩ := beg_shape h
  rw [(step_by 40 (42 :: r)).2.2.2.1 (by decide)]
  unfold Lex.markStep
  rw [if_pos h]
  rfl
/-- WHAT IS PASSED OVER. -/
theorem skip_from (a : ByteArray) (ha : a.size ≤ 140737488351232) : ∀ (n i K : Nat), a.size - i ≤ n → i ≤ a.size → n + a.size + 5 < K →
    ∃ (j : Nat) (cs : List (Nat × Nat)) (fine : Bool), madrigalref01_Skip.l0 K a (i : Int) = some ((j : Int), fine) ∧ i ≤ j ∧ j ≤ a.size ∧ Lex.Runs (a.data.toList.drop i) i [] cs (a.data.toList.drop j) j ∧ (fine = true → a.data.toList.drop j = [] ∨ ∃ c r, a.data.toList.drop j = c :: r ∧ Lex.isBlank c = false ∧ Lex.begComment (c :: r) = false) ∧ (fine = false → a.data.toList.drop j ≠ [] ∧ Lex.step (a.data.toList.drop j) = .bad) := by
  intro n
  induction n with
  | zero =>
    intro i K hn hi hK
    obtain ⟨K, rfl⟩ : ∃ j, K = j + 1 := ⟨K - 1, by omega⟩
    refine ⟨i, [], true, ?_, Nat.le_refl _, hi, .nil _ _, fun _ => .inl (List.drop_of_length_le (by rw [size_list]; omega)), (fun h => by cases h)⟩
    rw [madrigalref01_Skip.l0, if_neg (by omega)]
  | succ n ih =>
    intro i K hn hi hK
    obtain ⟨K, rfl⟩ : ∃ j, K = j + 1 := ⟨K - 1, by omega⟩
    cases hl : a.data.toList.drop i with
    | nil =>
      have := at_nil hl
      refine ⟨i, [], true, ?_, Nat.le_refl _, hi, by rw [hl]; exact .nil _ _, fun _ => .inl hl, (fun h => by cases h)⟩
      rw [madrigalref01_Skip.l0, if_neg (by omega)]
    | cons c r =>
      obtain ⟨hlt, hbt, hr⟩ := at_cons hl
      rw [madrigalref01_Skip.l0, if_pos (by omega), if_pos (by omega), hbt, blank_of, Option.bind_some]
      cases hb : Lex.isBlank c with
      | true =>
        rw [if_pos rfl, w64 _ (by omega), show (i : Int) + 1 = ((i + 1 : Nat) : Int) by omega]
        obtain ⟨j, cs, fine, h1, h2, h3, h4, h5, h6⟩ := ih (i + 1) K (by omega) (by omega) (by omega)
        refine ⟨j, cs, fine, h1, by omega, h3, .skip (Lex.blank_step hb r) ?_, h5, h6⟩
        rw [hr] at h4
        exact h4
      | false =>
        have hb1 := begins_of a ha i hi (⟨#[40, 42]⟩ : ByteArray) (by decide)
        rw [hl, beg_isPrefix] at hb1
        rw [if_neg (by simp), hb1, Option.bind_some]
        cases hbeg : Lex.begComment (c :: r) with
        | false =>
          rw [if_neg (by simp)]
          exact ⟨i, [], true, rfl, Nat.le_refl _, hi, by rw [hl]; exact .nil _ _, fun _ => .inr ⟨c, r, hl, hb, hbeg⟩, (fun h => by cases h)⟩
        | true =>
          rw [if_pos rfl, comment_of a ha i K hi (by rw [hl]; exact hbeg) (by omega), Option.bind_some, hl]
          have hst := step_beg hbeg
          cases hc : Lex.comLen 0 (c :: r) with
          | none =>
            rw [hc] at hst
            rw [if_pos (by show (-1 : Int) < 0; omega)]
            exact ⟨i, [], false, rfl, Nat.le_refl _, hi, by rw [hl]; exact .nil _ _, (fun h => by cases h), fun _ => by rw [hl]; exact ⟨by simp, hst⟩⟩
          | some m =>
            rw [hc] at hst
            have hm := Lex.comLen_bounds _ _ _ hc
            have hz := drop_len a i
            rw [hl] at hz
            rw [if_neg (by show ¬ ((i + m : Nat) : Int) < 0; omega)]
            obtain ⟨j, cs, fine, h1, h2, h3, h4, h5, h6⟩ := ih (i + m) K (by omega) (by omega) (by omega)
            refine ⟨j, (i, i + m) :: cs, fine, h1, by omega, h3, .comm hst ?_, h5, h6⟩
            rw [← hl, List.drop_drop]
            exact h4
end Go.Proofs.YtglgppkjgodlkaaGreatDoor
