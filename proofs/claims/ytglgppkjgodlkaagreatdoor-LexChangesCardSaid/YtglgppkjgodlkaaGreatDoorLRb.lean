/- What the printed reference's One computes: the plain step. Conditions: none. -/
import Derived.Test.YtglgppkjgodlkaaGreatDoorLRa
import Derived.Test.YtglgppkjgodlkaaGreatDoorG6
namespace Go.Proofs.YtglgppkjgodlkaaGreatDoor
open Go.RowKit Go.Proofs.YtglgppkjgodlkaaGreatDoorW.PrintWords Go.Proofs.YtglgppkjgodlkaaGreatDoor.P
set_option linter.unusedVariables false
set_option linter.unusedSimpArgs false

def inB (c : UInt8) : Bool := Lex.isLetter c || (Lex.isDigit c || c == 39)
theorem inB_eq : ∀ c : UInt8, inB c = Lex.inName c := fun c =>
  Lex.all_bytes (p := fun c => inB c = Lex.inName c) (by decide +kernel) c
theorem q39 (c : UInt8) : ((c.toNat : Int) = 39) ↔ c = 39 := by
  constructor
  · intro h
    apply UInt8.toNat_inj.1
    rw [show (39 : UInt8).toNat = 39 from rfl]
    omega
  · rintro rfl; rfl
theorem name_from (a : ByteArray) (ha : a.size ≤ 140737488351232) : ∀ (n i K : Nat), a.size - i ≤ n → i ≤ a.size → n < K → madrigalref01_name.l0 K a (i : Int) = some ((i + ((a.data.toList.drop i).takeWhile Lex.inName).length : Nat) : Int) := by
  intro n
  induction n with
  | zero =>
    intro i K hn hi hK
    obtain ⟨K, rfl⟩ : ∃ j, K = j + 1 := ⟨K - 1, by omega⟩
    rw [madrigalref01_name.l0, if_neg (by omega), List.drop_of_length_le (by rw [size_list]; omega)]
    rfl
  | succ n ih =>
    intro i K hn hi hK
    obtain ⟨K, rfl⟩ : ∃ j, K = j + 1 := ⟨K - 1, by omega⟩
    cases hl : a.data.toList.drop i with
    | nil =>
      have := at_nil hl
      rw [madrigalref01_name.l0, if_neg (by omega)]
      rfl
    | cons c r =>
      obtain ⟨hlt, hbt, hr⟩ := at_cons hl
      have hgo := ih (i + 1) K (by omega) (by omega) (by omega)
      rw [hr] at hgo
      rw [madrigalref01_name.l0, if_pos (by omega), if_pos (by omega), hbt, letter_of, Option.bind_some, digit_of, w64 _ (by omega), show (i : Int) + 1 = ((i + 1 : Nat) : Int) by omega, hgo, List.takeWhile_cons, ← inB_eq]
      have hrest : (if (if inB c = true then c :: r.takeWhile Lex.inName else []).length = 0 then True else True) := by split <;> trivial
      unfold inB
      cases h1 : Lex.isLetter c with
      | true =>
        rw [if_pos rfl, if_pos (by simp), List.length_cons]
        congr 2
        omega
      | false =>
        rw [if_neg (by simp), Option.bind_some]
        cases h2 : Lex.isDigit c with
        | true =>
          rw [if_pos rfl, if_pos (by simp), List.length_cons]
          congr 2
          omega
        | false =>
          rw [if_neg (by simp)]
          by_cases h3 : c = 39
          · rw [if_pos ((q39 c).2 h3), if_pos (by simp [h3]), List.length_cons]
            congr 2
            omega
          · rw [if_neg (fun h => h3 ((q39 c).1 h)), if_neg (by simp [h3])]
            rfl
/-! #### numbers -/
theorem dig_byte : ∀ c : UInt8, Lex.isDigit c = true → 48 ≤ c.toNat ∧ c.toNat ≤ 57 := by
  intro c h
  unfold Lex.isDigit at h
  rw [Bool.and_eq_true, decide_eq_true_eq, decide_eq_true_eq, UInt8.le_iff_toNat_le, UInt8.le_iff_toNat_le] at h
  exact h
def digFrom (n : Nat) (l : Lex.Bytes) : Nat := l.foldl (fun a c => 10 * a + (c.toNat - 48)) n
theorem digFrom_le : ∀ (l : Lex.Bytes) (n : Nat), n ≤ digFrom n l
  | [], n => Nat.le_refl _
  | c :: r, n => by
    show n ≤ digFrom (10 * n + (c.toNat - 48)) r
    have := digFrom_le r (10 * n + (c.toNat - 48))
    omega
/-- the result of a number -/
def numRes (at_ i : Nat) (n : Nat) (l : Lex.Bytes) : Int × Int × ByteArray × Int × Int × Bool :=
  let w := l.takeWhile Lex.isDigit
  if digFrom n w > 2147483647 then (0, 0, (⟨#[]⟩ : ByteArray), 0, 0, false) else if Lex.nextInName (l.drop w.length) then (0, 0, (⟨#[]⟩ : ByteArray), 0, 0, false) else (3, (digFrom n w : Int), (⟨#[]⟩ : ByteArray), (at_ : Int), ((i + w.length : Nat) : Int), true)
theorem num_big (a : ByteArray) (ha : a.size ≤ 140737488351232) (at_ : Nat) (v : Int) : ∀ (n i K : Nat), a.size - i ≤ n → i ≤ a.size → 2 * n + 1 < K → madrigalref01_number.l0 K a (at_ : Int) (i : Int) v true = some (0, 0, (⟨#[]⟩ : ByteArray), 0, 0, false) := by
  intro n
  induction n with
  | zero =>
    intro i K hn hi hK
    obtain ⟨K, rfl⟩ : ∃ j, K = j + 2 := ⟨K - 2, by omega⟩
    rw [madrigalref01_number.l0, if_neg (by omega), madrigalref01_number.j1, if_neg (by simp), if_pos rfl]
  | succ n ih =>
    intro i K hn hi hK
    obtain ⟨K, rfl⟩ : ∃ j, K = j + 2 := ⟨K - 2, by omega⟩
    cases hl : a.data.toList.drop i with
    | nil =>
      have := at_nil hl
      rw [madrigalref01_number.l0, if_neg (by omega), madrigalref01_number.j1, if_neg (by simp), if_pos rfl]
    | cons c r =>
      obtain ⟨hlt, hbt, hr⟩ := at_cons hl
      rw [madrigalref01_number.l0, if_pos (by omega), if_pos (by omega), hbt, digit_of, Option.bind_some, madrigalref01_number.j1]
      cases Lex.isDigit c with
      | true =>
        rw [if_pos rfl, if_pos rfl, w64 _ (by omega), show (i : Int) + 1 = ((i + 1 : Nat) : Int) by omega]
        exact ih (i + 1) K (by omega) (by omega) (by omega)
      | false => rw [if_neg (by simp), if_pos rfl]
theorem num_from (a : ByteArray) (ha : a.size ≤ 140737488351232) (at_ : Nat) : ∀ (n i v K : Nat), a.size - i ≤ n → i ≤ a.size → v ≤ 2147483647 → 2 * n + 1 < K → madrigalref01_number.l0 K a (at_ : Int) (i : Int) (v : Int) false = some (numRes at_ i v (a.data.toList.drop i)) := by
  intro n
  induction n with
  | zero =>
    intro i v K hn hi hv hK
    obtain ⟨K, rfl⟩ : ∃ j, K = j + 2 := ⟨K - 2, by omega⟩
    rw [madrigalref01_number.l0, if_neg (by omega), madrigalref01_number.j1, if_neg (by simp), if_neg (by simp), if_neg (by omega), List.drop_of_length_le (by rw [size_list]; omega)]
    show _ = some (if v > 2147483647 then _ else _)
    rw [if_neg (by omega)]
    rfl
  | succ n ih =>
    intro i v K hn hi hv hK
    obtain ⟨K, rfl⟩ : ∃ j, K = j + 2 := ⟨K - 2, by omega⟩
    cases hl : a.data.toList.drop i with
    | nil =>
      have := at_nil hl
      rw [madrigalref01_number.l0, if_neg (by omega), madrigalref01_number.j1, if_neg (by simp), if_neg (by simp), if_neg (by omega)]
      show _ = some (if v > 2147483647 then _ else _)
      rw [if_neg (by omega)]
      rfl
    | cons c r =>
      obtain ⟨hlt, hbt, hr⟩ := at_cons hl
      rw [madrigalref01_number.l0, if_pos (by omega), if_pos (by omega), hbt, digit_of, Option.bind_some, madrigalref01_number.j1]
      cases hd : Lex.isDigit c with
      | true =>
        have hcb := dig_byte c hd
        have e : wrap64 (wrap64 (wrap64 (10 * (v : Int)) + wrap64 (c.toNat : Int)) - 48) = ((10 * v + (c.toNat - 48) : Nat) : Int) := by
          rw [w64 (10 * (v : Int)) (by omega), w64 (c.toNat : Int) (by omega), w64 (10 * (v : Int) + (c.toNat : Int)) (by omega), w64 _ (by omega)]
          omega
        have hres : numRes at_ i v (c :: r) = (if digFrom (10 * v + (c.toNat - 48)) (r.takeWhile Lex.isDigit) > 2147483647 then (0, 0, (⟨#[]⟩ : ByteArray), 0, 0, false) else numRes at_ (i + 1) (10 * v + (c.toNat - 48)) r) := by
          unfold numRes
          simp only
          rw [List.takeWhile_cons, if_pos hd]
          show (if digFrom (10 * v + (c.toNat - 48)) (r.takeWhile Lex.isDigit) > 2147483647 then _ else _) = _
          by_cases hb : digFrom (10 * v + (c.toNat - 48)) (r.takeWhile Lex.isDigit) > 2147483647
          · rw [if_pos hb, if_pos hb]
          · rw [if_neg hb, if_neg hb, if_neg hb, List.length_cons, List.drop_succ_cons, show i + 1 + (r.takeWhile Lex.isDigit).length = i + ((r.takeWhile Lex.isDigit).length + 1) by omega]
            rfl
        rw [if_pos rfl, if_neg (by simp), if_pos (by omega), if_pos (by omega), hbt, e, w64 _ (by omega), show (i : Int) + 1 = ((i + 1 : Nat) : Int) by omega, hres]
        have hmono := digFrom_le (r.takeWhile Lex.isDigit) (10 * v + (c.toNat - 48))
        by_cases hb : 10 * v + (c.toNat - 48) > 2147483647
        · rw [decide_eq_true (by omega), if_pos (by omega)]
          exact num_big a ha at_ _ n (i + 1) K (by omega) (by omega) (by omega)
        · rw [decide_eq_false (by omega), ih (i + 1) _ K (by omega) (by omega) (by omega) (by omega), hr]
          by_cases hc : digFrom (10 * v + (c.toNat - 48)) (r.takeWhile Lex.isDigit) > 2147483647
          · rw [if_pos hc]
            unfold numRes
            simp only
            rw [if_pos hc]
          · rw [if_neg hc]
      | false =>
        rw [if_neg (by simp), if_neg (by simp), if_pos (by omega), if_pos (by omega), hbt, letter_of, Option.bind_some]
        have hres : numRes at_ i v (c :: r) = (if Lex.nextInName (c :: r) then (0, 0, (⟨#[]⟩ : ByteArray), 0, 0, false) else (3, (v : Int), (⟨#[]⟩ : ByteArray), (at_ : Int), (i : Int), true)) := by
          have ht : (c :: r).takeWhile Lex.isDigit = [] := by rw [List.takeWhile_cons, if_neg (by rw [hd]; simp)]
          unfold numRes
          simp only
          rw [ht]
          show (if v > 2147483647 then _ else _) = _
          rw [if_neg (by omega)]
          rfl
        rw [hres]
        have hn2 : Lex.nextInName (c :: r) = inB c := (inB_eq c).symm
        rw [hn2]
        unfold inB
        rw [hd]
        cases h1 : Lex.isLetter c with
        | true => rw [if_pos rfl, if_pos (by simp)]
        | false =>
          rw [if_neg (by simp)]
          by_cases h3 : c = 39
          · rw [if_pos ((q39 c).2 h3), if_pos (by simp [h3])]
          · rw [if_neg (fun h => h3 ((q39 c).1 h)), if_neg (by simp [h3])]
/-! #### symbols and signs -/
theorem symbol_from (c : UInt8) (s : ByteArray) (hs : s.size ≤ 1000) : ∀ (n i K : Nat), s.size - i ≤ n → i ≤ s.size → n < K → madrigalref01_Symbol.l0 K (c.toNat : Int) s (i : Int) = some ((s.data.toList.drop i).contains c) := by
  intro n
  induction n with
  | zero =>
    intro i K hn hi hK
    obtain ⟨K, rfl⟩ : ∃ j, K = j + 1 := ⟨K - 1, by omega⟩
    rw [madrigalref01_Symbol.l0, if_neg (by omega), List.drop_of_length_le (by rw [size_list]; omega)]
    rfl
  | succ n ih =>
    intro i K hn hi hK
    obtain ⟨K, rfl⟩ : ∃ j, K = j + 1 := ⟨K - 1, by omega⟩
    cases hl : s.data.toList.drop i with
    | nil =>
      have := at_nil hl
      rw [madrigalref01_Symbol.l0, if_neg (by omega)]
      rfl
    | cons x r =>
      obtain ⟨hlt, hbt, hr⟩ := at_cons hl
      rw [madrigalref01_Symbol.l0, if_pos (by omega), if_pos (by omega), hbt, List.contains_cons]
      by_cases e : x = c
      · subst e
        rw [if_pos rfl]
        simp
      · have hne : ¬ ((x.toNat : Int) = (c.toNat : Int)) := fun h => e (UInt8.toNat_inj.1 (by omega))
        have hne2 : (c == x) = false := by simpa using fun h : c = x => e h.symm
        rw [if_neg hne, w64 _ (by omega), show (i : Int) + 1 = ((i + 1 : Nat) : Int) by omega, ih (i + 1) K (by omega) (by omega) (by omega), hr, hne2]
        rfl
theorem symbol_of (c : UInt8) (K : Nat) (hK : 20 < K) : madrigalref01_Symbol.f K (c.toNat : Int) = some (Lex.isSym c) := by
  unfold madrigalref01_Symbol.f
  exact symbol_from c (⟨#[35, 36, 37, 38, 42, 43, 45, 46, 47, 60, 61, 62, 64, 92, 94, 126]⟩ : ByteArray) (by decide) 16 0 K (by decide) (by decide) (by omega)
theorem symbols_from (s : ByteArray) (hs : s.size ≤ 1000) : ∀ (n i K : Nat), s.size - i ≤ n → i ≤ s.size → n + 30 < K → madrigalref01_symbols.l0 K s (i : Int) = some ((s.data.toList.drop i).all Lex.isSym) := by
  intro n
  induction n with
  | zero =>
    intro i K hn hi hK
    obtain ⟨K, rfl⟩ : ∃ j, K = j + 1 := ⟨K - 1, by omega⟩
    rw [madrigalref01_symbols.l0, if_neg (by omega), List.drop_of_length_le (by rw [size_list]; omega)]
    rfl
  | succ n ih =>
    intro i K hn hi hK
    obtain ⟨K, rfl⟩ : ∃ j, K = j + 1 := ⟨K - 1, by omega⟩
    cases hl : s.data.toList.drop i with
    | nil =>
      have := at_nil hl
      rw [madrigalref01_symbols.l0, if_neg (by omega)]
      rfl
    | cons x r =>
      obtain ⟨hlt, hbt, hr⟩ := at_cons hl
      rw [madrigalref01_symbols.l0, if_pos (by omega), if_pos (by omega), hbt, symbol_of _ _ (by omega), Option.bind_some, List.all_cons]
      cases Lex.isSym x with
      | true =>
        rw [if_pos rfl, w64 _ (by omega), show (i : Int) + 1 = ((i + 1 : Nat) : Int) by omega, ih (i + 1) K (by omega) (by omega) (by omega), hr, Bool.true_and]
      | false =>
        rw [if_neg (by simp), Bool.false_and]
theorem sign_from (a : ByteArray) (ha : a.size ≤ 140737488351232) (at_ : Nat) (hat : at_ ≤ a.size) (l : List Lex.Bytes) (hl : l.length ≤ 1000) (hz : (l.all fun s => decide (s.length ≤ 3)) = true) : ∀ (n i K : Nat) (best : Lex.Bytes), l.length - i ≤ n → i ≤ l.length → n + 40 < K → best.length ≤ 1000 →
    madrigalref01_sign.l0 K a (at_ : Int) (l.map mkB) (mkB best) (i : Int) = some (mkB (Lex.signPick (a.data.toList.drop at_) best (l.drop i))) := by
  intro n
  induction n with
  | zero =>
    intro i K best hn hi hK hb
    obtain ⟨K, rfl⟩ : ∃ j, K = j + 1 := ⟨K - 1, by omega⟩
    rw [madrigalref01_sign.l0, if_neg (by rw [List.length_map]; omega), show l.drop i = [] from List.drop_of_length_le (by omega)]
    rfl
  | succ n ih =>
    intro i K best hn hi hK hb
    obtain ⟨K, rfl⟩ : ∃ j, K = j + 1 := ⟨K - 1, by omega⟩
    rcases Nat.lt_or_ge i l.length with hlt | hge
    · have hs3 : l[i].length ≤ 3 := by simpa using List.all_eq_true.1 hz _ (List.getElem_mem hlt)
      have hsy := symbols_from (mkB l[i]) (by rw [mkB_size]; omega) 3 0 K (by rw [mkB_size]; omega) (by omega) (by omega)
      rw [mkB_list, List.drop_zero] at hsy
      have hbg := begins_of a ha at_ hat (mkB l[i]) (by rw [mkB_size]; omega)
      rw [mkB_list] at hbg
      rw [madrigalref01_sign.l0, if_pos (by rw [List.length_map]; omega), if_pos (by omega), rd_map l i hlt, List.drop_eq_getElem_cons hlt, Lex.signPick]
      unfold madrigalref01_symbols.f
      rw [show ((0 : Nat) : Int) = 0 from rfl] at hsy
      rw [hsy, Option.bind_some, w64 _ (by omega), show (i : Int) + 1 = ((i + 1 : Nat) : Int) by omega]
      cases h1 : l[i].all Lex.isSym with
      | true =>
        rw [if_pos rfl, if_pos rfl]
        exact ih (i + 1) K best (by omega) (by omega) (by omega) hb
      | false =>
        rw [if_neg (show ¬ (false = true) by simp), if_neg (show ¬ (false = true) by simp), hbg, Option.bind_some]
        cases h2 : l[i].isPrefixOf (a.data.toList.drop at_) with
        | false =>
          rw [if_neg (show ¬ (false = true) by simp), Bool.false_and, if_neg (show ¬ (false = true) by simp)]
          exact ih (i + 1) K best (by omega) (by omega) (by omega) hb
        | true =>
          rw [if_pos rfl, mkB_size, mkB_size, Bool.true_and]
          by_cases h3 : best.length < l[i].length
          · rw [if_pos (by omega), if_pos (decide_eq_true h3)]
            exact ih (i + 1) K l[i] (by omega) (by omega) (by omega) (by omega)
          · rw [if_neg (by omega), if_neg (by rw [decide_eq_false h3]; simp)]
            exact ih (i + 1) K best (by omega) (by omega) (by omega) hb
    · rw [madrigalref01_sign.l0, if_neg (by rw [List.length_map]; omega), show l.drop i = [] from List.drop_of_length_le (by omega)]
      rfl
theorem sign_of (a : ByteArray) (ha : a.size ≤ 140737488351232) (at_ : Nat) (hat : at_ ≤ a.size) (K : Nat) (hK : 100 < K) : madrigalref01_sign.f K a (at_ : Int) = some (mkB (Lex.signPick (a.data.toList.drop at_) [] Lex.signsL)) := by
  unfold madrigalref01_sign.f
  rw [show madrigalref01_Signs.f = some (Lex.signsL.map mkB) from rfl, Option.bind_some, show (⟨#[]⟩ : ByteArray) = mkB [] from rfl]
  exact sign_from a ha at_ hat Lex.signsL (by decide) (by decide +kernel) 24 0 K [] (by decide) (by decide) (by omega) (by decide)
theorem syms_from (a : ByteArray) (ha : a.size ≤ 140737488351232) (at_ : Nat) : ∀ (n i K : Nat), a.size - i ≤ n → i ≤ a.size → n + 100 < K → ∃ K', 50 < K' ∧ madrigalref01_One.l0 K a (at_ : Int) (i : Int) = madrigalref01_One.j1 K' a (at_ : Int) ((i + ((a.data.toList.drop i).takeWhile Lex.isSym).length : Nat) : Int) := by
  intro n
  induction n with
  | zero =>
    intro i K hn hi hK
    obtain ⟨K, rfl⟩ : ∃ j, K = j + 1 := ⟨K - 1, by omega⟩
    refine ⟨K, by omega, ?_⟩
    rw [madrigalref01_One.l0, if_neg (by omega), List.drop_of_length_le (by rw [size_list]; omega)]
    rfl
  | succ n ih =>
    intro i K hn hi hK
    obtain ⟨K, rfl⟩ : ∃ j, K = j + 1 := ⟨K - 1, by omega⟩
    cases hl : a.data.toList.drop i with
    | nil =>
      have := at_nil hl
      refine ⟨K, by omega, ?_⟩
      rw [madrigalref01_One.l0, if_neg (by omega)]
      rfl
    | cons c r =>
      obtain ⟨hlt, hbt, hr⟩ := at_cons hl
      rw [madrigalref01_One.l0, if_pos (by omega), if_pos (by omega), hbt, symbol_of _ _ (by omega), Option.bind_some, List.takeWhile_cons]
      cases Lex.isSym c with
      | true =>
        obtain ⟨K', h1, h2⟩ := ih (i + 1) K (by omega) (by omega) (by omega)
        refine ⟨K', h1, ?_⟩
        rw [if_pos rfl, if_pos rfl, w64 _ (by omega), show (i : Int) + 1 = ((i + 1 : Nat) : Int) by omega, h2, hr, List.length_cons, show i + 1 + (r.takeWhile Lex.isSym).length = i + ((r.takeWhile Lex.isSym).length + 1) by omega]
      | false =>
        refine ⟨K, by omega, ?_⟩
        rw [if_neg (by simp), if_neg (by simp)]
        rfl
theorem cls_facts (c : UInt8) (hb : Lex.isBlank c = false) :
    (Lex.isLetter c = true → Lex.cls c = 2) ∧ (Lex.isLetter c = false → Lex.isDigit c = true → Lex.cls c = 3) ∧
    (Lex.isLetter c = false → Lex.isDigit c = false → Lex.isSym c = true → Lex.cls c = 4) ∧ (Lex.isLetter c = false → Lex.isDigit c = false → Lex.isSym c = false → Lex.isMark c = true → Lex.cls c = 5) ∧ (Lex.isLetter c = false → Lex.isDigit c = false → Lex.isSym c = false → Lex.isMark c = false → Lex.cls c = 0) := by
  unfold Lex.cls
  rw [hb]
  exact ⟨fun h => by simp [h], fun h1 h2 => by simp [h1, h2], fun h1 h2 h3 => by simp [h1, h2, h3], fun h1 h2 h3 h4 => by simp [h1, h2, h3, h4], fun h1 h2 h3 h4 => by simp [h1, h2, h3, h4]⟩
/-- what One tells of a step -/
def OneIs (at_ : Nat) (s : Lex.Step) (o : Option (Int × Int × ByteArray × Int × Int × Bool)) : Prop := match s with
  | .tok kd n b k => o = some (kd, n, mkB b, (at_ : Int), ((at_ + k : Nat) : Int), true)
  | .bad => ∃ q1 q2 q3 q4 q5, o = some (q1, q2, q3, q4, q5, false)
  | _ => False
/-- ONE TOKEN, both ways. -/
theorem one_of (a : ByteArray) (ha : a.size ≤ 140737488351232) (i K : Nat) {c : UInt8} {r : Lex.Bytes} (hl : a.data.toList.drop i = c :: r) (hb : Lex.isBlank c = false) (hbeg : Lex.begComment (c :: r) = false) (hK : 2 * a.size + 200 < K) :
    OneIs i (Lex.step (c :: r)) (madrigalref01_One.f K a (i : Int)) := by
  obtain ⟨hlt, hbt, hr⟩ := at_cons hl
  obtain ⟨f1, f2, f3, f4, f5⟩ := cls_facts c hb
  obtain ⟨s1, s2, s3, s4, s5⟩ := step_by c r
  have hlen : (c :: r).length = a.size - i := by rw [← hl]; exact drop_len a i
  have hcut : ∀ m, m ≤ (c :: r).length → a.extract (i : Int).toNat ((i + m : Nat) : Int).toNat = mkB ((c :: r).take m) := by
    intro m hm
    rw [Int.toNat_natCast, Int.toNat_natCast, ext_bytes, hl]
  unfold madrigalref01_One.f
  rw [if_pos (by omega), if_pos (by omega), hbt, letter_of, Option.bind_some]
  cases h1 : Lex.isLetter c with
  | true =>
    rw [if_pos rfl, s1 (f1 h1)]
    have hw := Lex.takeWhile_len Lex.inName (c :: r)
    have hn := name_from a ha a.size i K (by omega) (by omega) (by omega)
    rw [hl] at hn
    unfold madrigalref01_name.f
    rw [hn, Option.bind_some, if_pos (by omega), if_pos (by omega), show madrigalref01_Words.f = some (Lex.wordsL.map mkB) from rfl, Option.bind_some, hcut _ hw, Lex.takeWhile_take, in_of Lex.wordsL _ (by decide) K (by have : Lex.wordsL.length = 37 := rfl; omega), mkB_list, Option.bind_some, w64 _ (by omega)]
    unfold Lex.wordStep
    simp only
    by_cases h32 : ((c :: r).takeWhile Lex.inName).length > 32
    · rw [if_pos h32]
      cases Lex.wordsL.contains ((c :: r).takeWhile Lex.inName) with
      | true => rw [if_pos rfl, decide_eq_false (by omega)]; exact ⟨_, _, _, _, _, rfl⟩
      | false => rw [if_neg (by simp), decide_eq_false (by omega)]; exact ⟨_, _, _, _, _, rfl⟩
    · rw [if_neg h32]
      cases Lex.wordsL.contains ((c :: r).takeWhile Lex.inName) with
      | true => rw [if_pos rfl, decide_eq_true (by omega), if_pos rfl]; rfl
      | false => rw [if_neg (by simp), decide_eq_true (by omega), if_neg (by simp)]; rfl
  | false =>
    rw [if_neg (by simp), digit_of, Option.bind_some]
    cases h2 : Lex.isDigit c with
    | true =>
      rw [if_pos rfl, s2 (f2 h1 h2)]
      have hn := num_from a ha i a.size i 0 K (by omega) (by omega) (by omega) (by omega)
      rw [hl] at hn
      unfold madrigalref01_number.f
      rw [show (0 : Int) = ((0 : Nat) : Int) from rfl] at *
      rw [hn, Option.bind_some]
      unfold numRes Lex.numStep
      simp only
      rw [show digFrom 0 ((c :: r).takeWhile Lex.isDigit) = Lex.digVal ((c :: r).takeWhile Lex.isDigit) from rfl]
      by_cases h3 : Lex.digVal ((c :: r).takeWhile Lex.isDigit) > 2147483647
      · rw [if_pos h3, if_pos h3]; exact ⟨_, _, _, _, _, rfl⟩
      · rw [if_neg h3, if_neg h3]
        cases Lex.nextInName ((c :: r).drop ((c :: r).takeWhile Lex.isDigit).length) with
        | true => rw [if_pos rfl, if_pos rfl]; exact ⟨_, _, _, _, _, rfl⟩
        | false => rw [if_neg (by simp), if_neg (by simp)]; rfl
    | false =>
      rw [if_neg (by simp), sign_of a ha i (by omega) K (by omega), Option.bind_some, hl, Lib.toList_data, mkB_list]
      cases h3 : Lex.isSym c with
      | true =>
        have hcl := f3 h1 h2 h3
        rw [Lex.pick_none c r (by omega), if_pos rfl, s3 hcl]
        obtain ⟨K', hK', he⟩ := syms_from a ha i a.size i K (by omega) (by omega) (by omega)
        rw [he, hl]
        obtain ⟨K', rfl⟩ : ∃ j, K' = j + 1 := ⟨K' - 1, by omega⟩
        have hw := Lex.takeWhile_len Lex.isSym (c :: r)
        have hp := Lex.takeWhile_pos Lex.isSym c r h3
        rw [madrigalref01_One.j1, if_pos (by omega), if_pos (by omega), if_pos (by omega), show madrigalref01_Signs.f = some (Lex.signsL.map mkB) from rfl, Option.bind_some, hcut _ hw, Lex.takeWhile_take, in_of Lex.signsL _ (by decide) K' (by have : Lex.signsL.length = 24 := rfl; omega), mkB_list, Option.bind_some, w64 _ (by omega)]
        unfold Lex.symStep
        simp only
        by_cases h32 : ((c :: r).takeWhile Lex.isSym).length > 32
        · rw [if_pos h32]
          cases Lex.signsL.contains ((c :: r).takeWhile Lex.isSym) with
          | true => rw [if_pos rfl, if_pos (by omega), decide_eq_false (by omega)]; exact ⟨_, _, _, _, _, rfl⟩
          | false => rw [if_neg (by simp), if_pos (by omega), decide_eq_false (by omega)]; exact ⟨_, _, _, _, _, rfl⟩
        · rw [if_neg h32, decide_eq_true (by omega)]
          have hgt : ((i + ((c :: r).takeWhile Lex.isSym).length : Nat) : Int) > (i : Int) := by omega
          cases Lex.signsL.contains ((c :: r).takeWhile Lex.isSym) with
          | true => rw [if_pos rfl, if_pos rfl, if_pos hgt]; rfl
          | false => rw [if_neg (show ¬ (false = true) by simp), if_neg (show ¬ (false = true) by simp), if_pos hgt]; rfl
      | false =>
        have hno : ∀ o, o = madrigalref01_One.l0 K a (i : Int) (i : Int) → ∃ q1 q2 q3 q4 q5, o = some (q1, q2, q3, q4, q5, false) := by
          rintro o rfl
          obtain ⟨K', hK', he⟩ := syms_from a ha i a.size i K (by omega) (by omega) (by omega)
          rw [hl, List.takeWhile_cons, if_neg (by rw [h3]; simp)] at he
          rw [he]
          obtain ⟨K', rfl⟩ : ∃ j, K' = j + 1 := ⟨K' - 1, by omega⟩
          rw [madrigalref01_One.j1, if_pos (by omega), if_pos (by simp), if_pos (by simp; omega), show madrigalref01_Signs.f = some (Lex.signsL.map mkB) from rfl, Option.bind_some, in_of Lex.signsL _ (by decide) K' (by have : Lex.signsL.length = 24 := rfl; omega), Option.bind_some]
          split
          · rw [if_neg (by simp)]; exact ⟨_, _, _, _, _, rfl⟩
          · rw [if_neg (by simp)]; exact ⟨_, _, _, _, _, rfl⟩
        cases h4 : Lex.isMark c with
        | false =>
          have hcl := f5 h1 h2 h3 h4
          rw [Lex.pick_none c r (by omega), if_pos rfl, s5 hcl]
          exact hno _ rfl
        | true =>
          have hcl := f4 h1 h2 h3 h4
          rw [Lex.pick_mark c r hcl, s4 hcl]
          unfold Lex.markStep
          rw [hbeg, if_neg (by simp)]
          cases hk : Lex.markLen (c :: r) with
          | none =>
            simp only
            rw [if_pos trivial]
            exact hno _ rfl
          | some k =>
            have hkb := Lex.markLen_bounds _ _ hk
            simp only
            have hz : (mkB ((c :: r).take k)).size = k := by rw [mkB_size, List.length_take]; omega
            rw [if_neg (by
              intro e
              have : ((c :: r).take k).length = 0 := by rw [e]; rfl
              rw [List.length_take] at this
              omega), hz, w64 _ (by omega)]
            rfl
end Go.Proofs.YtglgppkjgodlkaaGreatDoor
