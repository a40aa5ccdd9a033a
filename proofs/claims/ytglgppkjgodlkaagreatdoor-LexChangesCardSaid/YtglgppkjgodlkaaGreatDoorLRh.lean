/- The program's Change and the reference's, the same at all tokens. Conditions: none. -/
import Derived.Test.YtglgppkjgodlkaaGreatDoorLCh
import Derived.Test.YtglgppkjgodlkaaGreatDoorLRc
import Derived.Test.YtglgppkjgodlkaaGreatDoorG24
import Derived.Test.YtglgppkjgodlkaaGreatDoorG16
namespace Go.Proofs.YtglgppkjgodlkaaGreatDoor
open Go.RowKit Go.Proofs.YtglgppkjgodlkaaGreatDoorW.PrintWords Go.Proofs.YtglgppkjgodlkaaGreatDoor.P
set_option linter.unusedVariables false
set_option linter.unusedSimpArgs false

theorem s_ext {x y : S38} (h0 : x.f0 = y.f0) (h1 : x.f1 = y.f1) (h2 : x.f2.toList = y.f2.toList) (h3 : x.f3 = y.f3) (h4 : x.f4 = y.f4) : x = y := by
  rw [Lib.toList_data, Lib.toList_data] at h2
  replace h2 := Go.WideShapes.bytes_inj h2
  cases x; cases y
  simp only at h0 h1 h2 h3 h4
  subst h0 h1 h2 h3 h4
  rfl
/-- the test of two tokens -/
def diffB (x y : S38) : Bool := (!(x.f0 == y.f0) || (!(x.f1 == y.f1) || (!(x.f2.toList == y.f2.toList) || (!(x.f3 == y.f3) || !(x.f4 == y.f4)))))
theorem diff_iff (x y : S38) : diffB x y = false ↔ x = y := by
  constructor
  · intro h
    unfold diffB at h
    simp only [Bool.or_eq_false_iff, Bool.not_eq_false', beq_iff_eq] at h
    exact s_ext h.1 h.2.1 h.2.2.1 h.2.2.2.1 h.2.2.2.2
  · rintro rfl
    unfold diffB
    simp
theorem diff_comm (x y : S38) : diffB x y = diffB y x := by
  rw [Bool.eq_iff_iff, ← Bool.not_eq_false, ← Bool.not_eq_false, diff_iff, diff_iff]
  exact ⟨fun h e => h e.symm, fun h e => h e.symm⟩
theorem zip_self_of (l : List S38) : l.zip l = l.map (fun z => (z, z)) := by
  induction l with
  | nil => rfl
  | cons a l ih => rw [List.zip_cons_cons, ih, List.map_cons]
/-- the common result of both loops -/
def eqFrom (xs ys : List S38) (i : Nat) : Bool := (((xs.drop i).zip (ys.drop i)).all fun p => !diffB p.1 p.2)
theorem eqFrom_step {xs ys : List S38} {i : Nat} (h1 : i < xs.length) (h2 : i < ys.length) : eqFrom xs ys i = (!diffB xs[i] ys[i] && eqFrom xs ys (i + 1)) := by
  unfold eqFrom
  rw [List.drop_eq_getElem_cons h1, List.drop_eq_getElem_cons h2, List.zip_cons_cons, List.all_cons]
theorem eqFrom_comm (xs ys : List S38) (i : Nat) (hl : xs.length = ys.length) : ∀ (m : Nat), xs.length - i = m → eqFrom xs ys i = eqFrom ys xs i := by
  intro m
  induction m generalizing i with
  | zero =>
    intro hm
    unfold eqFrom
    rw [List.drop_of_length_le (by omega), List.drop_of_length_le (by omega)]
  | succ m ih =>
    intro hm
    rw [eqFrom_step (xs := xs) (ys := ys) (by omega) (by omega), eqFrom_step (xs := ys) (ys := xs) (by omega) (by omega), ih (i + 1) (by omega), diff_comm]
theorem eqt_from (xs ys : List S38) (hl : xs.length = ys.length) (hn : xs.length ≤ 1000000) : ∀ (m i k : Nat), xs.length - i = m → i ≤ xs.length → m < k → api_Token.l0 k xs ys (xs.length : Int) (i : Int) = some (eqFrom xs ys i) := by
  intro m
  induction m with
  | zero =>
    intro i k hm hi hk
    obtain ⟨k, rfl⟩ : ∃ j, k = j + 1 := ⟨k - 1, by omega⟩
    rw [api_Token.l0, if_neg (by omega)]
    unfold eqFrom
    rw [List.drop_of_length_le (by omega)]
    rfl
  | succ m ih =>
    intro i k hm hi hk
    obtain ⟨k, rfl⟩ : ∃ j, k = j + 1 := ⟨k - 1, by omega⟩
    have h1 : i < xs.length := by omega
    have h2 : i < ys.length := by omega
    rw [api_Token.l0, if_pos (by omega), if_pos (by omega), if_pos (by omega), if_pos (by omega), rd_at xs i h1, rd_at ys i h2, eqFrom_step h1 h2]
    show (if diffB xs[i] ys[i] = true then _ else _) = _
    cases diffB xs[i] ys[i] with
    | true => rw [if_pos rfl]; rfl
    | false =>
      rw [if_neg (show ¬ (false = true) by simp), w64 ((i : Int) + 1) (by omega), show (i : Int) + 1 = ((i + 1 : Nat) : Int) by omega, ih (i + 1) k (by omega) (by omega) (by omega)]
      rfl
theorem eqs_from (xs ys : List S38) (hl : xs.length = ys.length) (hn : xs.length ≤ 1000000) : ∀ (m i k : Nat), xs.length - i = m → i ≤ xs.length → m < k → madrigalref01_Same.l0 k xs ys (i : Int) = some (eqFrom xs ys i) := by
  intro m
  induction m with
  | zero =>
    intro i k hm hi hk
    obtain ⟨k, rfl⟩ : ∃ j, k = j + 1 := ⟨k - 1, by omega⟩
    rw [madrigalref01_Same.l0, if_neg (by omega)]
    unfold eqFrom
    rw [List.drop_of_length_le (by omega)]
    rfl
  | succ m ih =>
    intro i k hm hi hk
    obtain ⟨k, rfl⟩ : ∃ j, k = j + 1 := ⟨k - 1, by omega⟩
    have h1 : i < xs.length := by omega
    have h2 : i < ys.length := by omega
    rw [madrigalref01_Same.l0, if_pos (by omega), if_pos (by omega), if_pos (by omega), rd_at xs i h1, rd_at ys i h2, eqFrom_step h1 h2]
    show (if diffB xs[i] ys[i] = true then _ else _) = _
    cases diffB xs[i] ys[i] with
    | true => rw [if_pos rfl]; rfl
    | false =>
      rw [if_neg (show ¬ (false = true) by simp), w64 ((i : Int) + 1) (by omega), show (i : Int) + 1 = ((i + 1 : Nat) : Int) by omega, ih (i + 1) k (by omega) (by omega) (by omega)]
      rfl
theorem eq_both (xs ys : List S38) (hn : xs.length ≤ 1000000) (hm : ys.length ≤ 1000000) (k : Nat) (hk : 1000000 < k) : ∃ b, api_Token.f k xs ys = some b ∧ madrigalref01_Same.f k ys xs = some b := by
  unfold api_Token.f madrigalref01_Same.f
  by_cases h : (xs.length : Int) = (ys.length : Int)
  · rw [if_pos h, if_pos h.symm]
    have a := eqt_from xs ys (by omega) hn xs.length 0 k (by omega) (by omega) (by omega)
    have b := eqs_from ys xs (by omega) hm ys.length 0 k (by omega) (by omega) (by omega)
    rw [show ((0 : Nat) : Int) = 0 from rfl] at a b
    exact ⟨_, a, by rw [b, eqFrom_comm ys xs 0 (by omega) _ rfl]⟩
  · rw [if_neg h, if_neg (fun e => h e.symm)]
    exact ⟨false, rfl, rfl⟩
theorem same_refl (M : List S38) (hm : M.length ≤ 1000000) (k : Nat) (hk : 1000000 < k) : madrigalref01_Same.f k M M = some true := by
  have b := eqs_from M M rfl hm M.length 0 k (by omega) (by omega) (by omega)
  rw [show ((0 : Nat) : Int) = 0 from rfl] at b
  unfold madrigalref01_Same.f
  rw [if_pos rfl, b]
  congr 1
  unfold eqFrom
  rw [List.all_eq_true]
  intro p hp
  rw [zip_self_of, List.mem_map] at hp
  obtain ⟨z, _, rfl⟩ := hp
  rw [(diff_iff z z).2 rfl]
  rfl
/-- BOTH CHANGES. -/
theorem both_change (a E : ByteArray) (ha : (a.size : Int) + (E.size : Int) ≤ 20000) (x : List S38) (hx : x.length ≤ 2000 ∨ x = toksOf a.data.toList) (p q : Int) (hp : -9223372036854775808 ≤ p ∧ p ≤ 9223372036854775807) (hq : -9223372036854775808 ≤ q ∧ q ≤ 9223372036854775807) (K : Nat) (hK : 1000000 < K) :
    ∃ S M at_ e, lex_Change.f K a x p q E = some (S, M, at_, e) ∧ madrigalref01_Change.f K a x p q E = some (S, M, at_, e) ∧ M.length ≤ 20000 := by
  have hf := toks_short a.data.toList
  have hxl : x.length ≤ 1000000 := by
    rcases hx with h | h
    · omega
    · rw [h]; unfold toksOf; rw [List.length_map]; omega
  unfold lex_Change.f madrigalref01_Change.f
  rw [toks_of a (by omega), Option.bind_some, rtoks_of a K (by omega), Option.bind_some]
  dsimp only
  by_cases h0 : ((Lex.tokensL a.data.toList).2.2 : Int) = 0
  · rw [if_pos h0, if_pos h0]
    obtain ⟨b, hb1, hb2⟩ := eq_both ((Lex.tokensL a.data.toList).1.map toS) x (by rw [List.length_map]; omega) hxl K hK
    rw [hb1, Option.bind_some, hb2, Option.bind_some]
    cases b with
    | false => rw [if_neg (show ¬ (false = true) by simp), if_neg (show ¬ (false = true) by simp)]; exact ⟨_, _, _, _, rfl, rfl, by simp⟩
    | true =>
      rw [if_pos rfl, if_pos rfl]
      by_cases h1 : p < 0
      · rw [if_pos h1, if_pos h1]; exact ⟨_, _, _, _, rfl, rfl, by simp⟩
      rw [if_neg h1, if_neg h1]
      by_cases h2 : q < 0
      · rw [if_pos h2, if_pos h2]; exact ⟨_, _, _, _, rfl, rfl, by simp⟩
      rw [if_neg h2, if_neg h2]
      by_cases h3 : p > (a.size : Int)
      · rw [if_pos h3, if_pos h3]; exact ⟨_, _, _, _, rfl, rfl, by simp⟩
      rw [if_neg h3, if_neg h3, w64 ((a.size : Int) - p) (by omega)]
      by_cases h4 : q > (a.size : Int) - p
      · rw [if_pos h4, if_pos h4]; exact ⟨_, _, _, _, rfl, rfl, by simp⟩
      rw [if_neg h4, if_neg h4, w64 (p + q) (by omega)]
      have z1 : (a.extract 0 (p : Int).toNat).size ≤ 20000 := by rw [← size_list, Lib.extract_data, List.length_take, List.length_drop, size_list]; omega
      have z2 : (a.extract (p + q).toNat a.size).size ≤ 20000 := by rw [← size_list, Lib.extract_data, List.length_take, List.length_drop, size_list]; omega
      have z3 : ((a.extract 0 (p : Int).toNat) ++ E).size ≤ 40000 := by rw [ByteArray.size_append]; omega
      have z4 : (((a.extract 0 (p : Int).toNat) ++ E) ++ (a.extract (p + q).toNat a.size)).size ≤ 60000 := by rw [ByteArray.size_append]; omega
      have g1 : 0 ≤ p := by omega
      have g2 : p ≤ (a.size : Int) := by omega
      have g3 : (a.extract 0 (p : Int).toNat).size + E.size ≤ 9223372036854775807 := by omega
      have g4 : 0 ≤ p + q := by omega
      have g5 : p + q ≤ (a.size : Int) := by omega
      have g6 : ((a.extract 0 (p : Int).toNat) ++ E).size + (a.extract (p + q).toNat a.size).size ≤ 9223372036854775807 := by omega
      rw [if_pos g1, if_pos g1, if_pos g2, if_pos g2, if_pos g3, if_pos g3, if_pos g4, if_pos g4, if_pos g5, if_pos g5, if_pos g6, if_pos g6, toks_of _ (by omega), Option.bind_some, rtoks_of _ K (by omega), Option.bind_some]
      exact ⟨_, _, _, _, rfl, rfl, by dsimp only; rw [List.length_map]; exact toks_short _⟩
  · rw [if_neg h0, if_neg h0]
    exact ⟨_, _, _, _, rfl, rfl, by simp⟩
end Go.Proofs.YtglgppkjgodlkaaGreatDoor
