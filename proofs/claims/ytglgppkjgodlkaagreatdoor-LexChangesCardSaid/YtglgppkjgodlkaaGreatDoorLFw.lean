/- What the law's few computes (PuBack bears the same rows). Conditions: none. -/
import Derived.Test.YtglgppkjgodlkaaGreatDoorLU
import Derived.Test.YtglgppkjgodlkaaGreatDoorG13
namespace Go.Proofs.YtglgppkjgodlkaaGreatDoor
open Go.RowKit Go.Proofs.YtglgppkjgodlkaaGreatDoorW.PrintWords Go.Proofs.YtglgppkjgodlkaaGreatDoor.P
set_option linter.unusedVariables false
set_option linter.unusedSimpArgs false
def sumS : List S38 → Nat
  | [] => 0
  | x :: l => x.f2.size + sumS l
theorem sumS_mem : ∀ {l : List S38} {x : S38}, x ∈ l → x.f2.size ≤ sumS l
  | y :: l, x, h => by
    rw [sumS]
    rcases List.mem_cons.1 h with rfl | h
    · omega
    · have := sumS_mem h; omega
theorem few_long (l : List S38) (hl : 2000 < l.length) (hm : l.length ≤ 9223372036854775807) : ∀ (m i K : Nat) (n : Int), l.length - i = m → i ≤ l.length → m < K → madrigallaw01_few.l0 K l n l (l.length : Int) (i : Int) = some false := by
  intro m
  induction m with
  | zero =>
    intro i K n hmi hi hK
    obtain ⟨K, rfl⟩ : ∃ j, K = j + 1 := ⟨K - 1, by omega⟩
    rw [madrigallaw01_few.l0, if_neg (by omega), if_neg (by omega)]
  | succ m ih =>
    intro i K n hmi hi hK
    obtain ⟨K, rfl⟩ : ∃ j, K = j + 1 := ⟨K - 1, by omega⟩
    rw [madrigallaw01_few.l0, if_pos (by omega), if_pos (by omega), if_pos (by omega), w64 ((i : Int) + 1) (by omega), show (i : Int) + 1 = ((i + 1 : Nat) : Int) by omega]
    exact ih (i + 1) K _ (by omega) (by omega) (by omega)
theorem few_short (l : List S38) (hl : l.length ≤ 2000) (hs : ∀ x ∈ l, x.f2.size ≤ 140737488351232) : ∀ (m i n K : Nat), l.length - i = m → i ≤ l.length → m < K → n ≤ 140737488351232 * i → madrigallaw01_few.l0 K l (n : Int) l (l.length : Int) (i : Int) = some (decide (n + sumS (l.drop i) ≤ 20000)) := by
  intro m
  induction m with
  | zero =>
    intro i n K hmi hi hK hn
    obtain ⟨K, rfl⟩ : ∃ j, K = j + 1 := ⟨K - 1, by omega⟩
    rw [madrigallaw01_few.l0, if_neg (by omega), if_pos (by omega), List.drop_of_length_le (by omega), sumS]
    congr 1
    rw [decide_eq_decide]
    omega
  | succ m ih =>
    intro i n K hmi hi hK hn
    obtain ⟨K, rfl⟩ : ∃ j, K = j + 1 := ⟨K - 1, by omega⟩
    have hlt : i < l.length := by omega
    have hx := hs l[i] (List.getElem_mem hlt)
    rw [madrigallaw01_few.l0, if_pos (by omega), if_pos (by omega), if_pos (by omega), rd_at l i hlt, List.drop_eq_getElem_cons hlt, sumS]
    generalize l[i].f2.size = z at *
    rw [w64 ((n : Int) + (z : Int)) (by omega), w64 ((i : Int) + 1) (by omega), show (i : Int) + 1 = ((i + 1 : Nat) : Int) by omega, show (n : Int) + (z : Int) = ((n + z : Nat) : Int) by omega, ih (i + 1) (n + z) K (by omega) (by omega) (by omega) (by omega), Nat.add_assoc]
theorem few_of (l : List S38) (hm : l.length ≤ 9223372036854775807) (hs : ∀ x ∈ l, x.f2.size ≤ 140737488351232) (K : Nat) (hK : l.length < K) : ∃ b, madrigallaw01_few.f K l = some b ∧ (b = true → l.length ≤ 2000 ∧ sumS l ≤ 20000) := by
  unfold madrigallaw01_few.f
  by_cases h : l.length ≤ 2000
  · have := few_short l h hs l.length 0 0 K (by omega) (by omega) hK (by omega)
    rw [show ((0 : Nat) : Int) = 0 from rfl, List.drop_zero] at this
    rw [this]
    exact ⟨_, rfl, fun h2 => ⟨h, by simpa using h2⟩⟩
  · have := few_long l (by omega) hm l.length 0 K 0 (by omega) (by omega) hK
    rw [show ((0 : Nat) : Int) = 0 from rfl] at this
    rw [this]
    exact ⟨false, rfl, fun h => by cases h⟩
end Go.Proofs.YtglgppkjgodlkaaGreatDoor
