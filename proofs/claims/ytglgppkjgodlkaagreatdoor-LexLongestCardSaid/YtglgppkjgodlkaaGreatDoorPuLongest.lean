/- The pure law of LexLongest. Conditions: none. -/
import Derived.Test.YtglgppkjgodlkaaGreatDoorLRk
import Derived.Test.YtglgppkjgodlkaaGreatDoorLT7
import Derived.Test.YtglgppkjgodlkaaGreatDoorG20
namespace Go.Proofs.YtglgppkjgodlkaaGreatDoor
open Go.RowKit Go.Proofs.YtglgppkjgodlkaaGreatDoorW.PrintWords Go.Proofs.YtglgppkjgodlkaaGreatDoor.P
set_option linter.unusedVariables false
set_option linter.unusedSimpArgs false

theorem longest_round (a : ByteArray) (ha : a.size ≤ 20000) (l : List S38) (kd n : Int) (s : Lex.Bytes) (b k i K : Nat) (hlt : i < l.length) (hn : l.length ≤ 20000) (hrd : rd_T38 l (i : Int) = toS ⟨kd, n, s, b, b + k⟩) (hs : Lex.step (a.data.toList.drop b) = .tok kd n s k) (hK : 500010 < K)
    (go : madrigallaw01_LexLongest.l0 K a l (l.length : Int) ((i + 1 : Nat) : Int) = some true) : madrigallaw01_LexLongest.l0 (K + 2) a l (l.length : Int) (i : Int) = some true := by
  have hk := Lex.step_tok hs
  have hkd := Lex.step_kd hs
  rw [drop_len] at hk
  rw [madrigallaw01_LexLongest.l0, if_pos (by omega), if_pos (by omega), if_pos (by omega), hrd]
  by_cases h300 : (i : Int) > 300
  · rw [if_pos h300]
  · rw [if_neg h300]
    show (if ((b + k : Nat) : Int) < 0 then _ else if ((b + k : Nat) : Int) > (a.size : Int) then _ else if (b : Int) < 0 then _ else madrigallaw01_LexLongest.j1 (K + 1) a l (l.length : Int) (i : Int) (decide ((b : Int) > ((b + k : Nat) : Int))) kd n ⟨s.toArray⟩ (b : Int) ((b + k : Nat) : Int)) = _
    rw [if_neg (by omega), if_neg (by omega), if_neg (by omega), decide_eq_false (by omega), madrigallaw01_LexLongest.j1, if_neg (show ¬ (false = true) by simp), show wrap64 ((i : Int) + 1) = ((i + 1 : Nat) : Int) from (by rw [w64 _ (by omega)]; omega)]
    by_cases hend : ((b + k : Nat) : Int) < (a.size : Int)
    · have hx : a.extract ((b : Int)).toNat (((b + k : Nat) : Int) + 1).toNat = mkB ((a.data.toList.drop b).take (k + 1)) := by
        rw [Int.toNat_natCast, show (((b + k : Nat) : Int) + 1).toNat = b + (k + 1) by omega, ext_bytes]
      have hz : (a.data.toList.drop b).length = a.size - b := drop_len a _
      have hlen : k < (a.data.toList.drop b).length := by omega
      have hne : ¬ ((0 : Int) = kd) := by omega
      rw [if_pos hend, w64 (((b + k : Nat) : Int) + 1) (by omega), if_pos (by omega), if_pos (by omega), if_pos (by omega), hx, rkind_of _ K (by omega), Option.bind_some, mkB_list, Lex.kind_longer hs hlen, if_neg hne]
      exact go
    · rw [if_neg hend]
      exact go
theorem longest_from (a : ByteArray) (ha : a.size ≤ 20000) (ts : List Lex.Tok) (cs : List (Nat × Nat)) (hc : Lex.cutL a.data.toList = .done ts cs) (hn : (ts.map toS).length ≤ 20000) : ∀ (m i K : Nat), (ts.map toS).length - i = m → i ≤ (ts.map toS).length → 2 * m + 500010 < K →
    madrigallaw01_LexLongest.l0 K a (ts.map toS) ((ts.map toS).length : Int) (i : Int) = some true := by
  intro m
  induction m with
  | zero =>
    intro i K hm hi hK
    obtain ⟨K, rfl⟩ : ∃ j, K = j + 1 := ⟨K - 1, by omega⟩
    rw [madrigallaw01_LexLongest.l0, if_neg (by omega)]
  | succ m ih =>
    intro i K hm hi hK
    obtain ⟨K, rfl⟩ : ∃ j, K = j + 2 := ⟨K - 2, by omega⟩
    have hlt : i < (ts.map toS).length := by omega
    have hlt2 : i < ts.length := by rw [List.length_map] at hlt; exact hlt
    have go := ih (i + 1) K (by omega) (by omega) (by omega)
    have hrd : rd_T38 (ts.map toS) (i : Int) = toS ts[i] := by
      rw [rd_at _ i hlt, List.getElem_map]
    obtain ⟨k, hs, he⟩ := (Lex.cut_done hc).step_at _ (List.getElem_mem hlt2)
    rcases ht : ts[i] with ⟨kd, n, s, b, e⟩
    rw [ht] at hs he hrd
    rw [Nat.sub_zero] at hs
    have he : e = b + k := he
    subst he
    exact longest_round a ha _ kd n s b k i K hlt hn hrd hs (by omega) go
theorem pure_LexLongest : P.madrigallaw01_LexLongest.Pure := by
  intro a ha
  obtain ⟨K, hK⟩ : ∃ K : Nat, 600000 < K := ⟨600001, by omega⟩
  refine ⟨K + 2, ?_⟩
  unfold madrigallaw01_LexLongest.f
  rw [show madrigallaw01_sane.f = some true from rfl, Option.bind_some, if_pos rfl, short_one K _ ha, Option.bind_some]
  by_cases hs : (a.size : Int) ≤ 20000
  case neg => rw [if_neg (by rw [decide_eq_false hs]; simp)]
  have hl : a.data.toList.length ≤ 20000 := by rw [size_list]; omega
  rw [if_pos (decide_eq_true hs), toks_of a ha, Option.bind_some]
  cases hc : Lex.cutL a.data.toList with
  | err p => rw [few_toks_err hl hc, if_neg (show ¬ ((10 : Nat) : Int) = 0 by decide)]
  | done ts cs =>
    have hfew := cut_few hc
    rw [few_toks_done hl hc, if_pos (show ((0 : Nat) : Int) = 0 from rfl)]
    rw [size_list] at hfew
    have hn : (ts.map toS).length ≤ 20000 := by rw [List.length_map]; omega
    exact longest_from a (by omega) ts cs hc hn (ts.map toS).length 0 (K + 2) rfl (Nat.zero_le _) (by omega)
end Go.Proofs.YtglgppkjgodlkaaGreatDoor
