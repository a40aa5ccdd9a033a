/- The pure law of LexPlaces. Conditions: none. -/
import Derived.Test.YtglgppkjgodlkaaGreatDoorLRc
import Derived.Test.YtglgppkjgodlkaaGreatDoorLT7
import Derived.Test.YtglgppkjgodlkaaGreatDoorG21
namespace Go.Proofs.YtglgppkjgodlkaaGreatDoor
open Go.RowKit Go.Proofs.YtglgppkjgodlkaaGreatDoorW.PrintWords Go.Proofs.YtglgppkjgodlkaaGreatDoor.P
set_option linter.unusedVariables false
set_option linter.unusedSimpArgs false

theorem filling_ok (a : ByteArray) (hl : a.size ≤ 20000) {cs : List (Nat × Nat)} (h : Lex.cutL a.data.toList = .done [] cs) (K : Nat) (hK : 500000 < K) : madrigallaw01_filling.f K a = some true := by
  unfold madrigallaw01_filling.f
  rw [rtoks_of a K hK, few_toks_done (by rw [size_list]; omega) h, Option.bind_some, if_pos (show ((0 : Nat) : Int) = 0 from rfl)]
  rfl
theorem places_round (a : ByteArray) (ha : a.size ≤ 20000) (l : List S38) (kd n : Int) (s : Lex.Bytes) (b k i p K : Nat) {cs1 : List (Nat × Nat)} (hlt : i < l.length) (hn : l.length ≤ 20000) (hrd : rd_T38 l (i : Int) = toS ⟨kd, n, s, b, b + k⟩)
    (hpb : p ≤ b) (h2 : Lex.Runs (a.data.toList.drop p) p [] cs1 (a.data.toList.drop b) b) (h3 : Lex.step (a.data.toList.drop b) = .tok kd n s k) (hK : 500010 < K)
    (go : madrigallaw01_LexPlaces.l0 K a ((b + k : Nat) : Int) l (l.length : Int) ((i + 1 : Nat) : Int) = some true) : madrigallaw01_LexPlaces.l0 (K + 3) a (p : Int) l (l.length : Int) (i : Int) = some true := by
  have hk := Lex.step_tok h3
  rw [drop_len] at hk
  have hfill := h2.cut (b - p) (by omega)
  obtain ⟨cs', hfc⟩ := hfill.filled
  have hx1 : (a.extract (p : Int).toNat (b : Int).toNat) = mkB ((a.data.toList.drop p).take (b - p)) := by
    rw [Int.toNat_natCast, Int.toNat_natCast, ← ext_bytes, show p + (b - p) = b by omega]
  have hx2 : a.extract (b : Int).toNat ((b + k : Nat) : Int).toNat = mkB ((a.data.toList.drop b).take k) := by
    rw [Int.toNat_natCast, Int.toNat_natCast, ext_bytes]
  have hw : wrap64 ((i : Int) + 1) = ((i + 1 : Nat) : Int) := by rw [w64 _ (by omega)]; omega
  have hz1 : (mkB ((a.data.toList.drop p).take (b - p))).size ≤ 20000 := by rw [mkB_size, List.length_take, drop_len]; omega
  have hz2 : ((a.data.toList.drop b).take k).length = k := by rw [List.length_take, drop_len]; omega
  rw [madrigallaw01_LexPlaces.l0, if_pos (by omega), if_pos (by omega), if_pos (by omega), hrd]
  show (if (b : Int) < (p : Int) then _ else if ((b + k : Nat) : Int) ≤ (b : Int) then _ else if ((b + k : Nat) : Int) > (a.size : Int) then _ else if 0 ≤ (p : Int) then (if (p : Int) ≤ (b : Int) then (if (b : Int) ≤ (a.size : Int) then ((madrigallaw01_filling.f (K + 2) (a.extract (p : Int).toNat (b : Int).toNat)).bind fun t => madrigallaw01_LexPlaces.j1 (K + 2) a (i : Int) l (l.length : Int) (i : Int) (!t) kd n ⟨s.toArray⟩ (b : Int) ((b + k : Nat) : Int)) else none) else none) else none) = _
  rw [if_neg (by omega), if_neg (by omega), if_neg (by omega), if_pos (by omega), if_pos (by omega), if_pos (by omega), hx1, filling_ok _ hz1 (by rw [mkB_list]; exact hfc) _ (by omega), Option.bind_some, madrigallaw01_LexPlaces.j1, if_neg (by simp)]
  have hj2 : madrigallaw01_LexPlaces.j2 (K + 1) a l (l.length : Int) (i : Int) false kd n ⟨s.toArray⟩ (b : Int) ((b + k : Nat) : Int) = some true := by
    rw [madrigallaw01_LexPlaces.j2, if_neg (show ¬ (false = true) by simp), hw]
    by_cases hk3 : kd = 3
    · rw [if_pos hk3]; exact go
    · have hS : s = (a.data.toList.drop b).take k := by
        rcases Lex.step_form h3 with ⟨_, _, h⟩ | ⟨h, _⟩ | ⟨_, _, h⟩
        · exact h
        · exact absurd h hk3
        · exact h
      rw [if_neg hk3, if_pos (by omega), if_pos (by omega), if_pos (by omega), hx2, if_pos (by rw [hS])]
      exact go
  by_cases h50 : (i : Int) < 50
  · have hkind : Lex.kindL ((a.data.toList.drop b).take k) = kd := Lex.step_kind (Lex.step_alone h3) (by rw [hz2]; omega)
    rw [if_pos h50, if_pos (by omega), if_pos (by omega), if_pos (by omega), hx2, kind_of _ (by rw [mkB_size, hz2]; omega), Option.bind_some, mkB_list, hkind, show (kd != kd) = false by simp]
    exact hj2
  · rw [if_neg h50]
    exact hj2
theorem places_from (a : ByteArray) (ha : a.size ≤ 20000) (ts : List Lex.Tok) (hn : (ts.map toS).length ≤ 20000) : ∀ (m i p K : Nat) (cs : List (Nat × Nat)), (ts.map toS).length - i = m → i ≤ (ts.map toS).length → p ≤ a.size → Lex.Runs (a.data.toList.drop p) p (ts.drop i) cs [] a.size → 3 * m + 500010 < K →
    madrigallaw01_LexPlaces.l0 K a (p : Int) (ts.map toS) ((ts.map toS).length : Int) (i : Int) = some true := by
  intro m
  induction m with
  | zero =>
    intro i p K cs hm hi hp hr hK
    obtain ⟨K, rfl⟩ : ∃ j, K = j + 1 := ⟨K - 1, by omega⟩
    rw [show ts.drop i = [] from List.drop_of_length_le (by rw [List.length_map] at hm; omega)] at hr
    obtain ⟨cs', hc⟩ := hr.filled
    have hx : (a.extract (p : Int).toNat a.size).data.toList = a.data.toList.drop p := by rw [Int.toNat_natCast]; exact rest_data a p
    rw [madrigallaw01_LexPlaces.l0, if_neg (by omega), if_pos (by omega), if_pos (by omega), filling_ok _ (by rw [← size_list, hx, drop_len]; omega) (by rw [hx]; exact hc) K (by omega), Option.bind_some]
  | succ m ih =>
    intro i p K cs hm hi hp hr hK
    obtain ⟨K, rfl⟩ : ∃ j, K = j + 3 := ⟨K - 3, by omega⟩
    have hlt : i < (ts.map toS).length := by omega
    have hlt2 : i < ts.length := by rw [List.length_map] at hlt; exact hlt
    have hrd : rd_T38 (ts.map toS) (i : Int) = toS ts[i] := by
      rw [rd_at _ i hlt, List.getElem_map]
    rw [List.drop_eq_getElem_cons hlt2] at hr
    have hbd := hr.bounds.2 ts[i] (List.mem_cons_self ..)
    obtain ⟨cs1, cs2, k, h1, h2, h3, h4, h5, h6⟩ := hr.split ts[i] _ rfl
    rcases ht : ts[i] with ⟨kd, n, s, b, e⟩
    rw [ht] at hrd h1 h2 h3 h4 h5 hbd
    have h4 : e = b + k := h4
    subst h4
    have h1 : p ≤ b := h1
    have hbe : b + k ≤ a.size := hbd.2.2
    have h2 : Lex.Runs (a.data.toList.drop p) p [] cs1 ((a.data.toList.drop p).drop (b - p)) b := h2
    have h3 : Lex.step ((a.data.toList.drop p).drop (b - p)) = .tok kd n s k := h3
    have h5 : Lex.Runs ((a.data.toList.drop p).drop (b + k - p)) (b + k) (ts.drop (i + 1)) cs2 [] a.size := h5
    rw [List.drop_drop, show p + (b - p) = b by omega] at h2 h3
    rw [List.drop_drop, show p + (b + k - p) = b + k by omega] at h5
    exact places_round a ha _ kd n s b k i p K hlt hn hrd h1 h2 h3 (by omega) (ih (i + 1) (b + k) K cs2 (by omega) (by omega) hbe h5 (by omega))
theorem pure_LexPlaces : P.madrigallaw01_LexPlaces.Pure := by
  intro a ha
  obtain ⟨K, hK⟩ : ∃ K : Nat, 600000 < K := ⟨600001, by omega⟩
  refine ⟨K + 2, ?_⟩
  unfold madrigallaw01_LexPlaces.f
  rw [show madrigallaw01_sane.f = some true from rfl, Option.bind_some, if_pos rfl, short_one K _ ha, Option.bind_some]
  by_cases hs : (a.size : Int) ≤ 20000
  case neg => rw [if_neg (by rw [decide_eq_false hs]; simp)]
  have hl : a.data.toList.length ≤ 20000 := by rw [size_list]; omega
  rw [if_pos (decide_eq_true hs), toks_of a ha, Option.bind_some]
  cases hc : Lex.cutL a.data.toList with
  | err p =>
    have hp := (Lex.cut_ahead hc).1
    rw [size_list] at hp
    rw [few_toks_err hl hc, if_neg (show ¬ ((10 : Nat) : Int) = 0 by decide), if_pos (show ((([] : List Lex.Tok).map toS).length : Int) = 0 from rfl), if_pos (show ((p : Nat) : Int) ≥ 0 by omega), decide_eq_true (show ((p : Nat) : Int) < mx (a.size : Int) 1 by unfold mx; omega)]
  | done ts cs =>
    have hfew := cut_few hc
    have hr := Lex.cut_done hc
    rw [size_list] at hr
    rw [few_toks_done hl hc, if_pos (show ((0 : Nat) : Int) = 0 from rfl)]
    rw [size_list] at hfew
    have hn : (ts.map toS).length ≤ 20000 := by rw [List.length_map]; omega
    exact places_from a (by omega) ts hn (ts.map toS).length 0 0 (K + 2) cs rfl (Nat.zero_le _) (Nat.zero_le _) (by rw [List.drop_zero, List.drop_zero]; exact hr) (by omega)
end Go.Proofs.YtglgppkjgodlkaaGreatDoor
