/- The pure law of LexBlanks. Conditions: none. -/
import Derived.Test.YtglgppkjgodlkaaGreatDoorLRc
import Derived.Test.YtglgppkjgodlkaaGreatDoorLT9
import Derived.Test.YtglgppkjgodlkaaGreatDoorG20
namespace Go.Proofs.YtglgppkjgodlkaaGreatDoor
open Go.RowKit Go.Proofs.YtglgppkjgodlkaaGreatDoorW.PrintWords Go.Proofs.YtglgppkjgodlkaaGreatDoor.P
set_option linter.unusedVariables false
set_option linter.unusedSimpArgs false

theorem filling_some (a : ByteArray) (hl : a.size ≤ 20000) (K : Nat) (hK : 500000 < K) : ∃ b, madrigallaw01_filling.f K a = some b ∧ (b = true → ∃ cs, Lex.cutL a.data.toList = .done [] cs) := by
  unfold madrigallaw01_filling.f
  rw [rtoks_of a K hK, Option.bind_some]
  cases hc : Lex.cutL a.data.toList with
  | err p =>
    rw [few_toks_err (by rw [size_list]; omega) hc, if_neg (show ¬ ((10 : Nat) : Int) = 0 by decide)]
    exact ⟨false, rfl, fun h => by cases h⟩
  | done ts cs =>
    rw [few_toks_done (by rw [size_list]; omega) hc, if_pos (show ((0 : Nat) : Int) = 0 from rfl)]
    refine ⟨_, rfl, fun h => ?_⟩
    dsimp only at h
    rw [List.length_map] at h
    have : ts.length = 0 := by simpa using h
    rw [List.eq_nil_of_length_eq_zero this]
    exact ⟨cs, rfl⟩
theorem like_same (a b : Int) (c : ByteArray) (d e d' e' : Int) : madrigalref01_Like.f a b c d e a b c d' e' = some true := by
  unfold madrigalref01_Like.f
  simp
theorem blanks_round (F : ByteArray) (l m : List S38) (kk : Int) (i K : Nat) (kd n : Int) (s : Lex.Bytes) (b e : Nat) (hi : i < m.length) (hi2 : i < l.length) (hn : m.length ≤ 20000) (hF : F.size ≤ 20000) (hb : b ≤ 20000) (he : e ≤ 20000) (h1 : rd_T38 l (i : Int) = toS ⟨kd, n, s, b, e⟩)
    (h2 : rd_T38 m (i : Int) = toS (if (i : Int) ≥ kk then ⟨kd, n, s, b + (F.size + 2), e + (F.size + 2)⟩ else ⟨kd, n, s, b, e⟩)) (go : madrigallaw01_LexBlanks.l0 K F l kk m (m.length : Int) ((i + 1 : Nat) : Int) = some true) :
    madrigallaw01_LexBlanks.l0 (K + 1) F l kk m (m.length : Int) (i : Int) = some true := by
  rw [madrigallaw01_LexBlanks.l0, if_pos (by omega), if_pos (by omega), if_pos (by omega)]
  by_cases g : (i : Int) ≥ kk
  · rw [if_pos g] at h2
    rw [if_pos g, if_pos (by omega), h1, h2]
    show ((madrigalref01_Like.f kd n ⟨s.toArray⟩ ((b + (F.size + 2) : Nat) : Int) ((e + (F.size + 2) : Nat) : Int) kd n ⟨s.toArray⟩ (b : Int) (e : Int)).bind fun t => if t = true then (if ((b + (F.size + 2) : Nat) : Int) = wrap64 ((b : Int) + wrap64 ((F.size : Int) + 2)) then (if ((e + (F.size + 2) : Nat) : Int) = wrap64 ((e : Int) + wrap64 ((F.size : Int) + 2)) then madrigallaw01_LexBlanks.l0 K F l kk m (m.length : Int) (wrap64 ((i : Int) + 1)) else some false) else some false) else some false) = some true
    rw [like_same, Option.bind_some, if_pos rfl, w64 ((F.size : Int) + 2) (by omega), w64 ((b : Int) + ((F.size : Int) + 2)) (by omega), w64 ((e : Int) + ((F.size : Int) + 2)) (by omega), w64 ((i : Int) + 1) (by omega), if_pos (by omega), if_pos (by omega), show (i : Int) + 1 = ((i + 1 : Nat) : Int) by omega]
    exact go
  · rw [if_neg g] at h2
    rw [if_neg g, if_pos (by omega), h1, h2]
    show ((madrigalref01_Like.f kd n ⟨s.toArray⟩ (b : Int) (e : Int) kd n ⟨s.toArray⟩ (b : Int) (e : Int)).bind fun t => if t = true then (if (b : Int) = wrap64 ((b : Int) + 0) then (if (e : Int) = wrap64 ((e : Int) + 0) then madrigallaw01_LexBlanks.l0 K F l kk m (m.length : Int) (wrap64 ((i : Int) + 1)) else some false) else some false) else some false) = some true
    rw [like_same, Option.bind_some, if_pos rfl, w64 ((b : Int) + 0) (by omega), w64 ((e : Int) + 0) (by omega), w64 ((i : Int) + 1) (by omega), if_pos (by omega), if_pos (by omega), show (i : Int) + 1 = ((i + 1 : Nat) : Int) by omega]
    exact go
theorem blanks_from (F : ByteArray) (hF : F.size ≤ 20000) (ts : List Lex.Tok) (hb : ∀ t ∈ ts, t.b ≤ 20000 ∧ t.e ≤ 20000) (k : Nat) (hk : k ≤ ts.length) (hn : ts.length ≤ 20000) (l m : List S38) (hl : l = ts.map toS) (hm : m = (ts.take k ++ (ts.drop k).map (Lex.Tok.by (F.size + 2))).map toS) : ∀ (n i K : Nat), m.length - i = n → i ≤ m.length → n < K →
    madrigallaw01_LexBlanks.l0 K F l (k : Int) m (m.length : Int) (i : Int) = some true := by
  have hml : m.length = ts.length := by rw [hm]; simp; omega
  have hll : l.length = ts.length := by rw [hl]; simp
  intro n
  induction n with
  | zero =>
    intro i K hn2 hi hK
    obtain ⟨K, rfl⟩ : ∃ j, K = j + 1 := ⟨K - 1, by omega⟩
    rw [madrigallaw01_LexBlanks.l0, if_neg (by omega)]
  | succ n ih =>
    intro i K hn2 hi hK
    obtain ⟨K, rfl⟩ : ∃ j, K = j + 1 := ⟨K - 1, by omega⟩
    have hlt : i < ts.length := by omega
    have hbi := hb ts[i] (List.getElem_mem hlt)
    have h1 : rd_T38 l (i : Int) = toS ts[i] := by
      rw [rd_at l i (by omega)]
      simp [hl]
    have h2 : rd_T38 m (i : Int) = toS (if (i : Int) ≥ (k : Int) then Lex.Tok.by (F.size + 2) ts[i] else ts[i]) := by
      rw [rd_at m i (by omega)]
      by_cases g : (i : Int) ≥ (k : Int)
      · rw [if_pos g]
        have hlen : (ts.take k).length = k := by rw [List.length_take]; omega
        simp only [hm, List.getElem_map]
        rw [List.getElem_append_right (by omega)]
        simp only [List.getElem_map, List.getElem_drop, hlen]
        congr 2
        congr 1
        omega
      · rw [if_neg g]
        have hlen : (ts.take k).length = k := by rw [List.length_take]; omega
        simp only [hm, List.getElem_map]
        rw [List.getElem_append_left (by omega), List.getElem_take]
    have go := ih (i + 1) K (by omega) (by omega) (by omega)
    rcases ht : ts[i] with ⟨kd, nn, s, b, e⟩
    rw [ht] at h1 h2 hbi
    exact blanks_round F l m (k : Int) i K kd nn s b e (by omega) (by omega) (by omega) hF hbi.1 hbi.2 h1 h2 go
theorem u64_of (n : Int) (h : 0 ≤ n ∧ n < 18446744073709551616) : IntKind.u64.wrap n = n := by
  simp [IntKind.wrap, IntKind.bits, IntKind.signed]
  omega
theorem u64_range (n : Int) : 0 ≤ IntKind.u64.wrap n ∧ IntKind.u64.wrap n < 18446744073709551616 := by
  simp [IntKind.wrap, IntKind.bits, IntKind.signed]
  omega
theorem pick_of (which : Int) (n : Nat) (hn : n ≤ 20000) : ∃ k : Nat, k ≤ n ∧ IntKind.u64.wrap (wrap64 ((n : Int) + 1)) ≠ 0 ∧ wrap64 (Int.tmod (IntKind.u64.wrap which) (IntKind.u64.wrap (wrap64 ((n : Int) + 1)))) = (k : Int) := by
  rw [w64 ((n : Int) + 1) (by omega), u64_of ((n : Int) + 1) (by omega)]
  obtain ⟨h1, h2⟩ := u64_range which
  have h3 := Int.tmod_nonneg ((n : Int) + 1) h1
  have h4 := Int.tmod_lt_of_pos (IntKind.u64.wrap which) (show 0 < (n : Int) + 1 by omega)
  generalize Int.tmod (IntKind.u64.wrap which) ((n : Int) + 1) = z at *
  exact ⟨z.toNat, by omega, by omega, by rw [w64 z (by omega)]; omega⟩
theorem blanks_j1 (a F : ByteArray) (ha : (a.size : Int) + (F.size : Int) ≤ 20000) (ts : List Lex.Tok) (cs cf : List (Nat × Nat)) (hc : Lex.cutL a.data.toList = .done ts cs) (hf : Lex.cutL F.data.toList = .done [] cf) (k K : Nat) (hk : k ≤ ts.length) (hK : 30000 < K) :
    madrigallaw01_LexBlanks.j1 (K + 3) a F (ts.map toS) (k : Int) ((Lex.startAt ts a.size k : Nat) : Int) = some true := by
  have hfew := cut_few hc
  have hbd := (Lex.cut_done hc).bounds
  have hsp := Lex.Runs.split_at k (Lex.cut_done hc) (by omega) hk
  obtain ⟨cs', hcut⟩ := Lex.blanks_cut hc hf k hk
  rw [size_list] at hfew hbd hsp hcut
  obtain ⟨_, _, _, hle, _, _⟩ := hsp
  rw [size_list] at hcut
  generalize Lex.startAt ts a.size k = p at *
  have hx : ((((a.extract 0 (p : Int).toNat ++ (⟨#[32]⟩ : ByteArray)) ++ F) ++ (⟨#[32]⟩ : ByteArray)) ++ a.extract (p : Int).toNat a.size).data.toList = a.data.toList.take p ++ 32 :: (F.data.toList ++ 32 :: a.data.toList.drop p) := by
    have e1 := Lib.extract_data a 0 p
    have e2 := rest_data a p
    rw [List.drop_zero, Nat.sub_zero] at e1
    have e3 : rest a p = a.data.toList.drop p := rfl
    rw [e3] at e2
    rw [Int.toNat_natCast]
    simp [e1, e2]
    exact List.take_of_length_le (by rw [List.length_drop, size_list]; omega)
  have z1 : (a.extract 0 (p : Int).toNat).size = p := by rw [← size_list, Lib.extract_data, List.length_take, List.length_drop, size_list]; omega
  have z2 : (a.extract (p : Int).toNat a.size).size = a.size - p := by rw [← size_list, Lib.extract_data, List.length_take, List.length_drop, size_list]; omega
  have zb : (⟨#[32]⟩ : ByteArray).size = 1 := rfl
  have hlen : (a.data.toList.take p ++ 32 :: (F.data.toList ++ 32 :: a.data.toList.drop p)).length = a.size + F.size + 2 := by
    rw [List.length_append, List.length_cons, List.length_append, List.length_cons, List.length_take, List.length_drop, size_list, size_list]; omega
  have htl : (ts.take k ++ (ts.drop k).map (Lex.Tok.by (F.size + 2))).length = ts.length := by simp; omega
  have htk : Lex.tokensL (a.data.toList.take p ++ 32 :: (F.data.toList ++ 32 :: a.data.toList.drop p)) = (ts.take k ++ (ts.drop k).map (Lex.Tok.by (F.size + 2)), 0, 0) := by
    rcases toks_cases _ (by rw [hlen]; omega) with ⟨t2, c2, h2, h3, e2⟩ | ⟨t2, c2, h2, h3, e2⟩ | ⟨q, h2, e2⟩
    · rw [hcut] at h2; injection h2 with h2 _; rw [e2, h2]
    · rw [hcut] at h2; injection h2 with h2 _; rw [← h2, htl] at h3; omega
    · rw [hcut] at h2; cases h2
  rw [madrigallaw01_LexBlanks.j1, if_neg (by omega), decide_eq_false (by omega), madrigallaw01_LexBlanks.j2, if_neg (show ¬ (false = true) by simp), if_pos (by omega), if_pos (by omega), if_pos (by rw [z1]; omega), if_pos (by rw [ByteArray.size_append, z1, zb]; omega), if_pos (by rw [ByteArray.size_append, ByteArray.size_append, z1, zb]; omega),
    if_pos (by rw [ByteArray.size_append, ByteArray.size_append, ByteArray.size_append, z1, z2, zb]; omega), toks_of _ (by rw [← size_list, hx, hlen]; omega), Option.bind_some, hx, htk, if_pos (show ((0 : Nat) : Int) = 0 from rfl)]
  dsimp only
  have hne : (((((ts.take k ++ (ts.drop k).map (Lex.Tok.by (F.size + 2))).map toS).length : Nat) : Int) != ((ts.map toS).length : Int)) = false := by
    rw [List.length_map, List.length_map, htl]; simp
  rw [hne, madrigallaw01_LexBlanks.j3, if_neg (show ¬ (false = true) by simp)]
  exact blanks_from F (by omega) ts (fun t ht => by have := hbd.2 t ht; omega) k hk (by omega) _ _ rfl rfl _ 0 K rfl (Nat.zero_le _) (by rw [List.length_map, htl]; omega)
theorem blanks_j0 (a F : ByteArray) (ha : (a.size : Int) + (F.size : Int) ≤ 20000) (which : Int) (cf : List (Nat × Nat)) (hf : Lex.cutL F.data.toList = .done [] cf) (K : Nat) (hK : 30000 < K) : madrigallaw01_LexBlanks.j0 (K + 4) a F which false = some true := by
  have hl : a.data.toList.length ≤ 20000 := by rw [size_list]; omega
  rw [madrigallaw01_LexBlanks.j0, if_neg (show ¬ (false = true) by simp), toks_of a (by omega), Option.bind_some]
  cases hc : Lex.cutL a.data.toList with
  | err p =>
    rw [few_toks_err hl hc, if_neg (show ¬ ((10 : Nat) : Int) = 0 by decide)]
    rfl
  | done ts cs =>
    have hfew := cut_few hc
    rw [few_toks_done hl hc, if_pos (show ((0 : Nat) : Int) = 0 from rfl)]
    dsimp only
    rw [List.length_map]
    obtain ⟨k, hk, hne, he⟩ := pick_of which ts.length (by omega)
    have go := blanks_j1 a F ha ts cs cf hc hf k K hk hK
    rw [if_neg hne, he]
    clear he hne
    by_cases hlt : (k : Int) < (ts.length : Int)
    · have hlt2 : k < ts.length := by omega
      have e : Lex.startAt ts a.size k = ts[k].b := by unfold Lex.startAt; rw [List.getElem?_eq_getElem hlt2]
      rw [e] at go
      rw [if_pos hlt, if_pos (by omega), rd_at _ k (by rw [List.length_map]; omega), List.getElem_map]
      exact go
    · obtain rfl : k = ts.length := by omega
      have e : Lex.startAt ts a.size ts.length = a.size := by unfold Lex.startAt; rw [List.getElem?_eq_none (Nat.le_refl _)]
      rw [e] at go
      rw [if_neg hlt]
      exact go
theorem pure_LexBlanks : P.madrigallaw01_LexBlanks.Pure := by
  intro a F which ha hF hw
  obtain ⟨K, hK⟩ : ∃ K : Nat, 600000 < K := ⟨600001, by omega⟩
  refine ⟨K + 4, ?_⟩
  have ht : madrigallaw01_LexBlanks.j0 (K + 4) a F which true = some true := by
    rw [madrigallaw01_LexBlanks.j0, if_pos rfl]
  unfold madrigallaw01_LexBlanks.f
  rw [show madrigallaw01_sane.f = some true from rfl, Option.bind_some, if_pos rfl, short_two (K + 1) _ _ ha hF, Option.bind_some]
  by_cases hs : (a.size : Int) + (F.size : Int) ≤ 20000
  case neg =>
    rw [if_neg (by rw [decide_eq_false hs]; simp)]
    exact ht
  rw [if_pos (decide_eq_true hs)]
  obtain ⟨b, hb, hcf⟩ := filling_some F (by omega) (K + 4) (by omega)
  rw [hb, Option.bind_some]
  cases b with
  | false =>
    rw [if_neg (show ¬ (false = true) by simp)]
    exact ht
  | true =>
    obtain ⟨cf, hf⟩ := hcf rfl
    rw [if_pos rfl]
    cases he : (F.toList == ([] : List UInt8)) with
    | true => exact ht
    | false => exact blanks_j0 a F hs which cf hf K (by omega)
end Go.Proofs.YtglgppkjgodlkaaGreatDoor
