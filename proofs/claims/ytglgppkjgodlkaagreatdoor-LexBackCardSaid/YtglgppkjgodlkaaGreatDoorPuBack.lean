/- The pure law of LexBack, and its walk. Conditions: none. -/
import Derived.Test.YtglgppkjgodlkaaGreatDoorLJn
import Derived.Test.YtglgppkjgodlkaaGreatDoorLRc
import Derived.Test.YtglgppkjgodlkaaGreatDoorLX2
import Derived.Test.YtglgppkjgodlkaaGreatDoorG18
namespace Go.Proofs.YtglgppkjgodlkaaGreatDoor
open Go.RowKit Go.Proofs.YtglgppkjgodlkaaGreatDoorW.PrintWords Go.Proofs.YtglgppkjgodlkaaGreatDoor.P
set_option linter.unusedVariables false
set_option linter.unusedSimpArgs false

def sumS : List S38 → Nat
  | [] => 0
  | x :: l => x.f2.size + sumS l
theorem sumS_mem : ∀ {l : List S38} {x : S38}, x ∈ l → x.f2.size ≤ sumS l
  | y :: l, x, h => by
    rw [sumS]
    rcases List.mem_cons.1 h with rfl | h
    · omega
    · have := sumS_mem h; omega
theorem few_long (l : List S38) (hl : 2000 < l.length) (hm : l.length ≤ 9223372036854775807) : ∀ (m i K : Nat) (n : Int), l.length - i = m → i ≤ l.length → m < K → madrigallaw01_few.l0 K l n l (l.length : Int) (i : Int) = some false := by
  intro m
  induction m with
  | zero =>
    intro i K n hmi hi hK
    obtain ⟨K, rfl⟩ : ∃ j, K = j + 1 := ⟨K - 1, by omega⟩
    rw [madrigallaw01_few.l0, if_neg (by omega), if_neg (by omega)]
  | succ m ih =>
    intro i K n hmi hi hK
    obtain ⟨K, rfl⟩ : ∃ j, K = j + 1 := ⟨K - 1, by omega⟩
    rw [madrigallaw01_few.l0, if_pos (by omega), if_pos (by omega), if_pos (by omega), w64 ((i : Int) + 1) (by omega), show (i : Int) + 1 = ((i + 1 : Nat) : Int) by omega]
    exact ih (i + 1) K _ (by omega) (by omega) (by omega)
theorem few_short (l : List S38) (hl : l.length ≤ 2000) (hs : ∀ x ∈ l, x.f2.size ≤ 140737488351232) : ∀ (m i n K : Nat), l.length - i = m → i ≤ l.length → m < K → n ≤ 140737488351232 * i → madrigallaw01_few.l0 K l (n : Int) l (l.length : Int) (i : Int) = some (decide (n + sumS (l.drop i) ≤ 20000)) := by
  intro m
  induction m with
  | zero =>
    intro i n K hmi hi hK hn
    obtain ⟨K, rfl⟩ : ∃ j, K = j + 1 := ⟨K - 1, by omega⟩
    rw [madrigallaw01_few.l0, if_neg (by omega), if_pos (by omega), List.drop_of_length_le (by omega), sumS]
    congr 1
    rw [decide_eq_decide]
    omega
  | succ m ih =>
    intro i n K hmi hi hK hn
    obtain ⟨K, rfl⟩ : ∃ j, K = j + 1 := ⟨K - 1, by omega⟩
    have hlt : i < l.length := by omega
    have hx := hs l[i] (List.getElem_mem hlt)
    rw [madrigallaw01_few.l0, if_pos (by omega), if_pos (by omega), if_pos (by omega), rd_lt l i hlt, List.drop_eq_getElem_cons hlt, sumS]
    generalize l[i].f2.size = z at *
    rw [w64 ((n : Int) + (z : Int)) (by omega), w64 ((i : Int) + 1) (by omega), show (i : Int) + 1 = ((i + 1 : Nat) : Int) by omega, show (n : Int) + (z : Int) = ((n + z : Nat) : Int) by omega, ih (i + 1) (n + z) K (by omega) (by omega) (by omega) (by omega), Nat.add_assoc]
theorem few_of (l : List S38) (hm : l.length ≤ 9223372036854775807) (hs : ∀ x ∈ l, x.f2.size ≤ 140737488351232) (K : Nat) (hK : l.length < K) : ∃ b, madrigallaw01_few.f K l = some b ∧ (b = true → l.length ≤ 2000 ∧ sumS l ≤ 20000) := by
  unfold madrigallaw01_few.f
  by_cases h : l.length ≤ 2000
  · have := few_short l h hs l.length 0 0 K (by omega) (by omega) hK (by omega)
    rw [show ((0 : Nat) : Int) = 0 from rfl, List.drop_zero] at this
    rw [this]
    exact ⟨_, rfl, fun h2 => ⟨h, by simpa using h2⟩⟩
  · have := few_long l (by omega) hm l.length 0 K 0 (by omega) (by omega) hK
    rw [show ((0 : Nat) : Int) = 0 from rfl] at this
    rw [this]
    exact ⟨false, rfl, fun h => by cases h⟩
theorem text_of {x : S38} (h : Fine x) : madrigalref01_Text.f x.f0 x.f1 x.f2 x.f3 x.f4 = some (mkB (tk x).txt) := written_of h
theorem rlike (t : Lex.Tok) (x : S38) : ∃ b, madrigalref01_Like.f (toS t).f0 (toS t).f1 (toS t).f2 (toS t).f3 (toS t).f4 x.f0 x.f1 x.f2 x.f3 x.f4 = some b ∧ (b = true ↔ Lex.Like t (tk x)) := same_like t x
theorem rright_j0 {x : S38} (h : Fine x) (K : Nat) (hK : 500000 < K) : ∃ b, madrigalref01_Right.j0 (K + 1) false x.f0 x.f1 x.f2 x.f3 x.f4 = some b ∧ (b = true ↔ Lex.Right (tk x)) := by
  have hl := h.len
  have hsz := h.sz
  rw [← Lex.one_right (t := tk x) (by omega)]
  have hz : (mkB (tk x).txt).size = (tk x).txt.length := mkB_size _
  rw [madrigalref01_Right.j0, if_neg (show ¬ (false = true) by simp), text_of h, Option.bind_some, rtoks_of _ K hK, Option.bind_some, mkB_list (tk x).txt]
  rcases ht : Lex.tokensL (tk x).txt with ⟨ts, p, e⟩
  dsimp only
  by_cases he : e = 0
  · subst he
    obtain ⟨rfl, hln, hn, cs, hc⟩ := Lex.tokens_done ht
    rw [if_pos (show ((0 : Nat) : Int) = 0 from rfl), List.length_map]
    by_cases h1 : (ts.length : Int) = 1
    · rw [if_pos h1, if_pos (by omega), Option.bind_some]
      obtain ⟨t, rfl⟩ : ∃ t, ts = [t] := List.length_eq_one_iff.1 (by omega)
      have hrd : rd_T38 (List.map toS [t]) 0 = toS t := rfl
      have hbd := (Lex.cut_done hc).bounds.2 t (by simp)
      obtain ⟨b, hb, hbl⟩ := rlike t x
      have hw : wrap64 ((toS t).f4 - (toS t).f3) = (t.e : Int) - (t.b : Int) := w64 _ (show -9223372036854775808 ≤ (t.e : Int) - (t.b : Int) ∧ (t.e : Int) - (t.b : Int) ≤ 9223372036854775807 by omega)
      rw [hrd, hw, hz]
      by_cases h2 : (t.e : Int) - (t.b : Int) = ((tk x).txt.length : Int)
      · rw [if_pos h2, hb, Option.bind_some]
        refine ⟨b, rfl, ?_⟩
        rw [hbl]
        constructor
        · exact fun h => ⟨t, ht, h, h2⟩
        · rintro ⟨u, hu, h3, _⟩
          rw [ht] at hu
          injection hu with hu _
          injection hu with hu _
          rw [hu]; exact h3
      · rw [if_neg h2]
        refine ⟨false, rfl, by simp, ?_⟩
        rintro ⟨u, hu, _, h3⟩
        rw [ht] at hu
        injection hu with hu _
        injection hu with hu _
        rw [← hu] at h3
        exact absurd h3 h2
    · rw [if_neg h1]
      refine ⟨false, rfl, by simp, ?_⟩
      rintro ⟨u, hu, _⟩
      rw [ht] at hu
      injection hu with hu _
      rw [hu] at h1
      exact absurd rfl h1
  · rw [if_neg (show ¬ ((e : Nat) : Int) = 0 by omega)]
    refine ⟨false, rfl, by simp, ?_⟩
    rintro ⟨u, hu, _⟩
    rw [ht] at hu
    injection hu with _ hu
    injection hu with _ hu
    exact absurd hu he
theorem rright_of {x : S38} (h : Fine x) (K : Nat) (hK : 500000 < K) : ∃ b, madrigalref01_Right.f (K + 1) x.f0 x.f1 x.f2 x.f3 x.f4 = some b ∧ (b = true ↔ Lex.Right (tk x)) := by
  have no : ∀ (hn : ¬ Lex.Right (tk x)), ∃ b, madrigalref01_Right.j0 (K + 1) true x.f0 x.f1 x.f2 x.f3 x.f4 = some b ∧ (b = true ↔ Lex.Right (tk x)) := fun hn => by
    rw [madrigalref01_Right.j0, if_pos rfl]
    exact ⟨false, rfl, by simp, fun h => absurd h hn⟩
  have es : (tk x).s.length = x.f2.size := size_list _
  have big : ∃ b, madrigalref01_Right.j0 (K + 1) (decide ((x.f2.size : Int) > 64)) x.f0 x.f1 x.f2 x.f3 x.f4 = some b ∧ (b = true ↔ Lex.Right (tk x)) := by
    by_cases h64 : (x.f2.size : Int) > 64
    · rw [decide_eq_true h64]
      exact no (fun hr => by have := hr.small.1; omega)
    · rw [decide_eq_false h64]
      exact rright_j0 h K hK
  unfold madrigalref01_Right.f
  by_cases h3 : x.f0 = 3
  · rw [if_pos h3]
    by_cases hn : x.f1 < 0
    · rw [if_pos hn]
      exact no (fun hr => hr.small.2 ⟨h3, hn⟩)
    · rw [if_neg hn]
      exact big
  · rw [if_neg h3]
    exact big
theorem rrights_from (l : List S38) (hl : l.length ≤ 2000) (hf : ∀ x ∈ l, Fine x) : ∀ (m i K : Nat), l.length - i = m → i ≤ l.length → m + 500010 < K → ∃ b, madrigalref01_Rights.l0 K l (i : Int) = some b ∧ (b = true ↔ ∀ t ∈ (l.drop i).map tk, Lex.Right t) := by
  intro m
  induction m with
  | zero =>
    intro i K hmi hi hK
    obtain ⟨K, rfl⟩ : ∃ j, K = j + 1 := ⟨K - 1, by omega⟩
    rw [madrigalref01_Rights.l0, if_neg (by omega), List.drop_of_length_le (by omega)]
    exact ⟨true, rfl, by simp⟩
  | succ m ih =>
    intro i K hmi hi hK
    obtain ⟨K, rfl⟩ : ∃ j, K = j + 2 := ⟨K - 2, by omega⟩
    have hlt : i < l.length := by omega
    obtain ⟨b, hb, hbr⟩ := rright_of (hf l[i] (List.getElem_mem hlt)) K (by omega)
    rw [madrigalref01_Rights.l0, if_pos (by omega), if_pos (by omega), rd_lt l i hlt, hb, Option.bind_some, List.drop_eq_getElem_cons hlt, List.map_cons, List.forall_mem_cons]
    cases b with
    | true =>
      obtain ⟨c, hc, hcr⟩ := ih (i + 1) (K + 1) (by omega) (by omega) (by omega)
      rw [if_pos rfl, w64 ((i : Int) + 1) (by omega), show (i : Int) + 1 = ((i + 1 : Nat) : Int) by omega]
      refine ⟨c, hc, ?_⟩
      rw [hcr]
      exact ⟨fun h => ⟨hbr.1 rfl, h⟩, fun h => h.2⟩
    | false =>
      rw [if_neg (show ¬ (false = true) by simp)]
      exact ⟨false, rfl, by simp, fun h => absurd (hbr.2 h.1) (by simp)⟩
theorem like_dec (xs : List S38) (ts : List Lex.Tok) (hn : xs.length ≤ 2000) (K : Nat) (hK : 2000 < K) : ∃ b, madrigallaw01_like.f K xs (ts.map toS) = some b ∧ (b = true → Lex.Likes ts (xs.map tk)) := by
  unfold madrigallaw01_like.f
  by_cases hl : (xs.length : Int) = ((ts.map toS).length : Int)
  · rw [if_pos hl]
    have hl2 : xs.length = ts.length := by rw [List.length_map] at hl; omega
    have go : ∀ (m i K : Nat), xs.length - i = m → i ≤ xs.length → m < K → ∃ b, madrigallaw01_like.l0 K xs (ts.map toS) (xs.length : Int) (i : Int) = some b ∧ (b = true → Lex.Likes (ts.drop i) ((xs.drop i).map tk)) := by
      intro m
      induction m with
      | zero =>
        intro i K hm hi hK
        obtain ⟨K, rfl⟩ : ∃ j, K = j + 1 := ⟨K - 1, by omega⟩
        rw [madrigallaw01_like.l0, if_neg (by omega), List.drop_of_length_le (by omega), List.drop_of_length_le (by omega)]
        exact ⟨true, rfl, fun _ => .nil⟩
      | succ m ih =>
        intro i K hm hi hK
        obtain ⟨K, rfl⟩ : ∃ j, K = j + 1 := ⟨K - 1, by omega⟩
        have hlt : i < xs.length := by omega
        have hlt2 : i < ts.length := by omega
        have hb : ∃ b, madrigalref01_Like.f xs[i].f0 xs[i].f1 xs[i].f2 xs[i].f3 xs[i].f4 (toS ts[i]).f0 (toS ts[i]).f1 (toS ts[i]).f2 (toS ts[i]).f3 (toS ts[i]).f4 = some b ∧ (b = true → Lex.Like ts[i] (tk xs[i])) := by
          unfold madrigalref01_Like.f
          by_cases h1 : xs[i].f0 = (toS ts[i]).f0
          · rw [if_pos h1]
            by_cases h2 : xs[i].f1 = (toS ts[i]).f1
            · rw [if_pos h2]
              refine ⟨_, rfl, fun h => ?_⟩
              rw [beq_iff_eq, Lib.toList_data, Lib.toList_data] at h
              have e : (toS ts[i]).f2.data.toList = ts[i].s := mkB_list _
              rw [e] at h
              exact ⟨h1.symm, h2.symm, h.symm⟩
            · rw [if_neg h2]; exact ⟨false, rfl, fun h => by cases h⟩
          · rw [if_neg h1]; exact ⟨false, rfl, fun h => by cases h⟩
        obtain ⟨b, hb, hbl⟩ := hb
        have r1 : rd_T38 (ts.map toS) (i : Int) = toS ts[i] := by rw [rd_at _ i (by rw [List.length_map]; exact hlt2), List.getElem_map]
        rw [madrigallaw01_like.l0, if_pos (by omega), if_pos (by omega), if_pos (by omega), if_pos (by omega), rd_lt xs i hlt, r1, hb, Option.bind_some, List.drop_eq_getElem_cons hlt, List.drop_eq_getElem_cons hlt2, List.map_cons]
        cases b with
        | true =>
          obtain ⟨c, hc, hcl⟩ := ih (i + 1) K (by omega) (by omega) (by omega)
          rw [if_pos rfl, w64 ((i : Int) + 1) (by omega), show (i : Int) + 1 = ((i + 1 : Nat) : Int) by omega]
          exact ⟨c, hc, fun h => .cons (hbl rfl) (hcl h)⟩
        | false =>
          rw [if_neg (show ¬ (false = true) by simp)]
          exact ⟨false, rfl, fun h => by cases h⟩
    have := go xs.length 0 K (by omega) (by omega) (by omega)
    rw [show ((0 : Nat) : Int) = 0 from rfl, List.drop_zero, List.drop_zero] at this
    exact this
  · rw [if_neg hl]
    exact ⟨false, rfl, fun h => by cases h⟩
theorem like_yes {xs : List S38} {ts : List Lex.Tok} (h : Lex.Likes ts (xs.map tk)) (hn : xs.length ≤ 2000) (K : Nat) (hK : 2000 < K) : madrigallaw01_like.f K xs (ts.map toS) = some true := by
  have hl := h.length
  rw [List.length_map] at hl
  refine like_ok xs (ts.map toS) (by rw [List.length_map]; omega) (by omega) (fun i h1 h2 => ?_) K (by omega)
  have g := h.get i (by omega) (by rw [List.length_map]; omega)
  rw [List.getElem_map] at g
  rw [List.getElem_map]
  refine ⟨g.1.symm, g.2.1.symm, ?_⟩
  apply Go.WideShapes.bytes_inj
  have e : (toS ts[i]).f2.data.toList = ts[i].s := mkB_list _
  rw [e]
  exact g.2.2.symm
theorem u64_of' (n : Int) (h : 0 ≤ n ∧ n < 18446744073709551616) : IntKind.u64.wrap n = n := by
  simp [IntKind.wrap, IntKind.bits, IntKind.signed]
  omega
theorem u64_in (n : Int) : 0 ≤ IntKind.u64.wrap n ∧ IntKind.u64.wrap n < 18446744073709551616 := by
  simp [IntKind.wrap, IntKind.bits, IntKind.signed]
  omega
theorem pick_in (which : Int) (n : Nat) (h0 : 1 ≤ n) (hn : n ≤ 1000000) : ∃ k : Nat, k < n ∧ IntKind.u64.wrap (n : Int) ≠ 0 ∧ wrap64 (Int.tmod (IntKind.u64.wrap which) (IntKind.u64.wrap (n : Int))) = (k : Int) := by
  rw [u64_of' (n : Int) (by omega)]
  obtain ⟨h1, h2⟩ := u64_in which
  have h3 := Int.tmod_nonneg (n : Int) h1
  have h4 := Int.tmod_lt_of_pos (IntKind.u64.wrap which) (show 0 < (n : Int) by omega)
  generalize Int.tmod (IntKind.u64.wrap which) (n : Int) = z at *
  exact ⟨z.toNat, by omega, by omega, by rw [w64 z (by omega)]; omega⟩
theorem back_j2 (l : List S38) (hl : l.length ≤ 2000) (cut : Int) (s : Lex.Bytes) (hs : s = Lex.joinL (l.map tk)) (hlen : s.length ≤ 100000) (hr : ∀ t ∈ l.map tk, Lex.Right t) (K : Nat) (hK : 2000 < K) : madrigallaw01_LexBack.j2 (K + 1) l cut (mkB s) false = some true := by
  have hz : (mkB s).size = s.length := mkB_size s
  rw [madrigallaw01_LexBack.j2, if_neg (show ¬ (false = true) by simp), hz]
  by_cases h0 : (s.length : Int) = 0
  · rw [if_pos h0]
    cases l with
    | nil => rfl
    | cons x l =>
      exfalso
      have := Lex.join_pos hr (by simp)
      rw [← hs] at this
      omega
  · obtain ⟨k, hk, hne, he⟩ := pick_in cut s.length (by omega) (by omega)
    rw [if_neg h0, if_neg hne, he]
    clear he hne
    have hx : ((mkB s).extract 0 (k : Int).toNat ++ (mkB s).extract ((k : Int) + 1).toNat s.length).data.toList = s.take k ++ s.drop (k + 1) := by
      have e1 := Lib.extract_data (mkB s) 0 k
      have e2 := Lib.extract_data (mkB s) (k + 1) s.length
      rw [mkB_list s] at e1 e2
      rw [List.drop_zero, Nat.sub_zero] at e1
      rw [List.take_of_length_le (by rw [List.length_drop]; omega)] at e2
      have := ByteArray.data_append (l := (mkB s).extract 0 k) (l' := (mkB s).extract (k + 1) s.length)
      rw [Int.toNat_natCast, show ((k : Int) + 1).toNat = k + 1 by omega, this, Array.toList_append, e1, e2]
    have hul : (s.take k ++ s.drop (k + 1)).length = s.length - 1 := by rw [List.length_append, List.length_take, List.length_drop]; omega
    have hus : ((mkB s).extract 0 (k : Int).toNat ++ (mkB s).extract ((k : Int) + 1).toNat s.length).size = s.length - 1 := by rw [← size_list, hx, hul]
    have hsum : ((mkB s).extract 0 (k : Int).toNat).size + ((mkB s).extract ((k : Int) + 1).toNat s.length).size = s.length - 1 := by rw [← ByteArray.size_append, hus]
    rw [if_pos (by omega), if_pos (by omega), w64 ((k : Int) + 1) (by omega), if_pos (by omega), if_pos (by omega), if_pos (by omega), toks_of _ (by omega), Option.bind_some, hx]
    rcases ht : Lex.tokensL (s.take k ++ s.drop (k + 1)) with ⟨ts, p, e⟩
    dsimp only
    by_cases he : e = 0
    · subst he
      obtain ⟨rfl, _, _, cs, hc⟩ := Lex.tokens_done ht
      rw [if_pos (show ((0 : Nat) : Int) = 0 from rfl)]
      obtain ⟨b, hb, hbl⟩ := like_dec l ts hl K hK
      rw [hb, Option.bind_some]
      cases b with
      | false => rfl
      | true =>
        exfalso
        have hne : l.map tk ≠ [] := by
          intro e
          rw [e] at hs
          have : s = [] := hs
          rw [this] at h0
          exact h0 rfl
        have := Lex.no_shorter hr hne hc (hbl rfl)
        rw [← hs, hul] at this
        omega
    · rw [if_neg (show ¬ ((e : Nat) : Int) = 0 by omega)]
theorem sumT_app : ∀ (a b : List Lex.Tok), Lex.sumT (a ++ b) = Lex.sumT a + Lex.sumT b
  | [], b => by simp [Lex.sumT]
  | x :: a, b => by rw [List.cons_append, Lex.sumT, Lex.sumT, sumT_app a b]; omega
theorem back_l0 (l : List S38) (hl : l.length ≤ 2000) (hf : ∀ x ∈ l, Fine x) (cut : Int) (s : Lex.Bytes) (hs : s = Lex.joinL (l.map tk)) (hlen : s.length ≤ 100000) (hr : ∀ t ∈ l.map tk, Lex.Right t) : ∀ (m i K : Nat), l.length - i = m → i ≤ l.length → m + 2010 < K →
    madrigallaw01_LexBack.l0 K l cut (mkB s) ((Lex.sumT ((l.take i).map tk) : Nat) : Int) l (l.length : Int) (i : Int) = some true := by
  have hz : (mkB s).size = s.length := mkB_size s
  have hj := Lex.join_len2 (l.map tk)
  rw [← hs, List.length_map] at hj
  intro m
  induction m with
  | zero =>
    intro i K hm hi hK
    obtain ⟨K, rfl⟩ : ∃ j, K = j + 2 := ⟨K - 2, by omega⟩
    obtain rfl : i = l.length := by omega
    have g := back_j2 l hl cut s hs hlen hr K (by omega)
    rw [madrigallaw01_LexBack.l0, if_neg (by omega), List.take_length, if_neg (by omega), hz, w64 ((l.length : Int) - 1) (by omega), w64 (((Lex.sumT (l.map tk) : Nat) : Int) + mx ((l.length : Int) - 1) 0) (by unfold mx; omega), decide_eq_false (by unfold mx; omega)]
    exact g
  | succ m ih =>
    intro i K hm hi hK
    obtain ⟨K, rfl⟩ : ∃ j, K = j + 1 := ⟨K - 1, by omega⟩
    have hlt : i < l.length := by omega
    have hfx := hf l[i] (List.getElem_mem hlt)
    have hzx : (mkB (tk l[i]).txt).size = (tk l[i]).txt.length := mkB_size _
    have hsum : Lex.sumT ((l.take (i + 1)).map tk) = Lex.sumT ((l.take i).map tk) + (tk l[i]).txt.length := by
      rw [List.take_succ_eq_append_getElem hlt, List.map_append, sumT_app]
      rfl
    have hall : Lex.sumT ((l.take (i + 1)).map tk) ≤ Lex.sumT (l.map tk) := by
      have : l.map tk = (l.take (i + 1)).map tk ++ (l.drop (i + 1)).map tk := by rw [← List.map_append, List.take_append_drop]
      rw [this, sumT_app]
      omega
    have go := ih (i + 1) K (by omega) (by omega) (by omega)
    rw [madrigallaw01_LexBack.l0, if_pos (by omega), if_pos (by omega), if_pos (by omega), rd_lt l i hlt, text_of hfx, Option.bind_some, hzx]
    generalize (tk l[i]).txt.length = z at *
    rw [w64 (((Lex.sumT ((l.take i).map tk) : Nat) : Int) + (z : Int)) (by omega), w64 ((i : Int) + 1) (by omega), show (i : Int) + 1 = ((i + 1 : Nat) : Int) by omega, show ((Lex.sumT ((l.take i).map tk) : Nat) : Int) + (z : Int) = ((Lex.sumT ((l.take (i + 1)).map tk) : Nat) : Int) by omega]
    exact go
theorem sum_le : ∀ (l : List S38), (∀ x ∈ l, Fine x) → Lex.sumT (l.map tk) ≤ sumS l + 20 * l.length
  | [], _ => Nat.zero_le _
  | x :: l, h => by
    have := sum_le l (fun y hy => h y (by simp [hy]))
    have := (h x (by simp)).len
    rw [List.map_cons, Lex.sumT, sumS, List.length_cons]
    omega
theorem pure_LexBack (l : List S38) (cut : Int) (hm : l.length ≤ 9223372036854775807) (ht : ∀ x ∈ l, TokOk x) (hs : ∀ x ∈ l, x.f2.size ≤ 140737488351232) : ∃ k, madrigallaw01_LexBack.f k l cut = some true := by
  obtain ⟨K, hK1, hK2⟩ : ∃ K : Nat, 600000 < K ∧ l.length < K := ⟨600001 + l.length, by omega, by omega⟩
  refine ⟨K + 1, ?_⟩
  unfold madrigallaw01_LexBack.f
  obtain ⟨b, hb, hfew⟩ := few_of l hm hs (K + 1) (by omega)
  rw [show madrigallaw01_sane.f = some true from rfl, Option.bind_some, if_pos rfl, hb, Option.bind_some]
  cases b with
  | false => rw [if_neg (show ¬ (false = true) by simp)]
  | true =>
    obtain ⟨hl, hsum⟩ := hfew rfl
    have hf : ∀ x ∈ l, Fine x := fun x hx => ⟨(ht x hx).2.1.1, (ht x hx).2.1.2, by have := sumS_mem hx; omega⟩
    have hle := sum_le l hf
    rw [if_pos rfl]
    rcases join_of l hl hf (by omega) with ⟨hr, hj⟩ | ⟨hr, hj⟩
    · have hlen := Lex.join_len2 (l.map tk)
      rw [List.length_map] at hlen
      obtain ⟨ts, hc, hlk⟩ := Lex.join_cut (l.map tk) hr
      have hlk2 := hlk.length
      rw [List.length_map] at hlk2
      obtain ⟨s, hsj⟩ : ∃ s, s = Lex.joinL (l.map tk) := ⟨_, rfl⟩
      rw [← hsj] at hj hlen hc
      have hz : (mkB s).size = s.length := mkB_size s
      have htk : Lex.tokensL s = (ts, 0, 0) := by
        rcases toks_cases s (by omega) with ⟨t2, c2, h2, h3, e2⟩ | ⟨t2, c2, h2, h3, e2⟩ | ⟨q, h2, e2⟩
        · rw [hc] at h2; injection h2 with h2 _; rw [e2, h2]
        · rw [hc] at h2; injection h2 with h2 _; subst h2; omega
        · rw [hc] at h2; cases h2
      have g := back_l0 l hl hf cut s hsj (by omega) hr l.length 0 K (by omega) (by omega) (by omega)
      rw [hj, Option.bind_some]
      dsimp only
      rw [if_pos rfl, toks_of _ (by omega), Option.bind_some, mkB_list s, htk]
      dsimp only
      rw [if_pos (show ((0 : Nat) : Int) = 0 from rfl), like_yes hlk hl (K + 1) (by omega), Option.bind_some, madrigallaw01_LexBack.j0, if_neg (by simp)]
      exact g
    · obtain ⟨c, hc, hcr⟩ := rrights_from l hl hf l.length 0 (K + 1) (by omega) (by omega) (by omega)
      rw [show ((0 : Nat) : Int) = 0 from rfl] at hc
      rw [List.drop_zero] at hcr
      rw [hj, Option.bind_some]
      dsimp only
      rw [if_neg (show ¬ ((1 : Int) = 0) by decide)]
      unfold madrigalref01_Rights.f
      rw [hc, Option.bind_some]
      cases c with
      | true => exact absurd (hcr.1 rfl) hr
      | false => rw [if_neg (show ¬ (false = true) by simp)]
theorem walk_LexBack (A : Option Addr) (c : Nat) (l : List S38) (cut : Int) (w : World) (hC : Kd.C k38 w A l.length l) (hc : l.length ≤ c) (hcm : c ≤ maxLen) (ht : ∀ x ∈ l, TokOk x) (hs : ∀ x ∈ l, x.f2.size ≤ 140737488351232) (hcut : -9223372036854775808 ≤ cut ∧ cut ≤ 9223372036854775807) (hG : GL w) :
    Calls Tryz.prog 4 #[.slice A l.length c, .int .i64 cut] w fun e w' => e = .returned (.bool true) ∧ Below w.heap.size w w' := by
  have hm : maxLen = 9223372036854775807 := by decide
  obtain ⟨k, hk⟩ := pure_LexBack l cut (by omega) ht hs
  exact madrigallaw01_LexBack.calls k A c l cut true w hC hc hk hG
end Go.Proofs.YtglgppkjgodlkaaGreatDoor
