/- What the printed written, right, apart, Join compute, plainly. Conditions: none. -/
import Derived.Test.YtglgppkjgodlkaaGreatDoorLU
import Derived.Test.YtglgppkjgodlkaaGreatDoorLKd
import Derived.Test.YtglgppkjgodlkaaGreatDoorLTC
import Derived.Test.YtglgppkjgodlkaaGreatDoorG2
namespace Go.Proofs.YtglgppkjgodlkaaGreatDoor
open Go.RowKit Go.Proofs.YtglgppkjgodlkaaGreatDoorW.PrintWords Go.Proofs.YtglgppkjgodlkaaGreatDoor.P
set_option linter.unusedVariables false
set_option linter.unusedSimpArgs false

/-- a token without its places -/
def tk (x : S38) : Lex.Tok := ⟨x.f0, x.f1, x.f2.data.toList, 0, 0⟩
/-- tokens that few lets by -/
structure Fine (x : S38) : Prop where
  n0 : -9223372036854775808 ≤ x.f1
  n1 : x.f1 ≤ 9223372036854775807
  sz : x.f2.size ≤ 20000
theorem Fine.len {x : S38} (h : Fine x) : (tk x).txt.length ≤ x.f2.size + 20 := by
  have := Lex.txt_len (tk x) h.n0 h.n1
  have e : (tk x).s.length = x.f2.size := size_list _
  omega
theorem written_of {x : S38} (h : Fine x) : lex_written.f x.f0 x.f1 x.f2 x.f3 x.f4 = some (mkB (tk x).txt) := by
  have h0 := h.n0
  have h1 := h.n1
  unfold lex_written.f Lex.Tok.txt Lex.txt
  by_cases h3 : x.f0 = 3
  · rw [if_pos h3, if_pos (show (tk x).kind = 3 from h3)]
    unfold strconv_Itoa.f
    rw [if_pos ⟨h0, h1⟩, Option.bind_some]
    rfl
  · rw [if_neg h3, if_neg (show ¬ (tk x).kind = 3 from h3)]
    rfl
theorem same_like (t : Lex.Tok) (x : S38) : ∃ b, lex_same.f (toS t).f0 (toS t).f1 (toS t).f2 (toS t).f3 (toS t).f4 x.f0 x.f1 x.f2 x.f3 x.f4 = some b ∧ (b = true ↔ Lex.Like t (tk x)) := by
  unfold lex_same.f
  by_cases h1 : (toS t).f0 = x.f0
  · rw [if_pos h1]
    by_cases h2 : (toS t).f1 = x.f1
    · rw [if_pos h2]
      refine ⟨_, rfl, ?_⟩
      rw [beq_iff_eq, Lib.toList_data, Lib.toList_data]
      have e : (toS t).f2.data.toList = t.s := mkB_list t.s
      rw [e]
      exact ⟨fun h => ⟨h1, h2, h⟩, fun h => h.2.2⟩
    · rw [if_neg h2]
      exact ⟨false, rfl, by simp, fun h => absurd h.2.1 h2⟩
  · rw [if_neg h1]
    exact ⟨false, rfl, by simp, fun h => absurd h.1 h1⟩
theorem right_of {x : S38} (h : Fine x) : ∃ b, lex_right_1.f x.f0 x.f1 x.f2 x.f3 x.f4 = some b ∧ (b = false ↔ Lex.Right (tk x)) := by
  have hl := h.len
  have hsz := h.sz
  rw [← Lex.one_right (t := tk x) (by omega)]
  unfold lex_right_1.f
  have hz : (mkB (tk x).txt).size = (tk x).txt.length := mkB_size _
  rw [written_of h, Option.bind_some, toks_of _ (by omega), Option.bind_some, mkB_list (tk x).txt]
  rcases ht : Lex.tokensL (tk x).txt with ⟨ts, p, e⟩
  dsimp only
  by_cases he : e = 0
  · subst he
    obtain ⟨rfl, hln, hn, cs, hc⟩ := Lex.tokens_done ht
    rw [if_pos (show ((0 : Nat) : Int) = 0 from rfl), List.length_map]
    by_cases h1 : (ts.length : Int) = 1
    · rw [if_pos h1, if_pos (by omega)]
      obtain ⟨t, rfl⟩ : ∃ t, ts = [t] := List.length_eq_one_iff.1 (by omega)
      have hrd : rd_T38 (List.map toS [t]) 0 = toS t := rfl
      have hbd := (Lex.cut_done hc).bounds.2 t (by simp)
      obtain ⟨b, hb, hbl⟩ := same_like t x
      rw [hrd, hb, Option.bind_some]
      cases b with
      | true =>
        rw [if_pos rfl]
        have hw : wrap64 ((toS t).f4 - (toS t).f3) = (t.e : Int) - (t.b : Int) := w64 _ (show -9223372036854775808 ≤ (t.e : Int) - (t.b : Int) ∧ (t.e : Int) - (t.b : Int) ≤ 9223372036854775807 by omega)
        rw [hw, hz]
        refine ⟨_, rfl, ?_⟩
        rw [bne_eq_false_iff_eq]
        constructor
        · intro h2; exact ⟨t, ht, hbl.1 rfl, h2⟩
        · rintro ⟨u, hu, _, h2⟩
          rw [ht] at hu
          injection hu with hu _
          injection hu with hu _
          rw [hu]; exact h2
      | false =>
        rw [if_neg (show ¬ (false = true) by simp)]
        refine ⟨true, rfl, by simp, ?_⟩
        rintro ⟨u, hu, h2, _⟩
        rw [ht] at hu
        injection hu with hu _
        injection hu with hu _
        rw [← hu] at h2
        exact absurd (hbl.2 h2) (by simp)
    · rw [if_neg h1]
      refine ⟨true, rfl, by simp, ?_⟩
      rintro ⟨u, hu, _⟩
      rw [ht] at hu
      injection hu with hu _
      rw [hu] at h1
      exact absurd rfl h1
  · rw [if_neg (show ¬ ((e : Nat) : Int) = 0 by omega)]
    refine ⟨true, rfl, by simp, ?_⟩
    rintro ⟨u, hu, _⟩
    rw [ht] at hu
    injection hu with _ hu
    injection hu with _ hu
    exact absurd hu he
theorem rights_of : ∀ (l : List S38), (∀ x ∈ l, Fine x) → ∃ b, rightL l = some b ∧ (b = true ↔ ∀ t ∈ l.map tk, Lex.Right t)
  | [], _ => ⟨true, rfl, by simp⟩
  | x :: l, h => by
    obtain ⟨b, hb, hbr⟩ := right_of (h x (by simp))
    obtain ⟨c, hc, hcr⟩ := rights_of l (fun y hy => h y (by simp [hy]))
    rw [rightL, hb, Option.bind_some]
    cases b with
    | true =>
      rw [if_pos rfl]
      refine ⟨false, rfl, by simp, fun h => ?_⟩
      have := hbr.2 (h (tk x) (by simp))
      cases this
    | false =>
      rw [if_neg (by simp)]
      refine ⟨c, hc, ?_⟩
      rw [hcr, List.map_cons, List.forall_mem_cons]
      exact ⟨fun h => ⟨hbr.1 rfl, h⟩, fun h => h.2⟩
theorem two_list {α : Type} {l : List α} (h : l.length = 2) : ∃ u v, l = [u, v] := by
  match l, h with
  | [u, v], _ => exact ⟨u, v, rfl⟩
theorem apart_of {x y : S38} (hx : Fine x) (hy : Fine y) (rx : Lex.Right (tk x)) (ry : Lex.Right (tk y)) : ∃ b, lex_apart.f x.f0 x.f1 x.f2 x.f3 x.f4 y.f0 y.f1 y.f2 y.f3 y.f4 = some b ∧ (b = true ↔ Lex.Apart (tk x) (tk y)) := by
  have lx := hx.len
  have ly := hy.len
  have sx := hx.sz
  have sy := hy.sz
  have zx : (mkB (tk x).txt).size = (tk x).txt.length := mkB_size _
  have zy : (mkB (tk y).txt).size = (tk y).txt.length := mkB_size _
  have hlen : ((tk x).txt ++ (tk y).txt).length ≤ 100000 := by rw [List.length_append]; omega
  rw [← Lex.two_apart rx ry hlen]
  unfold lex_apart.f
  rw [written_of hx, Option.bind_some, written_of hy, Option.bind_some, if_pos (by omega), toks_of _ (by rw [ByteArray.size_append]; omega), Option.bind_some]
  have e2 : (mkB (tk x).txt ++ mkB (tk y).txt).data.toList = (tk x).txt ++ (tk y).txt := by
    simp
  rw [e2]
  rcases ht : Lex.tokensL ((tk x).txt ++ (tk y).txt) with ⟨ts, p, e⟩
  dsimp only
  have no : ∀ {q : Prop}, (¬ ∃ u v, ts = [u, v] ∧ e = 0) → ¬ Lex.TwoToks ((tk x).txt ++ (tk y).txt) (tk x) (tk y) := by
    rintro _ hno ⟨u, v, hu, _⟩
    rw [ht] at hu
    injection hu with h1 h2
    injection h2 with _ h2
    exact hno ⟨u, v, h1, h2⟩
  by_cases he : e = 0
  · subst he
    obtain ⟨rfl, hln, hn, cs, hc⟩ := Lex.tokens_done ht
    rw [if_pos (show ((0 : Nat) : Int) = 0 from rfl), List.length_map]
    by_cases h2 : (ts.length : Int) = 2
    · obtain ⟨u, v, rfl⟩ : ∃ u v, ts = [u, v] := two_list (by omega)
      rw [if_pos h2, if_pos (by omega)]
      have r0 : rd_T38 (List.map toS [u, v]) 0 = toS u := rfl
      have r1 : rd_T38 (List.map toS [u, v]) 1 = toS v := rfl
      obtain ⟨b, hb, hbl⟩ := same_like u x
      obtain ⟨c, hcc, hcl⟩ := same_like v y
      rw [r0, hb, Option.bind_some]
      have key : Lex.TwoToks ((tk x).txt ++ (tk y).txt) (tk x) (tk y) ↔ (Lex.Like u (tk x) ∧ Lex.Like v (tk y)) := by
        constructor
        · rintro ⟨u', v', hu, h3, h4⟩
          rw [ht] at hu
          injection hu with hu _
          injection hu with e1 hu
          injection hu with e2 _
          rw [e1, e2]
          exact ⟨h3, h4⟩
        · exact fun h => ⟨u, v, ht, h.1, h.2⟩
      rw [key]
      cases b with
      | true =>
        rw [if_pos rfl, if_pos (by omega), r1, hcc, Option.bind_some]
        refine ⟨c, rfl, ?_⟩
        rw [hcl]
        exact ⟨fun h => ⟨hbl.1 rfl, h⟩, fun h => h.2⟩
      | false =>
        rw [if_neg (show ¬ (false = true) by simp)]
        exact ⟨false, rfl, by simp, fun h => absurd (hbl.2 h.1) (by simp)⟩
    · rw [if_neg h2]
      refine ⟨false, rfl, by simp, fun h => absurd h (no (q := True) ?_)⟩
      rintro ⟨u, v, h3, _⟩
      rw [h3] at h2
      exact h2 rfl
  · rw [if_neg (show ¬ ((e : Nat) : Int) = 0 by omega)]
    exact ⟨false, rfl, by simp, fun h => absurd h (no (q := True) (fun ⟨_, _, _, h2⟩ => he h2))⟩
/-- behind the tokens up to i -/
theorem join_from (l : List S38) (hl : l.length ≤ 2000) (hf : ∀ x ∈ l, Fine x) (hr : ∀ t ∈ l.map tk, Lex.Right t) : ∀ (n i : Nat) (x : S38) (acc : Lex.Bytes), l.length - (i + 1) = n → (h : i < l.length) → l[i] = x → acc.length ≤ 100000 * (i + 1) →
    joinFrom l n (i + 1) acc = some (acc ++ Lex.tailJ (tk x) ((l.drop (i + 1)).map tk)) := by
  intro n
  induction n with
  | zero =>
    intro i x acc hn hi hx ha
    rw [List.drop_of_length_le (by omega), joinFrom, List.map_nil, Lex.tailJ, List.append_nil]
  | succ n ih =>
    intro i x acc hn hi hx ha
    have hlt : i + 1 < l.length := by omega
    have hmx : x ∈ l := by rw [← hx]; exact List.getElem_mem hi
    have hmy : l[i + 1] ∈ l := List.getElem_mem hlt
    obtain ⟨y, hy⟩ : ∃ y, y = l[i + 1] := ⟨_, rfl⟩
    rw [← hy] at hmy
    have r0 : rd_T38 l (((i + 1 : Nat) : Int) - 1) = x := by
      rw [show ((i + 1 : Nat) : Int) - 1 = (i : Int) by omega, rd_lt l i hi, hx]
    have r1 : rd_T38 l ((i + 1 : Nat) : Int) = y := by rw [rd_lt l (i + 1) hlt, hy]
    obtain ⟨b, hb, hbl⟩ := apart_of (hf x hmx) (hf y hmy) (hr _ (List.mem_map.2 ⟨x, hmx, rfl⟩)) (hr _ (List.mem_map.2 ⟨y, hmy, rfl⟩))
    have ly := (hf y hmy).len
    have sy := (hf y hmy).sz
    have zy : (mkB (tk y).txt).size = (tk y).txt.length := mkB_size _
    have hj : joinStep l (i + 1) = some b := by
      unfold joinStep
      rw [if_neg (by omega), r0, r1]
      exact hb
    have ht : joinText l (i + 1) = some (mkB (tk y).txt) := by
      unfold joinText
      rw [r1]
      exact written_of (hf y hmy)
    have hs : sepB b = Lex.sepL (tk x) (tk y) := by
      unfold sepB Lex.sepL
      by_cases hap : Lex.Apart (tk x) (tk y)
      · rw [if_pos (hbl.2 hap), if_pos hap]
      · rw [if_neg (fun h => hap (hbl.1 h)), if_neg hap]
    have hsl := Lex.sepL_len (tk x) (tk y)
    rw [joinFrom, hj, Option.bind_some, ht, Option.bind_some, if_pos (by omega), hs, mkB_list (tk y).txt,
      ih (i + 1) y _ (by omega) hlt hy.symm (by rw [List.length_append, List.length_append]; omega), List.drop_eq_getElem_cons hlt, List.map_cons, Lex.tailJ, ← hy]
    simp
theorem join_all (l : List S38) (hl : l.length ≤ 2000) (hf : ∀ x ∈ l, Fine x) (hr : ∀ t ∈ l.map tk, Lex.Right t) : joinFrom l l.length 0 [] = some (Lex.joinL (l.map tk)) := by
  cases l with
  | nil => rfl
  | cons x l =>
    have lx := (hf x (by simp)).len
    have sx := (hf x (by simp)).sz
    have zx : (mkB (tk x).txt).size = (tk x).txt.length := mkB_size _
    have ht : joinText (x :: l) 0 = some (mkB (tk x).txt) := by
      unfold joinText
      exact written_of (hf x (by simp))
    have hgo := join_from (x :: l) hl hf hr l.length 0 x ((tk x).txt) (by simp) (by simp) rfl (by omega)
    rw [List.length_cons, joinFrom, show joinStep (x :: l) 0 = some true from rfl, Option.bind_some, ht, Option.bind_some, if_pos (by rw [zx]; simp; omega), mkB_list (tk x).txt, show ([] ++ sepB true ++ (tk x).txt : Lex.Bytes) = (tk x).txt from rfl]
    rw [List.map_cons, Lex.join_tail]
    exact hgo
/-- What Join returns. -/
theorem join_of (l : List S38) (hl : l.length ≤ 2000) (hf : ∀ x ∈ l, Fine x) (hsum : Lex.sumT (l.map tk) ≤ 80000) :
    ((∀ t ∈ l.map tk, Lex.Right t) ∧ lex_Join.f l = some (mkB (Lex.joinL (l.map tk)), 0)) ∨ ((¬ ∀ t ∈ l.map tk, Lex.Right t) ∧ lex_Join.f l = some ((⟨#[]⟩ : ByteArray), 1)) := by
  obtain ⟨b, hb, hbr⟩ := rights_of l hf
  unfold lex_Join.f lex_right.f
  rw [if_pos (by omega), hb, Option.bind_some]
  cases b with
  | true =>
    have hr := hbr.1 rfl
    have hlen := Lex.join_len2 (l.map tk)
    rw [List.length_map] at hlen
    refine .inl ⟨hr, ?_⟩
    rw [if_pos rfl, if_neg (by omega), join_all l hl hf hr, Option.bind_some, if_neg (by omega)]
  | false =>
    refine .inr ⟨fun h => ?_, ?_⟩
    · have := hbr.2 h; cases this
    · rw [if_neg (show ¬ (false = true) by simp)]
end Go.Proofs.YtglgppkjgodlkaaGreatDoor
