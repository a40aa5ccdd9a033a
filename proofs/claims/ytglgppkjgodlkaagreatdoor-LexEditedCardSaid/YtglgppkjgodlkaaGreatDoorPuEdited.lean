/- The pure law of LexEdited, and its walk. Conditions: none. -/
import Derived.Test.YtglgppkjgodlkaaGreatDoorLCh
import Derived.Test.YtglgppkjgodlkaaGreatDoorLSm
import Derived.Test.YtglgppkjgodlkaaGreatDoorLX2
import Derived.Test.YtglgppkjgodlkaaGreatDoorG19
namespace Go.Proofs.YtglgppkjgodlkaaGreatDoor
open Go.RowKit Go.Proofs.YtglgppkjgodlkaaGreatDoorW.PrintWords Go.Proofs.YtglgppkjgodlkaaGreatDoor.P
set_option linter.unusedVariables false
set_option linter.unusedSimpArgs false

theorem short_three (k : Nat) (a b c : ByteArray) (ha : a.size ≤ 140737488351232) (hb : b.size ≤ 140737488351232) (hc : c.size ≤ 140737488351232) : madrigallaw01_short.f (k + 4) [a, b, c] = some (decide ((a.size : Int) + (b.size : Int) + (c.size : Int) ≤ 20000)) := by
  have h1 : wrap64 (a.size : Int) = (a.size : Int) := w64 _ (by omega)
  have h2 : wrap64 ((a.size : Int) + (b.size : Int)) = (a.size : Int) + (b.size : Int) := w64 _ (by omega)
  have h3 : wrap64 ((a.size : Int) + (b.size : Int) + (c.size : Int)) = (a.size : Int) + (b.size : Int) + (c.size : Int) := w64 _ (by omega)
  simp [madrigallaw01_short.f, madrigallaw01_short.l0, rdOf, h1, h2, h3, w64 1 (by decide), w64 2 (by decide), w64 3 (by decide)]
theorem errs_of (l : Lex.Bytes) : ((Lex.tokensL l).2.2 = 0) ∨ ((Lex.tokensL l).2.2 = 2 ∧ (Lex.tokensL l).1 = []) ∨ ((Lex.tokensL l).2.2 = 10 ∧ (Lex.tokensL l).1 = []) := by
  unfold Lex.tokensL
  split
  · exact .inr (.inl ⟨rfl, rfl⟩)
  · split
    · exact .inr (.inr ⟨rfl, rfl⟩)
    · split
      · exact .inr (.inl ⟨rfl, rfl⟩)
      · exact .inl rfl
theorem toksOf_few (l : Lex.Bytes) : (toksOf l).length ≤ 20000 := by unfold toksOf; rw [List.length_map]; exact toks_short l
theorem edited_j3 (a E F : ByteArray) (ha : (a.size : Int) + (E.size : Int) + (F.size : Int) ≤ 20000) (p q r t K : Nat) (hpq : p + q ≤ r) (hrt : r + t ≤ a.size) (hK : 30000 < K) (h0 : (Lex.tokensL a.data.toList).2.2 = 0) (h1 : (Lex.tokensL (Lex.editL a.data.toList p q E.data.toList)).2.2 = 0) :
    madrigallaw01_LexEdited.j3 (K + 1) a (toksOf a.data.toList) (mkB (Lex.editL a.data.toList p q E.data.toList)) (toksOf (Lex.editL a.data.toList p q E.data.toList)) false (p : Int) (q : Int) E (r : Int) (t : Int) F = some true := by
  have l1 := Lex.edit_len a.data.toList E.data.toList p q (by rw [size_list]; omega)
  have l2 := Lex.edit_len a.data.toList F.data.toList r t (by rw [size_list]; omega)
  rw [size_list, size_list] at l1 l2
  have z1 : (mkB (Lex.editL a.data.toList p q E.data.toList)).size = a.size - q + E.size := (mkB_size _).trans l1
  have z2 : (mkB (Lex.editL a.data.toList r t F.data.toList)).size = a.size - t + F.size := (mkB_size _).trans l2
  have c1 := change_ok (mkB (Lex.editL a.data.toList p q E.data.toList)) F (by omega) (by omega) (r - q + E.size) t K (by omega) (by omega) (by rw [mkB_list (Lex.editL a.data.toList p q E.data.toList)]; exact h1)
  rw [mkB_list (Lex.editL a.data.toList p q E.data.toList), ← size_list E, Lex.edit_swap _ _ _ p q r t hpq (by rw [size_list]; omega), size_list E] at c1
  have c2 := change_ok a F (by omega) (by omega) r t K hrt (by omega) h0
  have hat : wrap64 (wrap64 ((r : Int) - (q : Int)) + (E.size : Int)) = ((r - q + E.size : Nat) : Int) := by
    rw [w64 ((r : Int) - (q : Int)) (by omega), w64 _ (by omega)]; omega
  rw [madrigallaw01_LexEdited.j3, if_neg (show ¬ (false = true) by simp), hat, c1, Option.bind_some, c2, Option.bind_some]
  dsimp only
  by_cases h2 : (Lex.tokensL (Lex.editL a.data.toList r t F.data.toList)).2.2 = 0
  · have c3 := change_ok (mkB (Lex.editL a.data.toList r t F.data.toList)) E (by clear hat; omega) (by clear hat; omega) p q K (by clear hat; omega) (by omega) (by rw [mkB_list (Lex.editL a.data.toList r t F.data.toList)]; exact h2)
    rw [mkB_list (Lex.editL a.data.toList r t F.data.toList)] at c3
    rw [if_pos (show (((Lex.tokensL (Lex.editL a.data.toList r t F.data.toList)).2.2 : Nat) : Int) = 0 by omega), c3, Option.bind_some]
    dsimp only
    rw [if_pos rfl, if_pos rfl]
    clear hat
    have hf := toksOf_few (Lex.editL (Lex.editL a.data.toList r t F.data.toList) p q E.data.toList)
    rw [same_ok _ (by omega) K (by omega), Option.bind_some]
  · rw [if_neg (show ¬ (((Lex.tokensL (Lex.editL a.data.toList r t F.data.toList)).2.2 : Nat) : Int) = 0 by omega)]
theorem edited_j1 (a E F : ByteArray) (ha : (a.size : Int) + (E.size : Int) + (F.size : Int) ≤ 20000) (p q K : Nat) (r t : Int) (hr : -9223372036854775808 ≤ r ∧ r ≤ 9223372036854775807) (ht : -9223372036854775808 ≤ t ∧ t ≤ 9223372036854775807) (hpq : p + q ≤ a.size) (hK : 30000 < K) (h0 : (Lex.tokensL a.data.toList).2.2 = 0) (h1 : (Lex.tokensL (Lex.editL a.data.toList p q E.data.toList)).2.2 = 0) :
    madrigallaw01_LexEdited.j1 (K + 3) a (toksOf a.data.toList) (mkB (Lex.editL a.data.toList p q E.data.toList)) (toksOf (Lex.editL a.data.toList p q E.data.toList)) false (p : Int) (q : Int) E r t F = some true := by
  have l1 := Lex.edit_len a.data.toList E.data.toList p q (by rw [size_list]; omega)
  rw [size_list, size_list] at l1
  have z1 : (mkB (Lex.editL a.data.toList p q E.data.toList)).size = a.size - q + E.size := (mkB_size _).trans l1
  have hx : a.extract (p : Int).toNat ((p : Int) + (q : Int)).toNat = mkB ((a.data.toList.drop p).take q) := by
    apply Go.WideShapes.bytes_inj
    rw [mkB_list, Lib.extract_data, show ((p : Int) + (q : Int)).toNat = p + q by omega, Int.toNat_natCast, Nat.add_sub_cancel_left]
  have hxs : (mkB ((a.data.toList.drop p).take q)).size ≤ 1000000 := by
    have e : (mkB ((a.data.toList.drop p).take q)).size = ((a.data.toList.drop p).take q).length := mkB_size _
    rw [e, List.length_take]
    omega
  have c1 := change_ok (mkB (Lex.editL a.data.toList p q E.data.toList)) (mkB ((a.data.toList.drop p).take q)) (by omega) hxs p E.size (K + 2) (by omega) (by omega) (by rw [mkB_list (Lex.editL a.data.toList p q E.data.toList)]; exact h1)
  rw [mkB_list (Lex.editL a.data.toList p q E.data.toList), mkB_list ((a.data.toList.drop p).take q), ← size_list E, Lex.edit_undo _ _ p q (by rw [size_list]; exact hpq), size_list E] at c1
  rw [madrigallaw01_LexEdited.j1, if_neg (show ¬ (false = true) by simp), w64 ((p : Int) + (q : Int)) (by omega), if_pos (by omega), if_pos (by omega), if_pos (by omega), hx, c1, Option.bind_some]
  dsimp only
  have hf := toksOf_few a.data.toList
  rw [if_pos (show (((Lex.tokensL a.data.toList).2.2 : Nat) : Int) = 0 by omega), if_pos (show (mkB a.data.toList).toList = a.toList from rfl), same_ok _ (by omega) (K + 2) (by omega), Option.bind_some, madrigallaw01_LexEdited.j2, if_neg (by simp), w64 ((p : Int) + (q : Int)) (by omega)]
  have hT : madrigallaw01_LexEdited.j3 (K + 1) a (toksOf a.data.toList) (mkB (Lex.editL a.data.toList p q E.data.toList)) (toksOf (Lex.editL a.data.toList p q E.data.toList)) true (p : Int) (q : Int) E r t F = some true := by
    rw [madrigallaw01_LexEdited.j3, if_pos rfl]
  by_cases g1 : r < (p : Int) + (q : Int)
  · rw [if_pos g1]; exact hT
  · rw [if_neg g1]
    by_cases g2 : r < 0
    · rw [if_pos g2]; exact hT
    · rw [if_neg g2]
      by_cases g3 : t < 0
      · rw [if_pos g3]; exact hT
      · rw [if_neg g3]
        by_cases g4 : r > (a.size : Int)
        · rw [if_pos g4]; exact hT
        · rw [if_neg g4, w64 ((a.size : Int) - r) (by omega)]
          by_cases g5 : t > (a.size : Int) - r
          · rw [decide_eq_true g5]; exact hT
          · rw [decide_eq_false g5]
            obtain ⟨r, rfl⟩ : ∃ n : Nat, r = (n : Int) := ⟨r.toNat, by omega⟩
            obtain ⟨t, rfl⟩ : ∃ n : Nat, t = (n : Int) := ⟨t.toNat, by omega⟩
            exact edited_j3 a E F ha p q r t K (by omega) (by omega) hK h0 h1
theorem pure_LexEdited (a : ByteArray) (p q : Int) (E : ByteArray) (r t : Int) (F : ByteArray) (ha : a.size ≤ 140737488351232) (hp : -9223372036854775808 ≤ p ∧ p ≤ 9223372036854775807) (hq : -9223372036854775808 ≤ q ∧ q ≤ 9223372036854775807) (hE : E.size ≤ 140737488351232) (hr : -9223372036854775808 ≤ r ∧ r ≤ 9223372036854775807) (ht : -9223372036854775808 ≤ t ∧ t ≤ 9223372036854775807) (hF : F.size ≤ 140737488351232) :
    ∃ k, madrigallaw01_LexEdited.f k a p q E r t F = some true := by
  obtain ⟨K, hK⟩ : ∃ K : Nat, 30000 < K := ⟨30001, by omega⟩
  refine ⟨K + 4, ?_⟩
  unfold madrigallaw01_LexEdited.f
  rw [show madrigallaw01_sane.f = some true from rfl, Option.bind_some, if_pos rfl, short_three K _ _ _ ha hE hF, Option.bind_some]
  by_cases hs : (a.size : Int) + (E.size : Int) + (F.size : Int) ≤ 20000
  case neg => rw [if_neg (by rw [decide_eq_false hs]; simp)]
  rw [if_pos (decide_eq_true hs), toks_of a ha, Option.bind_some]
  dsimp only
  by_cases h0 : (Lex.tokensL a.data.toList).2.2 = 0
  case neg => rw [if_neg (show ¬ (((Lex.tokensL a.data.toList).2.2 : Nat) : Int) = 0 by omega)]
  rw [if_pos (show (((Lex.tokensL a.data.toList).2.2 : Nat) : Int) = 0 by omega)]
  by_cases hb : 0 ≤ p ∧ 0 ≤ q ∧ p + q ≤ a.size
  · obtain ⟨p, rfl⟩ : ∃ n : Nat, p = (n : Int) := ⟨p.toNat, by omega⟩
    obtain ⟨q, rfl⟩ : ∃ n : Nat, q = (n : Int) := ⟨q.toNat, by omega⟩
    have c1 := change_ok a E (by omega) (by omega) p q (K + 4) (by omega) (by omega) h0
    unfold toksOf at c1
    rw [c1, Option.bind_some]
    dsimp only
    rcases errs_of (Lex.editL a.data.toList p q E.data.toList) with h1 | ⟨h1, h2⟩ | ⟨h1, h2⟩
    · rw [h1, if_neg (show ¬ ((0 : Nat) : Int) = 1 by decide), if_neg (show ¬ ((0 : Nat) : Int) = 10 by decide), show (((0 : Nat) : Int) == 2) = false from rfl, madrigallaw01_LexEdited.j0, if_neg (show ¬ (false = true) by simp), if_pos (show ((0 : Nat) : Int) = 0 from rfl), if_neg (by omega), if_neg (by omega), if_neg (by omega), w64 ((a.size : Int) - (p : Int)) (by omega), decide_eq_false (by omega)]
      exact edited_j1 a E F hs p q K r t hr ht (by omega) hK h0 h1
    · rw [h1, h2, if_neg (show ¬ ((2 : Nat) : Int) = 1 by decide), if_neg (show ¬ ((2 : Nat) : Int) = 10 by decide), show (((2 : Nat) : Int) == 2) = true from rfl, madrigallaw01_LexEdited.j0, if_pos rfl]
      rfl
    · rw [h1, h2, if_neg (show ¬ ((10 : Nat) : Int) = 1 by decide), if_pos (show ((10 : Nat) : Int) = 10 from rfl), madrigallaw01_LexEdited.j0, if_pos rfl]
      rfl
  · have c1 := change_no a E _ (by omega) p q hp hq (K + 4) (by omega) rfl h0 hb
    unfold toksOf at c1
    rw [c1, Option.bind_some, if_pos rfl, madrigallaw01_LexEdited.j0, if_pos rfl]
    rfl
theorem walk_LexEdited (a : ByteArray) (p q : Int) (E : ByteArray) (r t : Int) (F : ByteArray) (w : World) (ha : a.size ≤ 140737488351232) (hp : -9223372036854775808 ≤ p ∧ p ≤ 9223372036854775807) (hq : -9223372036854775808 ≤ q ∧ q ≤ 9223372036854775807) (hE : E.size ≤ 140737488351232) (hr : -9223372036854775808 ≤ r ∧ r ≤ 9223372036854775807) (ht : -9223372036854775808 ≤ t ∧ t ≤ 9223372036854775807) (hF : F.size ≤ 140737488351232) (hG : GL w) :
    Calls Tryz.prog 10 #[.string a, .agg #[.int .i64 p, .int .i64 q, .string E], .agg #[.int .i64 r, .int .i64 t, .string F]] w fun e w' => e = .returned (.bool true) ∧ Below w.heap.size w w' := by
  obtain ⟨k, hk⟩ := pure_LexEdited a p q E r t F ha hp hq hE hr ht hF
  exact madrigallaw01_LexEdited.calls k a p q E r t F true w hk hG
end Go.Proofs.YtglgppkjgodlkaaGreatDoor
