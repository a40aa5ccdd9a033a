/- Join, plainly: its cut, and that no shorter text is cut so. No program in sight. Conditions: none. -/
import Derived.Test.YtglgppkjgodlkaaGreatDoorLTA
namespace Go.Proofs.YtglgppkjgodlkaaGreatDoor.Lex
set_option linter.unusedVariables false
set_option linter.unusedSimpArgs false

/-- two right tokens can stand side by side -/
def Apart (a b : Tok) : Prop := step (a.txt ++ b.txt) = .tok a.kind a.n a.s a.txt.length
theorem Right.ne {t : Tok} (h : Right t) : t.txt ≠ [] := by
  intro e
  unfold Right at h
  rw [e] at h
  cases h
theorem Right.cons {t : Tok} (h : Right t) : ∃ c r, t.txt = c :: r := by
  cases e : t.txt with
  | nil => exact absurd e h.ne
  | cons c r => exact ⟨c, r, rfl⟩
theorem Apart.more {a b : Tok} (hb : Right b) (h : Apart a b) (R : Bytes) : step (a.txt ++ (b.txt ++ R)) = .tok a.kind a.n a.s a.txt.length := by
  obtain ⟨c, r, e⟩ := hb.cons
  unfold Apart at h
  rw [e] at h ⊢
  exact step_next (.inl rfl) h
open Classical in
noncomputable def sepL (a b : Tok) : Bytes := if Apart a b then [] else [32]
noncomputable def joinL : List Tok → Bytes
  | [] => []
  | [a] => a.txt
  | a :: b :: r => a.txt ++ (sepL a b ++ joinL (b :: r))
theorem joinL_cons (b : Tok) (r : List Tok) : ∃ R, joinL (b :: r) = b.txt ++ R := by
  cases r with
  | nil => exact ⟨[], by rw [List.append_nil]; rfl⟩
  | cons c r => exact ⟨_, rfl⟩
/-- the tokens alike, one by one -/
inductive Likes : List Tok → List Tok → Prop
  | nil : Likes [] []
  | cons {a b : Tok} {as bs : List Tok} (h : Like a b) (r : Likes as bs) : Likes (a :: as) (b :: bs)
theorem Likes.length {as bs : List Tok} (h : Likes as bs) : as.length = bs.length := by
  induction h with
  | nil => rfl
  | cons h r ih => simp [ih]
theorem Likes.get {as bs : List Tok} (h : Likes as bs) : ∀ (i : Nat) (h1 : i < as.length) (h2 : i < bs.length), Like as[i] bs[i] := by
  induction h with
  | nil => intro i h1; exact absurd h1 (by simp)
  | cons h r ih =>
    intro i h1 h2
    cases i with
    | zero => exact h
    | succ i => exact ih i (by simpa using h1) (by simpa using h2)
theorem Likes.of_get : ∀ {as bs : List Tok}, as.length = bs.length → (∀ (i : Nat) (h1 : i < as.length) (h2 : i < bs.length), Like as[i] bs[i]) → Likes as bs
  | [], [], _, _ => .nil
  | [], _ :: _, h, _ => by simp at h
  | _ :: _, [], h, _ => by simp at h
  | a :: as, b :: bs, h, g => .cons (g 0 (by simp) (by simp)) (Likes.of_get (by simpa using h) (fun i h1 h2 => g (i + 1) (by simpa using h1) (by simpa using h2)))
/-- THE TEXT OF TOKENS is cut into them. -/
theorem join_runs : ∀ (L : List Tok), (∀ t ∈ L, Right t) → ∀ p, ∃ ts, Runs (joinL L) p ts [] [] (p + (joinL L).length) ∧ Likes ts L
  | [], _, p => ⟨[], .nil _ _, .nil⟩
  | [a], h, p => by
    have ha := h a (by simp)
    refine ⟨[⟨a.kind, a.n, a.s, p, p + a.txt.length⟩], ?_, .cons ⟨rfl, rfl, rfl⟩ .nil⟩
    exact .tok ha (by rw [show joinL [a] = a.txt from rfl, List.drop_length]; exact .nil _ _)
  | a :: b :: r, h, p => by
    have ha := h a (by simp)
    have hb := h b (by simp)
    obtain ⟨R, hR⟩ := joinL_cons b r
    have hj : joinL (a :: b :: r) = a.txt ++ (sepL a b ++ joinL (b :: r)) := rfl
    by_cases hap : Apart a b
    · have hs : sepL a b = [] := by unfold sepL; rw [if_pos hap]
      obtain ⟨ts, hr, hl⟩ := join_runs (b :: r) (fun t ht => h t (by simp [List.mem_cons.1 ht])) (p + a.txt.length)
      rw [hj, hs, List.nil_append]
      refine ⟨⟨a.kind, a.n, a.s, p, p + a.txt.length⟩ :: ts, .tok (by rw [hR]; exact hap.more hb R) ?_, .cons ⟨rfl, rfl, rfl⟩ hl⟩
      rw [List.drop_left, List.length_append, ← Nat.add_assoc]
      exact hr
    · have hs : sepL a b = [32] := by unfold sepL; rw [if_neg hap]
      obtain ⟨ts, hr, hl⟩ := join_runs (b :: r) (fun t ht => h t (by simp [List.mem_cons.1 ht])) (p + a.txt.length + 1)
      rw [hj, hs]
      have h1 : step (a.txt ++ ([32] ++ joinL (b :: r))) = .tok a.kind a.n a.s a.txt.length := by
        have := step_sep (x := 32) (r := joinL (b :: r)) rfl a.txt ha.ne (.inl (by unfold Right at ha; rw [ha]; simp))
        rw [show a.txt ++ ([32] ++ joinL (b :: r)) = a.txt ++ 32 :: joinL (b :: r) from rfl, this]
        exact ha
      refine ⟨⟨a.kind, a.n, a.s, p, p + a.txt.length⟩ :: ts, .tok h1 ?_, .cons ⟨rfl, rfl, rfl⟩ hl⟩
      rw [List.drop_left]
      refine .skip (blank_step (x := 32) rfl _) ?_
      rw [List.length_append, List.length_append, List.length_singleton, show p + (a.txt.length + (1 + (joinL (b :: r)).length)) = p + a.txt.length + 1 + (joinL (b :: r)).length by omega]
      exact hr
theorem takeWhile_whole {f : UInt8 → Bool} : ∀ {A : Bytes}, (∀ x ∈ A, f x = true) → A.takeWhile f = A
  | [], _ => rfl
  | x :: A, h => by rw [List.takeWhile_cons, if_pos (h x (by simp)), takeWhile_whole (fun y hy => h y (by simp [hy]))]
/-- Two tokens without a byte between can stand side by side, however their numbers are written. -/
theorem adjacent {a b : Tok} (ha : Right a) (hb : Right b) {v : Bytes} {k1 k2 : Nat} (h1 : step v = .tok a.kind a.n a.s k1) (h2 : step (v.drop k1) = .tok b.kind b.n b.s k2) : Apart a b := by
  have hk1 := step_tok h1
  have hk2 := step_tok h2
  obtain ⟨c', R', hR'⟩ := hb.cons
  obtain ⟨c, R, hR⟩ : ∃ c R, v.drop k1 = c :: R := by
    cases e : v.drop k1 with
    | nil => rw [e] at hk2; simp at hk2; omega
    | cons c R => exact ⟨c, R, rfl⟩
  have hv : v = v.take k1 ++ c :: R := by rw [← hR, List.take_append_drop]
  -- how b begins
  have hsort : SameSort c c' ∧ (b.kind ≠ 3 → c' = c) ∧ (b.kind = 3 → isDigit c = true) := by
    rw [hR] at h2 hk2
    by_cases hb3 : b.kind = 3
    · have g1 : isDigit c = true := by
        rcases step_form h2 with ⟨e, _⟩ | ⟨_, _, _, _, _, e⟩ | ⟨e, _⟩
        · rw [hb3] at e; split at e <;> omega
        · obtain ⟨k, rfl⟩ : ∃ j, k2 = j + 1 := ⟨k2 - 1, by omega⟩
          rw [List.take_succ_cons, List.all_cons, Bool.and_eq_true] at e
          exact e.1
        · rw [hb3] at e; split at e <;> omega
      have g2 : isDigit c' = true := by
        have := hb
        unfold Right at this
        rcases step_form this with ⟨e, _⟩ | ⟨_, _, _, _, _, e⟩ | ⟨e, _⟩
        · rw [hb3] at e; split at e <;> omega
        · rw [List.take_length, hR', List.all_cons, Bool.and_eq_true] at e
          exact e.1
        · rw [hb3] at e; split at e <;> omega
      exact ⟨.inr ⟨g1, g2⟩, fun h => absurd hb3 h, fun _ => g1⟩
    · have e : c' = c := by
        have hs : b.s = (c :: R).take k2 := by
          rcases step_form h2 with ⟨_, _, e⟩ | ⟨e, _⟩ | ⟨_, _, e⟩
          · exact e
          · exact absurd e hb3
          · exact e
        have ht : b.txt = b.s := by unfold Tok.txt txt; rw [if_neg hb3]
        obtain ⟨k, rfl⟩ : ∃ j, k2 = j + 1 := ⟨k2 - 1, by omega⟩
        rw [ht, hs, List.take_succ_cons] at hR'
        injection hR' with e _
        exact e.symm
      exact ⟨.inl e, fun _ => e, fun h => absurd h hb3⟩
  unfold Apart
  rw [hR']
  have hlen : (v.take k1).length = k1 := by rw [List.length_take]; omega
  by_cases ha3 : a.kind = 3
  · -- a number: its digits end here, and no name goes on
    have hra := ha
    unfold Right at hra
    have hall : ∀ x ∈ a.txt, isDigit x = true := by
      rcases step_form hra with ⟨e, _⟩ | ⟨_, _, _, _, _, e⟩ | ⟨e, _⟩
      · rw [ha3] at e; split at e <;> omega
      · rw [List.take_length, List.all_eq_true] at e; exact e
      · rw [ha3] at e; split at e <;> omega
    rw [hv] at h1
    have h1' : step (v.take k1 ++ c :: R) = .tok a.kind a.n a.s (v.take k1).length := by rw [hlen]; exact h1
    -- the first byte is a digit in both
    have dig : ∀ {l : Bytes} {k : Nat}, step l = .tok a.kind a.n a.s k → numStep l = .tok a.kind a.n a.s k := by
      intro l k h
      cases l with
      | nil => cases h
      | cons x l =>
        have hk := step_tok h
        obtain ⟨j, rfl⟩ : ∃ j, k = j + 1 := ⟨k - 1, by omega⟩
        have hx : isDigit x = true := by
          rcases step_form h with ⟨e, _⟩ | ⟨_, _, _, _, _, e⟩ | ⟨e, _⟩
          · rw [ha3] at e; split at e <;> omega
          · rw [List.take_succ_cons, List.all_cons, Bool.and_eq_true] at e; exact e.1
          · rw [ha3] at e; split at e <;> omega
        have hc3 := (cls3 x).2 hx
        have e : step (x :: l) = numStep (x :: l) := by
          show (if cls x = 1 then _ else if cls x = 2 then _ else if cls x = 3 then _ else _) = _
          rw [if_neg (by omega), if_neg (by omega), if_pos hc3]
        rw [← e]; exact h
    have n1 := dig h1'
    have n2 := dig hra
    unfold numStep at n1 n2
    simp only at n1 n2
    split at n1
    · cases n1
    · split at n1
      · cases n1
      · rename_i _ hx1
        injection n1 with _ _ _ g4
        obtain ⟨f1, f2⟩ := takeWhile_next g4
        have t1 := takeWhile_all (R := R) f1 f2
        rw [t1, List.drop_left] at hx1
        have hb3 : b.kind ≠ 3 := fun h => by rw [hsort.2.2 h] at f2; cases f2
        have hcc := hsort.2.1 hb3
        subst hcc
        split at n2
        · cases n2
        · rename_i hv2
          split at n2
          · cases n2
          · injection n2 with m1 m2 m3 _
            have t2 : a.txt.takeWhile isDigit = a.txt := takeWhile_whole hall
            rw [t2] at hv2 m2
            have t3 := takeWhile_all (R := R') hall f2
            obtain ⟨x, l, hxl⟩ := ha.cons
            have hc3 := (cls3 x).2 (hall x (by rw [hxl]; simp))
            have e : step (a.txt ++ c' :: R') = numStep (a.txt ++ c' :: R') := by
              rw [hxl]
              show (if cls x = 1 then _ else if cls x = 2 then _ else if cls x = 3 then _ else _) = _
              rw [if_neg (by omega), if_neg (by omega), if_pos hc3]
            have hx3 : ¬ nextInName (c' :: R') = true := hx1
            rw [e]
            unfold numStep
            simp only
            rw [t3, List.drop_left, if_neg hv2, if_neg hx3, ← m1, ← m2, ← m3]
  · have hs : a.s = v.take k1 := by
      rcases step_form h1 with ⟨_, _, e⟩ | ⟨e, _⟩ | ⟨_, _, e⟩
      · exact e
      · exact absurd e ha3
      · exact e
    have ht : a.txt = v.take k1 := by unfold Tok.txt txt; rw [if_neg ha3, hs]
    rw [hv] at h1
    have h1' : step (v.take k1 ++ c :: R) = .tok a.kind a.n a.s (v.take k1).length := by rw [hlen]; exact h1
    rw [ht]
    exact step_next hsort.1 h1'
/-- NO SHORTER TEXT: from the first token's first byte on there are at least as many bytes as in the joined text. -/
theorem join_least : ∀ (L : List Tok), (∀ t ∈ L, Right t) → ∀ {u : Bytes} {p : Nat} {t : Tok} {ts : List Tok} {cs : List (Nat × Nat)} {p' : Nat}, Runs u p (t :: ts) cs [] p' → Likes (t :: ts) L → t.b + (joinL L).length ≤ p'
  | [], _, u, p, t, ts, cs, p', h, hl => by cases hl
  | [a], hR, u, p, t, ts, cs, p', h, hl => by
    cases hl with
    | cons hlk hr =>
      have hb := h.bounds.2 t (by simp)
      obtain ⟨k, h1, h2⟩ := h.step_at t (by simp)
      have := step_least h1
      rw [hlk.1, hlk.2.1, hlk.2.2] at this
      show t.b + a.txt.length ≤ p'
      have e : a.txt.length ≤ k := this
      omega
  | a :: b :: r, hR, u, p, t, ts, cs, p', h, hl => by
    cases hl with
    | cons hlk hr =>
      cases ts with
      | nil => cases hr
      | cons t2 ts =>
        obtain ⟨c1, c2, k, g1, g2, g3, g4, g5, g6⟩ := h.split t _ rfl
        have ih := join_least (b :: r) (fun t ht => hR t (by simp [List.mem_cons.1 ht])) g5 hr
        have hb2 := g5.bounds.2 t2 (by simp)
        have hle : a.txt.length ≤ k := by
          have := step_least g3
          rw [hlk.1, hlk.2.1, hlk.2.2] at this
          exact this
        have hj : (joinL (a :: b :: r)).length = a.txt.length + ((sepL a b).length + (joinL (b :: r)).length) := by
          show (a.txt ++ (sepL a b ++ joinL (b :: r))).length = _
          rw [List.length_append, List.length_append]
        rw [hj]
        by_cases hadj : t2.b = t.e
        · have hap : Apart a b := by
            cases hr with
            | cons hlk2 _ =>
              obtain ⟨k2, q1, q2⟩ := g5.step_at t2 (by simp)
              have e : (u.drop (t.b - p)).drop k = (u.drop (t.e - p)).drop (t2.b - t.e) := by
                rw [hadj, Nat.sub_self, List.drop_zero, List.drop_drop, show t.b - p + k = t.e - p by omega]
              rw [← e, hlk2.1, hlk2.2.1, hlk2.2.2] at q1
              rw [hlk.1, hlk.2.1, hlk.2.2] at g3
              exact adjacent (hR a (by simp)) (hR b (by simp)) g3 q1
          have hs : sepL a b = [] := by unfold sepL; rw [if_pos hap]
          rw [hs]
          simp
          omega
        · have hs : (sepL a b).length ≤ 1 := by unfold sepL; split <;> simp
          omega
end Go.Proofs.YtglgppkjgodlkaaGreatDoor.Lex
