/- Tokens put together are cut into these; no shorter text is cut into them. No program in sight. Conditions: none. -/
import Derived.Test.YtglgppkjgodlkaaGreatDoorLT7
import Derived.Lib.ItoaNum
namespace Go.Proofs.YtglgppkjgodlkaaGreatDoor.Lex
set_option linter.unusedVariables false
set_option linter.unusedSimpArgs false

/-- what a token is written as -/
def txt (kd n : Int) (s : Bytes) : Bytes := if kd = 3 then Lib.itoa n else s
def Tok.txt (t : Tok) : Bytes := Lex.txt t.kind t.n t.s
def Like (a b : Tok) : Prop := a.kind = b.kind ∧ a.n = b.n ∧ a.s = b.s
theorem Like.txt {a b : Tok} (h : Like a b) : a.txt = b.txt := by unfold Tok.txt; rw [h.1, h.2.1, h.2.2]
/-- a right token: its text is cut into it -/
def Right (t : Tok) : Prop := step t.txt = .tok t.kind t.n t.s t.txt.length

theorem digFold_lt : ∀ (l : Bytes) (a : Nat), l.all isDigit = true → l.foldl (fun a c => 10 * a + (c.toNat - 48)) a < (a + 1) * 10 ^ l.length
  | [], a, _ => by simp
  | c :: l, a, h => by
    rw [List.all_cons, Bool.and_eq_true] at h
    have hc := h.1
    have h9 : c.toNat ≤ 57 := by
      unfold isDigit at hc
      rw [Bool.and_eq_true, decide_eq_true_eq, decide_eq_true_eq, UInt8.le_iff_toNat_le, UInt8.le_iff_toNat_le] at hc
      exact hc.2
    have := digFold_lt l (10 * a + (c.toNat - 48)) h.2
    rw [List.foldl_cons, List.length_cons, Nat.pow_succ]
    refine Nat.lt_of_lt_of_le this ?_
    rw [show (a + 1) * (10 ^ l.length * 10) = (10 * a + 10) * 10 ^ l.length by rw [← Nat.mul_assoc, Nat.mul_right_comm, show (a + 1) * 10 = 10 * a + 10 by omega]]
    exact Nat.mul_le_mul_right _ (by omega)
theorem digVal_lt (l : Bytes) (h : l.all isDigit = true) : digVal l < 10 ^ l.length := by
  have := digFold_lt l 0 h
  unfold digVal
  omega
theorem nDigits_le (u k : Nat) (h : u < 10 ^ (k + 1)) : Lib.nDigits u ≤ k + 1 := by
  induction k generalizing u with
  | zero => rw [Lib.nDigits_small (by simpa using h)]; exact Nat.le_refl _
  | succ k ih =>
    by_cases hu : u < 10
    · rw [Lib.nDigits_small hu]; omega
    · rw [Lib.nDigits_big hu]
      have := ih (u / 10) (by rw [Nat.pow_succ] at h; omega)
      omega
theorem itoa_short (d : Bytes) (hd : d ≠ []) (h : d.all isDigit = true) : (Lib.itoa (digVal d : Nat)).length ≤ d.length := by
  have e : Lib.itoa ((digVal d : Nat) : Int) = Lib.decDigits (digVal d) := by unfold Lib.itoa; rw [if_neg (by omega)]; simp
  rw [e, Lib.decDigits_length]
  have hl : 1 ≤ d.length := by cases d with | nil => exact absurd rfl hd | cons => simp
  obtain ⟨k, hk⟩ : ∃ k, d.length = k + 1 := ⟨d.length - 1, by omega⟩
  have := digVal_lt d h
  rw [hk] at this ⊢
  exact nDigits_le _ _ this
/-- A token takes at least the bytes that it is written with. -/
theorem step_least {l : Bytes} {kd n : Int} {s : Bytes} {k : Nat} (h : step l = .tok kd n s k) : (txt kd n s).length ≤ k := by
  have hk := step_tok h
  have hlen : (l.take k).length = k := by rw [List.length_take]; omega
  unfold txt
  rcases step_form h with ⟨h1, _, h3⟩ | ⟨h1, h2, _, _, h5, h6⟩ | ⟨h1, _, h3⟩
  · rw [if_neg (by rw [h1]; split <;> decide), h3, hlen]; exact Nat.le_refl _
  · rw [if_pos h1, h2]
    have := itoa_short _ h5 h6
    omega
  · rw [if_neg (by rw [h1]; split <;> decide), h3, hlen]; exact Nat.le_refl _
theorem takeWhile_next {f : UInt8 → Bool} {A R : Bytes} {c : UInt8} (h : ((A ++ c :: R).takeWhile f).length = A.length) : (∀ x ∈ A, f x = true) ∧ f c = false := by
  induction A with
  | nil =>
    refine ⟨(fun x hx => by cases hx), ?_⟩
    rw [List.nil_append, List.takeWhile_cons] at h
    cases hf : f c with
    | false => rfl
    | true =>
      rw [if_pos hf] at h
      simp at h
  | cons a A ih =>
    rw [List.cons_append, List.takeWhile_cons] at h
    split at h
    · rename_i ha
      have := ih (by simpa using h)
      refine ⟨fun x hx => ?_, this.2⟩
      rcases List.mem_cons.1 hx with rfl | hx
      · exact ha
      · exact this.1 x hx
    · simp at h
theorem takeWhile_all {f : UInt8 → Bool} {A R : Bytes} {c : UInt8} (h : ∀ x ∈ A, f x = true) (hc : f c = false) : (A ++ c :: R).takeWhile f = A := by
  induction A with
  | nil => rw [List.nil_append, List.takeWhile_cons, if_neg (by rw [hc]; simp)]
  | cons a A ih => rw [List.cons_append, List.takeWhile_cons, if_pos (h a (by simp)), ih (fun x hx => h x (by simp [hx]))]
/-- the byte behind a token may be another one of the same sort -/
def SameSort (c c' : UInt8) : Prop := c' = c ∨ (isDigit c = true ∧ isDigit c' = true)
theorem digit_facts : ∀ c : UInt8, isDigit c = true → inName c = true ∧ isSym c = false ∧ c ≠ 42 ∧ (signsL.all fun s => !(s.contains c)) = true := fun c =>
  all_bytes (p := fun c => isDigit c = true → inName c = true ∧ isSym c = false ∧ c ≠ 42 ∧ (signsL.all fun s => !(s.contains c)) = true) (by decide +kernel) c
theorem three_one : (signsL.all fun s => !(s.length == 3 && signsL.contains (s.take 1))) = true := by decide +kernel
theorem sign_in {s : Bytes} (h : signsL.contains s = true) : s ∈ signsL := List.contains_iff_mem.1 h
theorem take_app_le {A R : Bytes} {n : Nat} (h : n ≤ A.length) : (A ++ R).take n = A.take n := List.take_append_of_le_length h
theorem mark_next {A R R' : Bytes} {c c' : UInt8} (hs : SameSort c c') (h : markLen (A ++ c :: R) = some A.length) : markLen (A ++ c' :: R') = some A.length := by
  have hb := markLen_bounds _ _ h
  have hsig := markLen_sign h
  rw [List.take_left] at hsig
  -- what is longer is no sign
  have long : ∀ n, A.length < n → n ≤ 3 → ¬ (n ≤ (A ++ c' :: R').length ∧ signsL.contains ((A ++ c' :: R').take n) = true) := by
    intro n hn hn3 ⟨hle, hc⟩
    obtain ⟨m, rfl⟩ : ∃ m, n = A.length + (m + 1) := ⟨n - A.length - 1, by omega⟩
    have ht : (A ++ c' :: R').take (A.length + (m + 1)) = A ++ c' :: R'.take m := by
      rw [List.take_append, List.take_of_length_le (by omega), show A.length + (m + 1) - A.length = m + 1 by omega, List.take_succ_cons]
    rw [ht] at hc
    rcases hs with rfl | ⟨hd, hd'⟩
    · cases m with
      | zero =>
        -- the first text would have had the longer sign
        have e : (A ++ c' :: R).take (A.length + 1) = A ++ [c'] := by
          rw [List.take_append, List.take_of_length_le (by omega), show A.length + 1 - A.length = 0 + 1 by omega, List.take_succ_cons, List.take_zero]
        have hl2 : A.length + 1 ≤ (A ++ c' :: R).length := by simp
        rw [List.take_zero] at hc
        unfold markLen at h
        rcases (show A.length = 1 ∨ A.length = 2 by omega) with e1 | e1
        · rw [e1] at h e hl2
          split at h
          · injection h with h; omega
          · rw [if_pos ⟨hl2, by rw [e]; exact hc⟩] at h
            injection h with h; omega
        · rw [e1] at h e hl2
          rw [if_pos ⟨hl2, by rw [e]; exact hc⟩] at h
          injection h with h; omega
      | succ m =>
        have hA1 : A.length = 1 := by omega
        have hm : m = 0 := by omega
        subst hm
        have h3 := List.all_eq_true.1 three_one _ (sign_in hc)
        have hl3 : (A ++ c' :: R'.take 1).length = 3 := by
          rw [List.length_append, List.length_cons] at hle
          rw [List.length_append, List.length_cons, List.length_take]
          omega
        have ht1 : (A ++ c' :: R'.take 1).take 1 = A := by rw [take_app_le (by omega), List.take_of_length_le (by omega)]
        rw [hl3, ht1, hsig] at h3
        simp at h3
    · have h4 := (digit_facts c' hd').2.2.2
      have h5 := List.all_eq_true.1 h4 _ (sign_in hc)
      simp at h5
  have hself : A.length ≤ (A ++ c' :: R').length ∧ signsL.contains ((A ++ c' :: R').take A.length) = true := ⟨by simp, by rw [List.take_left]; exact hsig⟩
  unfold markLen
  rcases (show A.length = 1 ∨ A.length = 2 ∨ A.length = 3 by omega) with e1 | e1 | e1
  · rw [e1] at hself ⊢
    rw [if_neg (long 3 (by omega) (by omega)), if_neg (long 2 (by omega) (by omega)), if_pos hself]
  · rw [e1] at hself ⊢
    rw [if_neg (long 3 (by omega) (by omega)), if_pos hself]
  · rw [e1] at hself ⊢
    rw [if_pos hself]
theorem beg_next {A R R' : Bytes} {c c' : UInt8} (hA : A ≠ []) (hs : SameSort c c') (h : begComment (A ++ c :: R) = false) : begComment (A ++ c' :: R') = false := by
  match A, hA with
  | [a], _ =>
    cases hb : begComment (a :: c' :: R') with
    | false => exact hb
    | true =>
      exfalso
      unfold begComment at hb
      split at hb
      · rename_i h2
        injection h2 with e1 h2
        injection h2 with e2 _
        subst e1 e2
        rcases hs with e | ⟨_, hd⟩
        · subst e
          simp [begComment] at h
        · exact absurd hd (by decide)
      · cases hb
  | a :: b :: A, _ =>
    cases hb : begComment (a :: b :: (A ++ c' :: R')) with
    | false => exact hb
    | true =>
      exfalso
      unfold begComment at hb
      split at hb
      · rename_i h2
        injection h2 with e1 h2
        injection h2 with e2 _
        subst e1 e2
        simp [begComment] at h
      · cases hb
/-- A STEP LOOKS ONE BYTE AHEAD. -/
theorem step_next {A R R' : Bytes} {c c' : UInt8} {kd n : Int} {s : Bytes} (hs : SameSort c c') (h : step (A ++ c :: R) = .tok kd n s A.length) : step (A ++ c' :: R') = .tok kd n s A.length := by
  have hk := step_tok h
  match A, hk with
  | a :: A, _ =>
    have e : ∀ X, step (a :: X) = if cls a = 1 then .skip else if cls a = 2 then wordStep (a :: X) else if cls a = 3 then numStep (a :: X) else if cls a = 4 then symStep (a :: X) else if cls a = 5 then markStep (a :: X) else .bad := fun X => rfl
    rw [List.cons_append, e] at h ⊢
    split at h
    · cases h
    split at h
    · rename_i _ h2
      rw [if_pos h2, if_neg (by omega)]
      unfold wordStep at h ⊢
      simp only at h ⊢
      split at h
      · cases h
      · rename_i hl
        injection h with g1 g2 g3 g4
        obtain ⟨f1, f2⟩ := takeWhile_next (A := a :: A) (c := c) (R := R) g4
        have hc' : inName c' = false := by
          rcases hs with rfl | ⟨hd, _⟩
          · exact f2
          · rw [(digit_facts c hd).1] at f2; cases f2
        have t1 : (a :: (A ++ c :: R)).takeWhile inName = a :: A := takeWhile_all (A := a :: A) f1 f2
        have t2 : (a :: (A ++ c' :: R')).takeWhile inName = a :: A := takeWhile_all (A := a :: A) f1 hc'
        rw [t1] at g1 g3 hl
        rw [t2, if_neg hl, ← g1, ← g2, ← g3]
    split at h
    · rename_i _ _ h3
      rw [if_neg (by omega), if_neg (by omega), if_pos h3]
      unfold numStep at h ⊢
      simp only at h ⊢
      split at h
      · cases h
      · split at h
        · cases h
        · rename_i hv hx
          injection h with g1 g2 g3 g4
          obtain ⟨f1, f2⟩ := takeWhile_next (A := a :: A) (c := c) (R := R) g4
          have t1 : (a :: (A ++ c :: R)).takeWhile isDigit = a :: A := takeWhile_all (A := a :: A) f1 f2
          have hcc : c' = c := by
            rcases hs with e | ⟨hd, _⟩
            · exact e
            · rw [hd] at f2; cases f2
          subst hcc
          have t2 : (a :: (A ++ c' :: R')).takeWhile isDigit = a :: A := takeWhile_all (A := a :: A) f1 f2
          have d1 : (a :: (A ++ c' :: R)).drop (a :: A).length = c' :: R := by rw [← List.cons_append, List.drop_left]
          have d2 : (a :: (A ++ c' :: R')).drop (a :: A).length = c' :: R' := by rw [← List.cons_append, List.drop_left]
          rw [t1] at hv hx g2
          rw [d1] at hx
          have hx2 : ¬ nextInName (c' :: R') = true := hx
          rw [t2, d2, if_neg hv, if_neg hx2, ← g1, ← g2, ← g3]
    split at h
    · rename_i _ _ _ h4
      rw [if_neg (by omega), if_neg (by omega), if_neg (by omega), if_pos h4]
      unfold symStep at h ⊢
      simp only at h ⊢
      split at h
      · cases h
      · rename_i hl
        injection h with g1 g2 g3 g4
        obtain ⟨f1, f2⟩ := takeWhile_next (A := a :: A) (c := c) (R := R) g4
        have hc' : isSym c' = false := by
          rcases hs with rfl | ⟨_, hd⟩
          · exact f2
          · exact (digit_facts c' hd).2.1
        have t1 : (a :: (A ++ c :: R)).takeWhile isSym = a :: A := takeWhile_all (A := a :: A) f1 f2
        have t2 : (a :: (A ++ c' :: R')).takeWhile isSym = a :: A := takeWhile_all (A := a :: A) f1 hc'
        rw [t1] at g1 g3 hl
        rw [t2, if_neg hl, ← g1, ← g2, ← g3]
    split at h
    · rename_i _ _ _ _ h5
      rw [if_neg (by omega), if_neg (by omega), if_neg (by omega), if_neg (by omega), if_pos h5]
      unfold markStep at h ⊢
      split at h
      · split at h <;> cases h
      · rename_i hb
        have hb2 := beg_next (A := a :: A) (R' := R') (by simp) hs (by simpa using hb)
        rw [← List.cons_append, if_neg (by rw [hb2]; simp)]
        split at h
        · rename_i k hm
          injection h with g1 g2 g3 g4
          subst g4
          have hm2 := mark_next (A := a :: A) (R' := R') hs (by rw [List.cons_append]; exact hm)
          rw [hm2, ← g1, ← g2, ← g3, ← List.cons_append, List.take_left]
          show Step.tok 5 0 ((a :: A ++ c' :: R').take (a :: A).length) (a :: A).length = _
          rw [List.take_left]
        · cases h
    · cases h
end Go.Proofs.YtglgppkjgodlkaaGreatDoor.Lex
