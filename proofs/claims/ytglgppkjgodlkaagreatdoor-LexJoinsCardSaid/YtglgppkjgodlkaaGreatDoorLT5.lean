/- The kind of the token that a text is as a whole; what a token's step says of its bytes. No program in sight. Conditions: none. -/
import Derived.Test.YtglgppkjgodlkaaGreatDoorMA
namespace Go.Proofs.YtglgppkjgodlkaaGreatDoor.Lex
set_option linter.unusedVariables false
set_option linter.unusedSimpArgs false

theorem Runs.bounds {l : Bytes} {p : Nat} {ts : List Tok} {cs : List (Nat × Nat)} {l' : Bytes} {p' : Nat} (h : Runs l p ts cs l' p') : p ≤ p' ∧ ∀ t ∈ ts, p ≤ t.b ∧ t.b < t.e ∧ t.e ≤ p' := by
  induction h with
  | nil l p => exact ⟨Nat.le_refl _, fun t ht => by cases ht⟩
  | skip h r ih => exact ⟨by omega, fun t ht => by have := ih.2 t ht; omega⟩
  | comm h r ih => exact ⟨by omega, fun t ht => by have := ih.2 t ht; omega⟩
  | tok h r ih =>
    have hk := step_tok h
    refine ⟨by omega, fun t ht => ?_⟩
    rcases List.mem_cons.1 ht with rfl | ht
    · exact ⟨Nat.le_refl _, by simp; omega, ih.1⟩
    · have := ih.2 t ht
      omega
/-- Of a token's step: its kind and its text, out of its bytes. -/
def TokForm (kd n : Int) (s b : Bytes) : Prop := (kd = (if wordsL.contains b then 2 else 1) ∧ n = 0 ∧ s = b) ∨ (kd = 3 ∧ n = digVal b ∧ s = [] ∧ (digVal b : Nat) ≤ 2147483647 ∧ b ≠ [] ∧ b.all isDigit = true) ∨ (kd = (if signsL.contains b then 5 else 4) ∧ n = 0 ∧ s = b)
theorem takeWhile_take (f : UInt8 → Bool) (l : Bytes) : l.take (l.takeWhile f).length = l.takeWhile f := by
  induction l with
  | nil => rfl
  | cons c r ih =>
    rw [List.takeWhile_cons]
    split
    · rw [List.length_cons, List.take_succ_cons, ih]
    · rfl
theorem takeWhile_mem (f : UInt8 → Bool) : ∀ (l : Bytes) {x : UInt8}, x ∈ l.takeWhile f → f x = true
  | [], x, h => by cases h
  | c :: r, x, h => by
    rw [List.takeWhile_cons] at h
    split at h
    · rcases List.mem_cons.1 h with rfl | h
      · assumption
      · exact takeWhile_mem f r h
    · cases h
theorem markLen_sign {l : Bytes} {k : Nat} (h : markLen l = some k) : signsL.contains (l.take k) = true := by
  unfold markLen at h
  split at h
  · rename_i h1; injection h with h; subst h; exact h1.2
  · split at h
    · rename_i h1; injection h with h; subst h; exact h1.2
    · split at h
      · rename_i h1; injection h with h; subst h; exact h1.2
      · cases h
theorem step_form {l : Bytes} {kd n : Int} {s : Bytes} {k : Nat} (h : step l = .tok kd n s k) : TokForm kd n s (l.take k) := by
  cases l with
  | nil => cases h
  | cons c r =>
    unfold step at h
    simp only at h
    split at h
    · cases h
    split at h
    · unfold wordStep at h
      simp only at h
      split at h
      · cases h
      · injection h with h1 h2 h3 h4
        subst h1 h2 h3 h4
        rw [takeWhile_take]
        exact .inl ⟨rfl, rfl, rfl⟩
    split at h
    · rename_i hc
      unfold numStep at h
      simp only at h
      split at h
      · cases h
      · split at h
        · cases h
        · injection h with h1 h2 h3 h4
          subst h1 h2 h3 h4
          rw [takeWhile_take]
          refine .inr (.inl ⟨rfl, rfl, rfl, by omega, ?_, ?_⟩)
          · have := takeWhile_pos _ c r ((cls3 c).1 hc)
            intro e
            rw [e] at this
            simp at this
          · rw [List.all_eq_true]
            exact fun x hx => takeWhile_mem _ _ hx
    split at h
    · unfold symStep at h
      simp only at h
      split at h
      · cases h
      · injection h with h1 h2 h3 h4
        subst h1 h2 h3 h4
        rw [takeWhile_take]
        exact .inr (.inr ⟨rfl, rfl, rfl⟩)
    split at h
    · unfold markStep at h
      split at h
      · split at h <;> cases h
      · split at h
        · rename_i hk
          injection h with h1 h2 h3 h4
          subst h1 h2 h3 h4
          exact .inr (.inr ⟨by rw [if_pos (markLen_sign hk)], rfl, rfl⟩)
        · cases h
    · cases h
/-- The kind of the token that a text is as a whole. -/
def kindL (l : Bytes) : Int := match tokensL l with
  | ([t], _, 0) => if (t.e : Int) - (t.b : Int) = (l.length : Int) then t.kind else 0
  | _ => 0
theorem Runs.one {l : Bytes} {t : Tok} {cs : List (Nat × Nat)} {p p' : Nat} (h : Runs l p [t] cs [] p') (hp : p' = p + l.length) (ht : (t.e : Int) - (t.b : Int) = (l.length : Int)) : ∃ kd n s, step l = .tok kd n s l.length ∧ t = ⟨kd, n, s, p, p + l.length⟩ := by
  have hb := h.bounds.2 t (by simp)
  cases h with
  | skip h r => have := r.bounds.2 t (by simp); omega
  | comm h r =>
    have := r.bounds.2 t (by simp)
    have := step_comm h
    omega
  | @tok _ _ _ _ _ _ kd n s k h r =>
    have hk := step_tok h
    simp only at ht hb
    have : k = l.length := by omega
    subst this
    exact ⟨kd, n, s, h, rfl⟩
theorem cut_one {l : Bytes} {t : Tok} {cs : List (Nat × Nat)} (h : cutL l = .done [t] cs) (ht : (t.e : Int) - (t.b : Int) = (l.length : Int)) : ∃ kd n s, step l = .tok kd n s l.length ∧ t = ⟨kd, n, s, 0, l.length⟩ := by
  obtain ⟨kd, n, s, h1, h2⟩ := (cut_done h).one (by omega) ht
  exact ⟨kd, n, s, h1, by rw [h2]; simp⟩
theorem tokens_done {l : Bytes} {ts : List Tok} {p : Nat} (h : tokensL l = (ts, p, 0)) : p = 0 ∧ l.length ≤ 100000 ∧ ts.length ≤ 20000 ∧ ∃ cs, cutL l = .done ts cs := by
  unfold tokensL at h
  split at h
  · injection h with _ h; injection h with _ h; cases h
  · rename_i hl
    split at h
    · injection h with _ h; injection h with _ h; cases h
    · rename_i ts2 cs hc
      split at h
      · injection h with _ h; injection h with _ h; cases h
      · injection h with h1 h; injection h with h2 h
        subst h1 h2
        exact ⟨rfl, by omega, by omega, cs, hc⟩
/-- A text that is one token as a whole: its step takes all of it. -/
theorem kind_step {l : Bytes} (h : kindL l ≠ 0) : ∃ n s, step l = .tok (kindL l) n s l.length ∧ l.length ≤ 100000 := by
  unfold kindL at h ⊢
  split
  · rename_i t p hh
    rw [hh] at h
    simp only at h
    split at h
    · rename_i ht
      rw [if_pos ht]
      obtain ⟨_, hl, _, cs, hc⟩ := tokens_done hh
      obtain ⟨kd, n, s, h1, h2⟩ := cut_one hc ht
      exact ⟨n, s, by rw [h1, h2], hl⟩
    · exact absurd rfl h
  · rename_i hh
    exfalso
    apply h
    split
    · rename_i t p h2
      exact absurd h2 (hh t p)
    · rfl
theorem step_cutL {l : Bytes} {kd n : Int} {s : Bytes} (h : step l = .tok kd n s l.length) : cutL l = .done [⟨kd, n, s, 0, l.length⟩] [] := by
  have r : Runs l 0 [⟨kd, n, s, 0, 0 + l.length⟩] [] [] l.length := .tok h (by rw [Nat.zero_add, List.drop_length]; exact .nil _ _)
  rw [Nat.zero_add] at r
  exact cut_of_done r
theorem step_tokens {l : Bytes} {kd n : Int} {s : Bytes} (h : step l = .tok kd n s l.length) (hl : l.length ≤ 100000) : tokensL l = ([⟨kd, n, s, 0, l.length⟩], 0, 0) := by
  unfold tokensL
  rw [if_neg (by omega), step_cutL h]
  rfl
theorem step_kind {l : Bytes} {kd n : Int} {s : Bytes} (h : step l = .tok kd n s l.length) (hl : l.length ≤ 100000) : kindL l = kd := by
  unfold kindL
  rw [step_tokens h hl]
  simp
theorem step_kd {l : Bytes} {kd n : Int} {s : Bytes} {k : Nat} (h : step l = .tok kd n s k) : 1 ≤ kd ∧ kd ≤ 5 := by
  rcases step_form h with ⟨h, _⟩ | ⟨h, _⟩ | ⟨h, _⟩ <;> rw [h]
  · split <;> omega
  · omega
  · split <;> omega
/-- A name is no word of the language, symbols are no sign. -/
theorem kind_words {l : Bytes} (h : kindL l = 1 ∨ kindL l = 2) : wordsL.contains l = (kindL l == 2) := by
  obtain ⟨n, s, hs, hl⟩ := kind_step (l := l) (by omega)
  have hf := step_form hs
  rw [List.take_length] at hf
  rcases hf with ⟨hk, _⟩ | ⟨hk, _⟩ | ⟨hk, _⟩
  · rw [hk]
    cases wordsL.contains l <;> rfl
  · omega
  · rw [hk] at h
    split at h <;> omega
theorem kind_signs {l : Bytes} (h : kindL l = 4 ∨ kindL l = 5) : signsL.contains l = (kindL l == 5) := by
  obtain ⟨n, s, hs, hl⟩ := kind_step (l := l) (by omega)
  have hf := step_form hs
  rw [List.take_length] at hf
  rcases hf with ⟨hk, _⟩ | ⟨hk, _⟩ | ⟨hk, _⟩
  · rw [hk] at h
    split at h <;> omega
  · omega
  · rw [hk]
    cases signsL.contains l <;> rfl
theorem all_words : (wordsL.all fun w => kindL w == 2) = true := by decide +kernel
theorem all_signs : (signsL.all fun w => kindL w == 5) = true := by decide +kernel
end Go.Proofs.YtglgppkjgodlkaaGreatDoor.Lex
