/- Runs: where a token is cut, the parts ahead of it and behind it, at another place. No program in sight. Conditions: none. -/
import Derived.Test.YtglgppkjgodlkaaGreatDoorLT5
namespace Go.Proofs.YtglgppkjgodlkaaGreatDoor.Lex
set_option linter.unusedVariables false
set_option linter.unusedSimpArgs false

/-- ahead of the first token, the token, behind it -/
theorem Runs.split {l : Bytes} {p : Nat} {ts : List Tok} {cs : List (Nat × Nat)} {l' : Bytes} {p' : Nat} (h : Runs l p ts cs l' p') : ∀ (t : Tok) (ts' : List Tok), ts = t :: ts' →
    ∃ cs1 cs2 k, p ≤ t.b ∧ Runs l p [] cs1 (l.drop (t.b - p)) t.b ∧ step (l.drop (t.b - p)) = .tok t.kind t.n t.s k ∧ t.e = t.b + k ∧ Runs (l.drop (t.e - p)) t.e ts' cs2 l' p' ∧ cs = cs1 ++ cs2 := by
  induction h with
  | nil l p => intro t ts' e; cases e
  | @skip l p ts cs l' p' h r ih =>
    intro t ts' e
    obtain ⟨cs1, cs2, k, h1, h2, h3, h4, h5, h6⟩ := ih t ts' e
    have hk := step_tok h3
    rw [List.drop_drop, show 1 + (t.b - (p + 1)) = t.b - p by omega] at h2 h3
    rw [List.drop_drop, show 1 + (t.e - (p + 1)) = t.e - p by omega] at h5
    exact ⟨cs1, cs2, k, by omega, .skip h h2, h3, h4, h5, h6⟩
  | @comm l p ts cs l' p' k0 h r ih =>
    intro t ts' e
    obtain ⟨cs1, cs2, k, h1, h2, h3, h4, h5, h6⟩ := ih t ts' e
    rw [List.drop_drop, show k0 + (t.b - (p + k0)) = t.b - p by omega] at h2 h3
    rw [List.drop_drop, show k0 + (t.e - (p + k0)) = t.e - p by omega] at h5
    exact ⟨(p, p + k0) :: cs1, cs2, k, by omega, .comm h h2, h3, h4, h5, by rw [h6]; rfl⟩
  | @tok l p ts cs l' p' kd n s k0 h r ih =>
    intro t ts' e
    injection e with e1 e2
    subst e1 e2
    have e3 : p - p = 0 := by omega
    have e4 : p + k0 - p = k0 := by omega
    refine ⟨[], cs, k0, Nat.le_refl _, ?_, ?_, rfl, ?_, rfl⟩
    · show Runs l p [] [] (l.drop (p - p)) p
      rw [e3, List.drop_zero]
      exact .nil _ _
    · show step (l.drop (p - p)) = _
      rw [e3, List.drop_zero]
      exact h
    · show Runs (l.drop (p + k0 - p)) (p + k0) ts cs l' p'
      rw [e4]
      exact r
theorem Runs.empty_move {l : Bytes} {p : Nat} {ts : List Tok} {cs : List (Nat × Nat)} {l' : Bytes} {p' : Nat} (h : Runs l p ts cs l' p') : ts = [] → ∀ q, ∃ cs' q', Runs l q [] cs' l' q' := by
  induction h with
  | nil l p => exact fun _ q => ⟨[], q, .nil _ _⟩
  | skip h r ih =>
    intro e q
    obtain ⟨cs', q', hr⟩ := ih e (q + 1)
    exact ⟨cs', q', .skip h hr⟩
  | @comm _ _ _ _ _ _ k h r ih =>
    intro e q
    obtain ⟨cs', q', hr⟩ := ih e (q + k)
    exact ⟨(q, q + k) :: cs', q', .comm h hr⟩
  | tok h r ih => intro e; cases e
/-- Blanks and comments alone. -/
theorem Runs.filled {l : Bytes} {p : Nat} {cs : List (Nat × Nat)} {p' : Nat} (h : Runs l p [] cs [] p') : ∃ cs', cutL l = .done [] cs' := by
  obtain ⟨cs', q', hr⟩ := h.empty_move rfl 0
  exact ⟨cs', cut_of_done hr⟩
/-- Each token is cut out of its place. -/
theorem Runs.step_at {l : Bytes} {p : Nat} {ts : List Tok} {cs : List (Nat × Nat)} {l' : Bytes} {p' : Nat} (h : Runs l p ts cs l' p') : ∀ t ∈ ts, ∃ k, step (l.drop (t.b - p)) = .tok t.kind t.n t.s k ∧ t.e = t.b + k := by
  induction h with
  | nil l p => intro t ht; cases ht
  | @skip l p ts cs l' p' h r ih =>
    intro t ht
    obtain ⟨k, h1, h2⟩ := ih t ht
    have hb := r.bounds.2 t ht
    rw [List.drop_drop, show 1 + (t.b - (p + 1)) = t.b - p by omega] at h1
    exact ⟨k, h1, h2⟩
  | @comm l p ts cs l' p' k0 h r ih =>
    intro t ht
    obtain ⟨k, h1, h2⟩ := ih t ht
    have hb := r.bounds.2 t ht
    rw [List.drop_drop, show k0 + (t.b - (p + k0)) = t.b - p by omega] at h1
    exact ⟨k, h1, h2⟩
  | @tok l p ts cs l' p' kd n s k0 h r ih =>
    intro t ht
    rcases List.mem_cons.1 ht with rfl | ht
    · refine ⟨k0, ?_, rfl⟩
      show step (l.drop (p - p)) = _
      rw [Nat.sub_self, List.drop_zero]
      exact h
    · obtain ⟨k, h1, h2⟩ := ih t ht
      have hb := r.bounds.2 t ht
      rw [List.drop_drop, show k0 + (t.b - (p + k0)) = t.b - p by omega] at h1
      exact ⟨k, h1, h2⟩
/-- The bytes of a token alone: the token. -/
theorem step_alone {l : Bytes} {kd n : Int} {s : Bytes} {k : Nat} (h : step l = .tok kd n s k) : step (l.take k) = .tok kd n s (l.take k).length := by
  have hk := step_tok h
  rw [step_cut l k (by rw [h]; simp) (by rw [h]; exact Nat.le_refl _), h, List.length_take, Nat.min_eq_left hk.2]
/-- With one byte more it is no token. -/
theorem kind_longer {l : Bytes} {kd n : Int} {s : Bytes} {k : Nat} (h : step l = .tok kd n s k) (hl : k < l.length) : kindL (l.take (k + 1)) = 0 := by
  by_cases h0 : kindL (l.take (k + 1)) = 0
  · exact h0
  · exfalso
    obtain ⟨n2, s2, h2, _⟩ := kind_step h0
    rw [step_cut l (k + 1) (by rw [h]; simp) (by rw [h]; exact Nat.le_succ _), h, List.length_take] at h2
    injection h2 with _ _ _ h2
    omega
end Go.Proofs.YtglgppkjgodlkaaGreatDoor.Lex
