/- Comments that turn into blanks leave the tokens; a token that a text is as a whole. No program in sight. Conditions: none. -/
import Derived.Test.YtglgppkjgodlkaaGreatDoorME
namespace Go.Proofs.YtglgppkjgodlkaaGreatDoor.Lex
set_option linter.unusedVariables false
set_option linter.unusedSimpArgs false

def blankB (c : UInt8) : UInt8 := if c = 10 then 10 else 32
theorem blankB_blank (c : UInt8) : isBlank (blankB c) = true := by unfold blankB; split <;> rfl
theorem blankAt_mid (pre : Bytes) (c : UInt8) (t : Bytes) : blankAt (pre ++ c :: t) pre.length = pre ++ blankB c :: t := by
  unfold blankAt blankB
  have h : (pre ++ c :: t).getD pre.length 10 = c := by simp [List.getD]
  rw [h]
  split
  · rename_i h; rw [h]
  · simp [List.set_append]
theorem blanked_at : ∀ (k : Nat) (pre l : Bytes), k ≤ l.length → blanked k (pre ++ l) pre.length = pre ++ (l.take k).map blankB ++ l.drop k
  | 0, pre, l, h => by simp [blanked]
  | k + 1, pre, [], h => by simp at h
  | k + 1, pre, c :: t, h => by
    rw [blanked, blankAt_mid]
    have := blanked_at k (pre ++ [blankB c]) t (by simp at h; omega)
    simp at this ⊢
    exact this
theorem blankAt_count (l : Bytes) (i : Nat) : (blankAt l i).count 10 = l.count 10 := by
  unfold blankAt
  split
  · rfl
  · rename_i h
    by_cases hi : i < l.length
    · have hg : l.getD i 10 = l[i] := by simp [List.getD, hi]
      rw [hg] at h
      rw [List.count_set hi]
      simp [h]
    · rw [List.set_eq_of_length_le (by omega)]
theorem blanked_count : ∀ (k : Nat) (l : Bytes) (i : Nat), (blanked k l i).count 10 = l.count 10
  | 0, _, _ => rfl
  | k + 1, l, i => by rw [blanked, blanked_count k, blankAt_count]
theorem blankAll_count (cs : List (Nat × Nat)) : ∀ l : Bytes, (blankAll l cs).count 10 = l.count 10 := by
  induction cs with
  | nil => exact fun _ => rfl
  | cons c cs ih => exact fun l => (ih _).trans (blanked_count _ _ _)
theorem step_skip_cls {c : UInt8} {t : Bytes} (h : step (c :: t) = .skip) : cls c = 1 := by
  by_cases hc : cls c = 1
  · exact hc
  · exfalso
    unfold step at h
    simp only at h
    rw [if_neg hc] at h
    split at h
    · unfold wordStep at h; simp only at h; split at h <;> cases h
    split at h
    · unfold numStep at h; simp only at h
      split at h
      · cases h
      · split at h <;> cases h
    split at h
    · unfold symStep at h; simp only at h; split at h <;> cases h
    split at h
    · unfold markStep at h
      split at h
      · split at h <;> cases h
      · split at h <;> cases h
    · cases h
theorem step_of_cls {c : UInt8} (t : Bytes) (h : cls c = 1) : step (c :: t) = .skip := by
  unfold step
  simp only
  rw [if_pos h]
theorem runs_blanks : ∀ (b : Bytes), (∀ x ∈ b, isBlank x = true) → ∀ {r : Bytes} {p : Nat} {ts : List Tok} {cs : List (Nat × Nat)} {l' : Bytes} {p' : Nat}, Runs r (p + b.length) ts cs l' p' → Runs (b ++ r) p ts cs l' p'
  | [], _, r, p, ts, cs, l', p', h => h
  | x :: b, hb, r, p, ts, cs, l', p', h => by
    refine .skip (blank_step (hb x (by simp)) _) ?_
    refine runs_blanks b (fun y hy => hb y (by simp [hy])) ?_
    rw [show p + 1 + b.length = p + (x :: b).length by rw [List.length_cons]; omega]
    exact h
theorem strip_runs {l : Bytes} {p : Nat} {ts : List Tok} {cs : List (Nat × Nat)} {l' : Bytes} {p' : Nat} (h : Runs l p ts cs l' p') : l' = [] → ∀ pre : Bytes, pre.length = p →
    ∃ r, blankAll (pre ++ l) cs = pre ++ r ∧ r.length = l.length ∧ Runs r p ts [] [] p' ∧ (cs = [] → r = l) ∧ (∀ a b cs', cs = (a, b) :: cs' → ∃ x r', isBlank x = true ∧ p ≤ a ∧ r = l.take (a - p) ++ x :: r') := by
  induction h with
  | nil l p =>
    rintro rfl pre hp
    exact ⟨[], rfl, rfl, .nil _ _, fun _ => rfl, fun a b cs' h => by cases h⟩
  | @skip l p ts cs l' p' h hr ih =>
    rintro rfl pre hp
    obtain ⟨c, t, rfl⟩ : ∃ c t, l = c :: t := by
      have := step_skip_len h
      cases l with
      | nil => simp at this
      | cons c t => exact ⟨c, t, rfl⟩
    obtain ⟨r, h1, h2, h3, h4, h5⟩ := ih rfl (pre ++ [c]) (by simp [hp])
    simp only [List.drop_succ_cons, List.drop_zero] at h1 h2 h4 h5
    refine ⟨c :: r, ?_, by simp [h2], .skip (step_of_cls _ (step_skip_cls h)) h3, fun e => by rw [h4 e], ?_⟩
    · simpa using h1
    · intro a b cs' e
      obtain ⟨x, r', hx, ha, hr'⟩ := h5 a b cs' e
      refine ⟨x, r', hx, by omega, ?_⟩
      obtain ⟨m, hm⟩ : ∃ m, a - p = m + 1 := ⟨a - p - 1, by omega⟩
      rw [hr', hm, show a - (p + 1) = m by omega]
      rfl
  | @comm l p ts cs l' p' k h hr ih =>
    rintro rfl pre hp
    have hk := step_comm h
    obtain ⟨r, h1, h2, h3, h4, h5⟩ := ih rfl (pre ++ (l.take k).map blankB) (by simp [hp]; omega)
    have hlen : ((l.take k).map blankB).length = k := by simp; omega
    refine ⟨(l.take k).map blankB ++ r, ?_, ?_, ?_, (fun e => by cases e), ?_⟩
    · show blankAll (blanked (p + k - p) (pre ++ l) p) cs = _
      rw [show p + k - p = k by omega, ← hp, blanked_at k pre l hk.2, ← hp] at *
      rw [h1, List.append_assoc]
    · rw [List.length_append, hlen, h2, List.length_drop]; omega
    · refine runs_blanks _ (fun x hx => ?_) (by rw [hlen]; exact h3)
      obtain ⟨y, _, rfl⟩ := List.mem_map.1 hx
      exact blankB_blank y
    · intro a b cs' e
      injection e with e1 e2
      injection e1 with e1 e3
      subst e1
      cases l with
      | nil => simp at hk; omega
      | cons c t =>
        obtain ⟨m, rfl⟩ : ∃ m, k = m + 1 := ⟨k - 1, by omega⟩
        refine ⟨blankB c, (t.take m).map blankB ++ r, blankB_blank c, Nat.le_refl _, ?_⟩
        simp
  | @tok l p ts cs l' p' kd n s k h hr ih =>
    rintro rfl pre hp
    have hk := step_tok h
    obtain ⟨r, h1, h2, h3, h4, h5⟩ := ih rfl (pre ++ l.take k) (by simp [hp]; omega)
    rw [List.append_assoc, List.take_append_drop, List.append_assoc] at h1
    have hlen : (l.take k).length = k := by simp; omega
    have hshape : ∀ a b cs', cs = (a, b) :: cs' → ∃ x r', isBlank x = true ∧ p + k ≤ a ∧ l.take k ++ r = l.take (a - p) ++ x :: r' := by
      intro a b cs' e
      obtain ⟨x, r', hx, ha, hr'⟩ := h5 a b cs' e
      refine ⟨x, r', hx, ha, ?_⟩
      rw [hr', ← List.append_assoc, show a - p = k + (a - (p + k)) by omega, List.take_add]
    refine ⟨l.take k ++ r, h1, by rw [List.length_append, hlen, h2, List.length_drop]; omega, ?_, fun e => by rw [h4 e, List.take_append_drop], ?_⟩
    · refine .tok (kd := kd) (n := n) (s := s) (k := k) ?_ (by rw [List.drop_left' hlen]; exact h3)
      cases cs with
      | nil => rw [h4 rfl, List.take_append_drop]; exact h
      | cons c cs' =>
        obtain ⟨x, r', hx, ha, hr'⟩ := hshape c.1 c.2 cs' rfl
        have hc : step (l.take (c.1 - p)) = step l := step_cut l _ (by rw [h]; simp) (by rw [h]; show k ≤ _; omega)
        have hne : l.take (c.1 - p) ≠ [] := step_ne (by rw [hc, h]; simp)
        rw [hr', step_sep hx _ hne (.inl (by rw [hc, h]; simp)), hc, h]
    · intro a b cs' e
      obtain ⟨x, r', hx, ha, hr'⟩ := hshape a b cs' e
      exact ⟨x, r', hx, by omega, hr'⟩
/-- THE STRIPPED TEXT is cut into the same tokens, and has no comments. -/
theorem strip_cut {l : Bytes} {ts : List Tok} {cs : List (Nat × Nat)} (h : cutL l = .done ts cs) : cutL (blankAll l cs) = .done ts [] := by
  obtain ⟨r, h1, h2, h3, _, _⟩ := strip_runs (cut_done h) rfl [] rfl
  rw [List.nil_append, List.nil_append] at h1
  rw [h1]
  exact cut_of_done h3
end Go.Proofs.YtglgppkjgodlkaaGreatDoor.Lex
