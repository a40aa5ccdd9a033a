/- Blanks and comments between two tokens, ahead of the first one or behind the last one. No program in sight. Conditions: none. -/
import Derived.Test.YtglgppkjgodlkaaGreatDoorLT7
namespace Go.Proofs.YtglgppkjgodlkaaGreatDoor.Lex
set_option linter.unusedVariables false
set_option linter.unusedSimpArgs false

/-- where the k-th token begins, or the end -/
def startAt (ts : List Tok) (n k : Nat) : Nat := match ts[k]? with
  | some t => t.b
  | none => n
theorem Runs.split_at : ∀ (k : Nat) {l : Bytes} {p : Nat} {ts : List Tok} {cs : List (Nat × Nat)} {p' : Nat}, Runs l p ts cs [] p' → p' = p + l.length → k ≤ ts.length →
    ∃ cs1 cs2, p ≤ startAt ts p' k ∧ startAt ts p' k ≤ p' ∧ Runs l p (ts.take k) cs1 (l.drop (startAt ts p' k - p)) (startAt ts p' k) ∧ Runs (l.drop (startAt ts p' k - p)) (startAt ts p' k) (ts.drop k) cs2 [] p'
  | k, l, p, [], cs, p', h, hp, hk => by
    obtain rfl : k = 0 := by simpa using hk
    have e : startAt [] p' 0 = p' := rfl
    have e2 : l.drop (p' - p) = [] := List.drop_of_length_le (by omega)
    rw [e, e2]
    exact ⟨cs, [], by omega, Nat.le_refl _, h, .nil _ _⟩
  | 0, l, p, t :: ts, cs, p', h, hp, hk => by
    obtain ⟨cs1, cs2, k, h1, h2, h3, h4, h5, h6⟩ := h.split t ts rfl
    have hb := h.bounds.2 t (List.mem_cons_self ..)
    have e : startAt (t :: ts) p' 0 = t.b := rfl
    rw [e]
    have hk := step_tok h3
    refine ⟨cs1, cs2, h1, by omega, h2, ?_⟩
    rw [List.drop_zero]
    have e2 : (l.drop (t.b - p)).drop k = l.drop (t.e - p) := by rw [List.drop_drop, show t.b - p + k = t.e - p by omega]
    have r : Runs (l.drop (t.b - p)) t.b (⟨t.kind, t.n, t.s, t.b, t.b + k⟩ :: ts) cs2 [] p' := .tok h3 (by rw [e2, ← h4]; exact h5)
    rw [← h4] at r
    exact r
  | k + 1, l, p, t :: ts, cs, p', h, hp, hk => by
    obtain ⟨cs1, cs2, k2, h1, h2, h3, h4, h5, h6⟩ := h.split t ts rfl
    have hb := h.bounds.2 t (List.mem_cons_self ..)
    have hk2 := step_tok h3
    have hlen : p' = t.e + (l.drop (t.e - p)).length := by rw [List.length_drop]; omega
    obtain ⟨c1, c2, g1, g2, g3, g4⟩ := Runs.split_at k h5 hlen (by simpa using hk)
    have e : startAt (t :: ts) p' (k + 1) = startAt ts p' k := rfl
    rw [e]
    have e2 : (l.drop (t.b - p)).drop k2 = l.drop (t.e - p) := by rw [List.drop_drop, show t.b - p + k2 = t.e - p by omega]
    have e3 : (l.drop (t.e - p)).drop (startAt ts p' k - t.e) = l.drop (startAt ts p' k - p) := by rw [List.drop_drop, show t.e - p + (startAt ts p' k - t.e) = startAt ts p' k - p by omega]
    rw [e3] at g3 g4
    refine ⟨cs1 ++ c1, c2, by omega, g2, ?_, g4⟩
    have r : Runs (l.drop (t.b - p)) t.b (⟨t.kind, t.n, t.s, t.b, t.b + k2⟩ :: ts.take k) c1 (l.drop (startAt ts p' k - p)) (startAt ts p' k) := .tok h3 (by rw [e2, ← h4]; exact g3)
    rw [← h4] at r
    exact h2.trans r
theorem blanks_cut {l f : Bytes} {ts : List Tok} {cs cf : List (Nat × Nat)} (h : cutL l = .done ts cs) (hf : cutL f = .done [] cf) (k : Nat) (hk : k ≤ ts.length) :
    ∃ cs', cutL (l.take (startAt ts l.length k) ++ 32 :: (f ++ 32 :: l.drop (startAt ts l.length k))) = .done (ts.take k ++ (ts.drop k).map (Tok.by (f.length + 2))) cs' := by
  obtain ⟨c1, c2, h1, h2, h3, h4⟩ := Runs.split_at k (cut_done h) (by omega) hk
  rw [Nat.sub_zero] at h3 h4
  have a1 := h3.cut (startAt ts l.length k) (by omega)
  have a2 := a1.sep (x := 32) (r := f ++ 32 :: l.drop (startAt ts l.length k)) rfl
  rw [List.nil_append] at a2
  have b1 := ((cut_done hf).sep (x := 32) (r := l.drop (startAt ts l.length k)) rfl).shift (startAt ts l.length k + 1)
  rw [List.nil_append, Nat.zero_add] at b1
  have b2 := h4.shift (f.length + 2)
  have e : f.length + (startAt ts l.length k + 1) + 1 = startAt ts l.length k + (f.length + 2) := by omega
  have r := a2.trans (.skip (blank_step (x := 32) rfl _) (b1.trans (.skip (blank_step (x := 32) rfl _) (by rw [List.drop_succ_cons, List.drop_zero, e]; exact b2))))
  exact ⟨_, cut_of_done r⟩
end Go.Proofs.YtglgppkjgodlkaaGreatDoor.Lex
