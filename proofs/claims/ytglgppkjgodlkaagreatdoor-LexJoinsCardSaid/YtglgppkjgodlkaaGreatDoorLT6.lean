/- The reference's way to cut: the longest sign, what is passed over, one token. No program in sight. Conditions: none. -/
import Derived.Test.YtglgppkjgodlkaaGreatDoorLT5
namespace Go.Proofs.YtglgppkjgodlkaaGreatDoor.Lex
set_option linter.unusedVariables false
set_option linter.unusedSimpArgs false

/-- the longest sign of a list that is not made of symbols and with which a text begins -/
def signPick (l : Bytes) : Bytes → List Bytes → Bytes
  | best, [] => best
  | best, s :: r => if s.all isSym then signPick l best r else if s.isPrefixOf l && decide (best.length < s.length) then signPick l s r else signPick l best r
theorem signPick_spec (l : Bytes) : ∀ (ss : List Bytes) (best : Bytes), (signPick l best ss = best ∨ (signPick l best ss ∈ ss ∧ (signPick l best ss).all isSym = false ∧ (signPick l best ss).isPrefixOf l = true)) ∧ best.length ≤ (signPick l best ss).length ∧ ∀ s ∈ ss, s.all isSym = false → s.isPrefixOf l = true → s.length ≤ (signPick l best ss).length
  | [], best => ⟨.inl rfl, Nat.le_refl _, fun s hs => by cases hs⟩
  | s :: r, best => by
    rw [signPick]
    split
    · rename_i h
      obtain ⟨h1, h2, h3⟩ := signPick_spec l r best
      refine ⟨h1.imp_right fun h => ⟨List.mem_cons_of_mem _ h.1, h.2⟩, h2, fun x hx hn hp => ?_⟩
      rcases List.mem_cons.1 hx with rfl | hx
      · rw [h] at hn; cases hn
      · exact h3 x hx hn hp
    · rename_i h
      split
      · rename_i hc
        rw [Bool.and_eq_true, decide_eq_true_eq] at hc
        obtain ⟨h1, h2, h3⟩ := signPick_spec l r s
        refine ⟨.inr ?_, by omega, fun x hx hn hp => ?_⟩
        · rcases h1 with h1 | h1
          · rw [h1]; exact ⟨by simp, by simpa using h, hc.1⟩
          · exact ⟨List.mem_cons_of_mem _ h1.1, h1.2⟩
        · rcases List.mem_cons.1 hx with rfl | hx
          · exact h2
          · exact h3 x hx hn hp
      · rename_i hc
        obtain ⟨h1, h2, h3⟩ := signPick_spec l r best
        refine ⟨h1.imp_right fun h => ⟨List.mem_cons_of_mem _ h.1, h.2⟩, h2, fun x hx hn hp => ?_⟩
        rcases List.mem_cons.1 hx with rfl | hx
        · rw [hp, Bool.true_and, decide_eq_true_eq] at hc
          omega
        · exact h3 x hx hn hp
theorem sign_lens : (signsL.all fun s => decide (1 ≤ s.length) && decide (s.length ≤ 3)) = true := by decide +kernel
theorem sign_heads : (signsL.all fun s => (s.all isSym == isSym (s.headD 0)) && (isSym (s.headD 0) || isMark (s.headD 0))) = true := by decide +kernel
theorem prefix_take {s l : Bytes} (h : s.isPrefixOf l = true) : l.take s.length = s := by
  have := List.isPrefixOf_iff_prefix.1 h
  exact (List.prefix_iff_eq_take.1 this).symm
theorem take_prefix {l : Bytes} {n : Nat} (h : n ≤ l.length) : (l.take n).isPrefixOf l = true := List.isPrefixOf_iff_prefix.2 (List.take_prefix n l)
theorem cls5 : ∀ c : UInt8, cls c = 5 ↔ isMark c = true := fun c => by revert c; exact all_bytes (by decide +kernel)
theorem mark_sym : ∀ c : UInt8, isMark c = true → isSym c = false := fun c => by revert c; exact all_bytes (by decide +kernel)
theorem markLen_best {l : Bytes} {s : Bytes} (hs : s ∈ signsL) (hp : s.isPrefixOf l = true) : ∃ k, markLen l = some k ∧ s.length ≤ k := by
  have hz := List.all_eq_true.1 sign_lens s hs
  rw [Bool.and_eq_true, decide_eq_true_eq, decide_eq_true_eq] at hz
  have ht := prefix_take hp
  have hl : s.length ≤ l.length := (List.isPrefixOf_iff_prefix.1 hp).length_le
  have hc : signsL.contains (l.take s.length) = true := by rw [ht]; exact List.contains_iff_mem.2 hs
  unfold markLen
  split
  · exact ⟨3, rfl, hz.2⟩
  · rename_i h3
    split
    · refine ⟨2, rfl, ?_⟩
      rcases Nat.lt_or_ge s.length 3 with h | h
      · omega
      · have e : s.length = 3 := by omega
        rw [e] at hc hl
        exact absurd ⟨hl, hc⟩ h3
    · rename_i h2
      split
      · refine ⟨1, rfl, ?_⟩
        rcases Nat.lt_or_ge s.length 2 with h | h
        · omega
        · exfalso
          rcases (show s.length = 2 ∨ s.length = 3 by omega) with e | e
          · rw [e] at hc hl; exact h2 ⟨hl, hc⟩
          · rw [e] at hc hl; exact h3 ⟨hl, hc⟩
      · rename_i h1
        exfalso
        rcases (show s.length = 1 ∨ s.length = 2 ∨ s.length = 3 by omega) with e | e | e
        · rw [e] at hc hl; exact h1 ⟨hl, hc⟩
        · rw [e] at hc hl; exact h2 ⟨hl, hc⟩
        · rw [e] at hc hl; exact h3 ⟨hl, hc⟩
/-- THE LONGEST SIGN, both ways. -/
theorem pick_mark (c : UInt8) (r : Bytes) (hc : cls c = 5) : signPick (c :: r) [] signsL = (match markLen (c :: r) with | some k => (c :: r).take k | none => []) := by
  obtain ⟨h1, h2, h3⟩ := signPick_spec (c :: r) signsL []
  have hm := (cls5 c).1 hc
  have head : ∀ s ∈ signsL, s.isPrefixOf (c :: r) = true → s.all isSym = false := by
    intro s hs hp
    have hz := List.all_eq_true.1 sign_lens s hs
    rw [Bool.and_eq_true, decide_eq_true_eq, decide_eq_true_eq] at hz
    have hh := List.all_eq_true.1 sign_heads s hs
    rw [Bool.and_eq_true] at hh
    have hh := eq_of_beq hh.1
    rw [hh]
    cases s with
    | nil => simp at hz
    | cons x s =>
      have : x = c := by
        have := List.isPrefixOf_iff_prefix.1 hp
        rw [List.cons_prefix_cons] at this
        exact this.1
      subst this
      exact mark_sym _ hm
  cases hk : markLen (c :: r) with
  | none =>
    simp only
    rcases h1 with h1 | h1
    · exact h1
    · obtain ⟨k, hk2, _⟩ := markLen_best h1.1 h1.2.2
      rw [hk] at hk2; cases hk2
  | some k =>
    simp only
    have hb := markLen_bounds _ _ hk
    have hs := List.contains_iff_mem.1 (markLen_sign hk)
    have hp := take_prefix (l := c :: r) hb.2.1
    have hle := h3 _ hs (head _ hs hp) hp
    rw [List.length_take, Nat.min_eq_left hb.2.1] at hle
    rcases h1 with h1 | h1
    · rw [h1] at hle; simp at hle; omega
    · obtain ⟨k2, hk2, hle2⟩ := markLen_best h1.1 h1.2.2
      rw [hk] at hk2
      injection hk2 with hk2
      subst hk2
      rw [← prefix_take h1.2.2, show (signPick (c :: r) [] signsL).length = k by omega]
theorem pick_none (c : UInt8) (r : Bytes) (hc : cls c ≠ 5) : signPick (c :: r) [] signsL = [] := by
  obtain ⟨h1, h2, h3⟩ := signPick_spec (c :: r) signsL []
  rcases h1 with h1 | ⟨hs, hn, hp⟩
  · exact h1
  · exfalso
    have hz := List.all_eq_true.1 sign_lens _ hs
    rw [Bool.and_eq_true, decide_eq_true_eq, decide_eq_true_eq] at hz
    have hh := List.all_eq_true.1 sign_heads _ hs
    rw [Bool.and_eq_true] at hh
    have hh1 := eq_of_beq hh.1
    generalize signPick (c :: r) [] signsL = s at *
    cases s with
    | nil => simp at hz
    | cons x s =>
      have : x = c := by
        have := List.isPrefixOf_iff_prefix.1 hp
        rw [List.cons_prefix_cons] at this
        exact this.1
      subst this
      rw [hn] at hh1
      have hh2 := hh.2
      rw [← hh1] at hh2
      exact hc ((cls5 x).2 (by simpa using hh2))
end Go.Proofs.YtglgppkjgodlkaaGreatDoor.Lex
