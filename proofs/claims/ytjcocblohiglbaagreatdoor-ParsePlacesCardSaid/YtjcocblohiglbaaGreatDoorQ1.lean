/- A text in brackets: its tokens, and what is read of it. Conditions: none. -/
import Derived.Test.YtjcocblohiglbaaGreatDoorW1
import Derived.Test.YtjcocblohiglbaaGreatDoorP1
namespace Go.Proofs.YtjcocblohiglbaaGreatDoor
open Go.Dp
set_option linter.unusedVariables false
set_option linter.unusedSimpArgs false
/-! #### Tokens -/
theorem runs_few {l : Lex.Bytes} {p : Nat} {ts : List Lex.Tok} {cs : List (Nat × Nat)} {l' : Lex.Bytes} {p' : Nat} (h : Lex.Runs l p ts cs l' p') : p + ts.length ≤ p' ∧ p' + l'.length = p + l.length := by
  induction h with
  | nil l p => simp
  | skip h r ih =>
    have := Lex.step_skip_len h
    simp only [List.length_drop] at ih
    omega
  | comm h r ih =>
    have := Lex.step_comm h
    simp only [List.length_drop] at ih
    omega
  | tok h r ih =>
    have := Lex.step_tok h
    simp only [List.length_drop, List.length_cons] at ih ⊢
    omega
/-- A text without error, of few bytes. -/
theorem lx_done {tx : ByteArray} {ts : List Lex.Tok} {cs : List (Nat × Nat)} (hs : tx.size ≤ 20000) (h : Lex.cutL tx.data.toList = .done ts cs) : lxP tx = (ts.map toTk, 0, 0) := by
  have hl : tx.data.toList.length = tx.size := Array.length_toList
  have h1 := runs_few (Lex.cut_done h)
  unfold lxP Lex.tokensL
  rw [if_neg (by omega), h]
  dsimp only
  rw [if_neg (by simp only [List.length_nil] at h1; omega)]
  rfl
theorem lx_ok {tx : ByteArray} (hs : tx.size ≤ 20000) (h : (lxP tx).2.2 = 0) : ∃ ts cs, Lex.cutL tx.data.toList = .done ts cs ∧ lxP tx = (ts.map toTk, 0, 0) := by
  cases hc : Lex.cutL tx.data.toList with
  | done ts cs => exact ⟨ts, cs, rfl, lx_done hs hc⟩
  | err p =>
    have hl : tx.data.toList.length = tx.size := Array.length_toList
    unfold lxP Lex.tokensL at h
    rw [if_neg (by omega), hc] at h
    dsimp only at h
    omega
/-! #### Places of tokens -/
theorem tokAt_end {T : List Tk} {p : Nat} (h : T.length ≤ p) : tokAt T p = Tk.no := by simp only [tokAt, List.getD_eq_getElem?_getD, List.getElem?_eq_none h]; rfl
/-! #### What a reading without error comes to -/
theorem given_ok {rule : ByteArray → List Tk → Nat → List (Nat × Nat) → Res Nd} {ops : List Mx} {tx : ByteArray} {n : Nd} {at_ : Int} (h : givenP lxP rule kdP ops tx = ⟨n, at_, 0⟩) :
    apartM kdP ops = true ∧ (lxP tx).2.2 = 0 ∧ at_ = 0 ∧ ∃ n0 q ex es, rule tx (lxP tx).1 0 [] = .ok n0 q ex ∧ (lxP tx).1.length ≤ q ∧ Slvs (lxP tx).1 (tabM true ops) (tabM false ops) ex es ∧ n = fill es n0 ∧ cnt n ≤ 60000 ∧ dep n ≤ 400 := by
  unfold givenP at h
  split at h
  · injection h with _ _ h; cases h
  · rename_i hap
    unfold readP at h
    split at h
    · rename_i he
      injection h with _ _ h
      exact absurd h he
    · rename_i he
      have he : (lxP tx).2.2 = 0 := Decidable.not_not.1 he
      split at h
      · injection h with _ _ h; cases h
      · rename_i n0 q ex hr
        split at h
        · injection h with _ _ h; cases h
        · rename_i hq
          split at h
          · injection h with _ _ h; cases h
          · rename_i es z hsl
            split at h
            · injection h with _ _ h; cases h
            · rename_i hb
              injection h with e1 e2 e3
              obtain ⟨vs, rfl, hv⟩ := solveL_slvs hsl
              refine ⟨by simpa using hap, he, e2.symm, n0, q, ex, _, hr, by omega, hv, e1.symm, ?_⟩
              subst e1
              omega
theorem given_of {rule : ByteArray → List Tk → Nat → List (Nat × Nat) → Res Nd} {ops : List Mx} {tx : ByteArray} {n0 : Nd} {q : Nat} {ex : List (Nat × Nat)} {es : List Nd} (hap : apartM kdP ops = true) (he : (lxP tx).2.2 = 0) (hr : rule tx (lxP tx).1 0 [] = .ok n0 q ex) (hq : (lxP tx).1.length ≤ q) (hs : Slvs (lxP tx).1 (tabM true ops) (tabM false ops) ex es)
    (hc : cnt (fill es n0) ≤ 60000) (hd : dep (fill es n0) ≤ 400) : givenP lxP rule kdP ops tx = ⟨fill es n0, 0, 0⟩ := by
  obtain ⟨z, hz⟩ := slvs_solveL [] hs
  rw [List.nil_append] at hz
  unfold givenP
  rw [if_neg (by rw [hap]; simp)]
  unfold readP
  rw [if_neg (by rw [he]; simp), hr]
  dsimp only
  rw [if_neg (by omega), if_neg (by rw [hap]; simp), hz]
  dsimp only
  rw [if_neg (by omega)]
/-! #### Levels -/
theorem lift_up {tx : ByteArray} {T : List Tk} {m pos : Nat} {ex : List (Nat × Nat)} {x : Nd} {q : Nat} {e : List (Nat × Nat)} (hd : Dull (tokAt T q)) : ∀ (lv : Nat), lv ≤ 4 → pB tx T m lv pos ex = .ok x q e → pB tx T (m + (4 - lv)) 4 pos ex = .ok x q e := by
  have n1 : ¬ isT (tokAt T q) ⟨#[91, 93]⟩ = true := by rw [hd.no (by decide)]; simp
  have n2 : ¬ isT (tokAt T q) ⟨#[124, 124, 124]⟩ = true := by rw [hd.no (by decide)]; simp
  have n3 : ¬ isT (tokAt T q) ⟨#[124, 124]⟩ = true := by rw [hd.no (by decide)]; simp
  have n4 : ¬ isT (tokAt T q) ⟨#[124, 91]⟩ = true := by rw [hd.no (by decide)]; simp
  have n5 : ¬ isT (tokAt T q) ⟨#[91, 62]⟩ = true := by rw [hd.no (by decide)]; simp
  have n6 : ¬ isT (tokAt T q) ⟨#[62, 62]⟩ = true := by rw [hd.no (by decide)]; simp
  have s3 : ∀ m, pB tx T m 3 pos ex = .ok x q e → pB tx T (m + 1) 4 pos ex = .ok x q e := fun m h => by
    rw [pB, pBeh, h]
    dsimp only [Res.bnd]
    rw [if_neg n6]
  have s2 : ∀ m, pB tx T m 2 pos ex = .ok x q e → pB tx T (m + 1) 3 pos ex = .ok x q e := fun m h => by
    rw [pB, pDis, h]
    dsimp only [Res.bnd]
    rw [if_neg n5]
  have s1 : ∀ m, pB tx T m 1 pos ex = .ok x q e → pB tx T (m + 1) 2 pos ex = .ok x q e := fun m h => by
    rw [pB, pParts, h]
    dsimp only [Res.bnd]
    rw [if_neg n2, if_neg n3, if_neg n4]
  have s0 : ∀ m, pB tx T m 0 pos ex = .ok x q e → pB tx T (m + 1) 1 pos ex = .ok x q e := fun m h => by
    rw [pB, pSum, h]
    dsimp only [Res.bnd]
    rw [if_neg n1]
  intro lv hv h
  match lv, hv, h with
  | 4, _, h => exact h
  | 3, _, h => exact s3 _ h
  | 2, _, h => exact s3 _ (s2 _ h)
  | 1, _, h => exact s3 _ (s2 _ (s1 _ h))
  | 0, _, h => exact s3 _ (s2 _ (s1 _ (s0 _ h)))
end Go.Proofs.YtjcocblohiglbaaGreatDoor
/- A text in brackets is read as the same: the plain law. Conditions: none. -/
namespace Go.Proofs.YtjcocblohiglbaaGreatDoor
open Go.Dp
set_option linter.unusedVariables false
set_option linter.unusedSimpArgs false
/-! #### A behaviour's node waits for nothing -/
section
variable (tx : ByteArray) (T : List Tk)
end
/-! #### Brackets -/
theorem sUpL_stop {T : List Tk} {last : Nat} {A : List (ByteArray × Mx)} {up : Int → Nat → SRes (Nd × Int)} {n : Int} {k : Nat} {x : Nd} {prio : Int} {pos : Nat} (h : Dull (nxt T last pos)) : sUpL T last A up n (k + 1) x prio pos = .ok (x, prio) pos := by
  rw [sUpL, if_neg (by rw [h.no (by decide)]; simp)]
  split
  · rw [if_neg (fun hh => by rw [h.part] at hh; cases hh.1)]
  · rfl
section
variable {T : List Tk} {z : Tk}
end
end Go.Proofs.YtjcocblohiglbaaGreatDoor
