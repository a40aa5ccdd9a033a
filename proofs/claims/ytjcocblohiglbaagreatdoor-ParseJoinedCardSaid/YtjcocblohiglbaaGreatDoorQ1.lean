/- A text in brackets: its tokens, and what is read of it. Conditions: none. -/
import Derived.Test.YtjcocblohiglbaaGreatDoorW1
import Derived.Test.YtjcocblohiglbaaGreatDoorP1
namespace Go.Proofs.YtjcocblohiglbaaGreatDoor
open Go.Dp
set_option linter.unusedVariables false
set_option linter.unusedSimpArgs false
/-! #### Tokens -/
theorem runs_few {l : Lex.Bytes} {p : Nat} {ts : List Lex.Tok} {cs : List (Nat × Nat)} {l' : Lex.Bytes} {p' : Nat} (h : Lex.Runs l p ts cs l' p') : p + ts.length ≤ p' ∧ p' + l'.length = p + l.length := by
  induction h with
  | nil l p => simp
  | skip h r ih =>
    have := Lex.step_skip_len h
    simp only [List.length_drop] at ih
    omega
  | comm h r ih =>
    have := Lex.step_comm h
    simp only [List.length_drop] at ih
    omega
  | tok h r ih =>
    have := Lex.step_tok h
    simp only [List.length_drop, List.length_cons] at ih ⊢
    omega
def shT (d : Nat) (t : Tk) : Tk := ⟨t.kind, t.n, t.s, t.b + d, t.e + d⟩
theorem shT_like (d : Nat) (t : Tk) : LikeT t (shT d t) := ⟨rfl, rfl, rfl⟩
/-- A text without error, of few bytes. -/
theorem lx_done {tx : ByteArray} {ts : List Lex.Tok} {cs : List (Nat × Nat)} (hs : tx.size ≤ 20000) (h : Lex.cutL tx.data.toList = .done ts cs) : lxP tx = (ts.map toTk, 0, 0) := by
  have hl : tx.data.toList.length = tx.size := Array.length_toList
  have h1 := runs_few (Lex.cut_done h)
  unfold lxP Lex.tokensL
  rw [if_neg (by omega), h]
  dsimp only
  rw [if_neg (by simp only [List.length_nil] at h1; omega)]
  rfl
theorem lx_ok {tx : ByteArray} (hs : tx.size ≤ 20000) (h : (lxP tx).2.2 = 0) : ∃ ts cs, Lex.cutL tx.data.toList = .done ts cs ∧ lxP tx = (ts.map toTk, 0, 0) := by
  cases hc : Lex.cutL tx.data.toList with
  | done ts cs => exact ⟨ts, cs, rfl, lx_done hs hc⟩
  | err p =>
    have hl : tx.data.toList.length = tx.size := Array.length_toList
    unfold lxP Lex.tokensL at h
    rw [if_neg (by omega), hc] at h
    dsimp only at h
    omega
def tLp : Tk := ⟨5, 0, ⟨#[40]⟩, 0, 1⟩
def tRp (b : Nat) : Tk := ⟨5, 0, ⟨#[41]⟩, b, b + 1⟩
def brk (tx : ByteArray) : ByteArray := (⟨#[40, 32]⟩ ++ tx) ++ ⟨#[32, 41]⟩
theorem brk_list (tx : ByteArray) : (brk tx).data.toList = [40] ++ 32 :: (tx.data.toList ++ 32 :: [41]) := by simp [brk, ByteArray.data_append]
theorem brk_size (tx : ByteArray) : (brk tx).size = tx.size + 4 := by
  rw [brk, ByteArray.size_append, ByteArray.size_append]
  show 2 + tx.size + 2 = _
  omega
theorem cut_brk {l : Lex.Bytes} {ts : List Lex.Tok} {cs : List (Nat × Nat)} (h : Lex.cutL l = .done ts cs) : ∃ cs', Lex.cutL ([40] ++ 32 :: (l ++ 32 :: [41])) = .done (⟨5, 0, [40], 0, 1⟩ :: (ts.map (Lex.Tok.by 2) ++ [⟨5, 0, [41], l.length + 3, l.length + 4⟩])) cs' := by
  have h1 := Lex.cut_both (x := 32) (by decide) h (show Lex.cutL [41] = .done [⟨5, 0, [41], 0, 1⟩] [] by decide +kernel)
  have h2 := Lex.cut_both (x := 32) (by decide) (show Lex.cutL [40] = .done [⟨5, 0, [40], 0, 1⟩] [] by decide +kernel) h1
  refine ⟨_, h2.trans (congrArg (fun ts => Lex.Res.done ts _) ?_)⟩
  rw [List.map_append, List.cons_append, List.nil_append]
  congr 2
  simp only [List.map_cons, List.map_nil, Lex.Tok.by, List.length_cons, List.length_nil]
  congr 2 <;> omega
theorem lx_brk {tx : ByteArray} (hs : tx.size ≤ 10000) (h : (lxP tx).2.2 = 0) : lxP (brk tx) = (tLp :: ((lxP tx).1.map (shT 2) ++ [tRp (tx.size + 3)]), 0, 0) := by
  obtain ⟨ts, cs, h1, h2⟩ := lx_ok (by omega) h
  obtain ⟨cs', h3⟩ := cut_brk h1
  have hl : tx.data.toList.length = tx.size := Array.length_toList
  rw [← brk_list, hl] at h3
  rw [lx_done (by rw [brk_size]; omega) h3, h2]
  dsimp only
  rw [List.map_cons, List.map_append, List.map_map, List.map_map]
  rfl
/-! #### Places of tokens -/
theorem tokAt_cons (t : Tk) (T : List Tk) (p : Nat) : tokAt (t :: T) (p + 1) = tokAt T p := rfl
theorem tokAt_left {T U : List Tk} {p : Nat} (h : p < T.length) : tokAt (T ++ U) p = tokAt T p := by simp only [tokAt, List.getD_eq_getElem?_getD, List.getElem?_append_left h]
theorem tokAt_right {T U : List Tk} {p : Nat} (h : T.length ≤ p) : tokAt (T ++ U) p = tokAt U (p - T.length) := by simp only [tokAt, List.getD_eq_getElem?_getD, List.getElem?_append_right h]
theorem tokAt_map {T : List Tk} {p d : Nat} (h : p < T.length) : tokAt (T.map (shT d)) p = shT d (tokAt T p) := by
  simp only [tokAt, List.getD_eq_getElem?_getD, List.getElem?_map, List.getElem?_eq_getElem h]
  rfl
theorem tokAt_end {T : List Tk} {p : Nat} (h : T.length ≤ p) : tokAt T p = Tk.no := by simp only [tokAt, List.getD_eq_getElem?_getD, List.getElem?_eq_none h]; rfl
/-! #### What a reading without error comes to -/
theorem given_ok {rule : ByteArray → List Tk → Nat → List (Nat × Nat) → Res Nd} {ops : List Mx} {tx : ByteArray} {n : Nd} {at_ : Int} (h : givenP lxP rule kdP ops tx = ⟨n, at_, 0⟩) :
    apartM kdP ops = true ∧ (lxP tx).2.2 = 0 ∧ at_ = 0 ∧ ∃ n0 q ex es, rule tx (lxP tx).1 0 [] = .ok n0 q ex ∧ (lxP tx).1.length ≤ q ∧ Slvs (lxP tx).1 (tabM true ops) (tabM false ops) ex es ∧ n = fill es n0 ∧ cnt n ≤ 60000 ∧ dep n ≤ 400 := by
  unfold givenP at h
  split at h
  · injection h with _ _ h; cases h
  · rename_i hap
    unfold readP at h
    split at h
    · rename_i he
      injection h with _ _ h
      exact absurd h he
    · rename_i he
      have he : (lxP tx).2.2 = 0 := Decidable.not_not.1 he
      split at h
      · injection h with _ _ h; cases h
      · rename_i n0 q ex hr
        split at h
        · injection h with _ _ h; cases h
        · rename_i hq
          split at h
          · injection h with _ _ h; cases h
          · rename_i es z hsl
            split at h
            · injection h with _ _ h; cases h
            · rename_i hb
              injection h with e1 e2 e3
              obtain ⟨vs, rfl, hv⟩ := solveL_slvs hsl
              refine ⟨by simpa using hap, he, e2.symm, n0, q, ex, _, hr, by omega, hv, e1.symm, ?_⟩
              subst e1
              omega
theorem given_of {rule : ByteArray → List Tk → Nat → List (Nat × Nat) → Res Nd} {ops : List Mx} {tx : ByteArray} {n0 : Nd} {q : Nat} {ex : List (Nat × Nat)} {es : List Nd} (hap : apartM kdP ops = true) (he : (lxP tx).2.2 = 0) (hr : rule tx (lxP tx).1 0 [] = .ok n0 q ex) (hq : (lxP tx).1.length ≤ q) (hs : Slvs (lxP tx).1 (tabM true ops) (tabM false ops) ex es)
    (hc : cnt (fill es n0) ≤ 60000) (hd : dep (fill es n0) ≤ 400) : givenP lxP rule kdP ops tx = ⟨fill es n0, 0, 0⟩ := by
  obtain ⟨z, hz⟩ := slvs_solveL [] hs
  rw [List.nil_append] at hz
  unfold givenP
  rw [if_neg (by rw [hap]; simp)]
  unfold readP
  rw [if_neg (by rw [he]; simp), hr]
  dsimp only
  rw [if_neg (by omega), if_neg (by rw [hap]; simp), hz]
  dsimp only
  rw [if_neg (by omega)]
/-! #### Levels -/
theorem lift_up {tx : ByteArray} {T : List Tk} {m pos : Nat} {ex : List (Nat × Nat)} {x : Nd} {q : Nat} {e : List (Nat × Nat)} (hd : Dull (tokAt T q)) : ∀ (lv : Nat), lv ≤ 4 → pB tx T m lv pos ex = .ok x q e → pB tx T (m + (4 - lv)) 4 pos ex = .ok x q e := by
  have n1 : ¬ isT (tokAt T q) ⟨#[91, 93]⟩ = true := by rw [hd.no (by decide)]; simp
  have n2 : ¬ isT (tokAt T q) ⟨#[124, 124, 124]⟩ = true := by rw [hd.no (by decide)]; simp
  have n3 : ¬ isT (tokAt T q) ⟨#[124, 124]⟩ = true := by rw [hd.no (by decide)]; simp
  have n4 : ¬ isT (tokAt T q) ⟨#[124, 91]⟩ = true := by rw [hd.no (by decide)]; simp
  have n5 : ¬ isT (tokAt T q) ⟨#[91, 62]⟩ = true := by rw [hd.no (by decide)]; simp
  have n6 : ¬ isT (tokAt T q) ⟨#[62, 62]⟩ = true := by rw [hd.no (by decide)]; simp
  have s3 : ∀ m, pB tx T m 3 pos ex = .ok x q e → pB tx T (m + 1) 4 pos ex = .ok x q e := fun m h => by
    rw [pB, pBeh, h]
    dsimp only [Res.bnd]
    rw [if_neg n6]
  have s2 : ∀ m, pB tx T m 2 pos ex = .ok x q e → pB tx T (m + 1) 3 pos ex = .ok x q e := fun m h => by
    rw [pB, pDis, h]
    dsimp only [Res.bnd]
    rw [if_neg n5]
  have s1 : ∀ m, pB tx T m 1 pos ex = .ok x q e → pB tx T (m + 1) 2 pos ex = .ok x q e := fun m h => by
    rw [pB, pParts, h]
    dsimp only [Res.bnd]
    rw [if_neg n2, if_neg n3, if_neg n4]
  have s0 : ∀ m, pB tx T m 0 pos ex = .ok x q e → pB tx T (m + 1) 1 pos ex = .ok x q e := fun m h => by
    rw [pB, pSum, h]
    dsimp only [Res.bnd]
    rw [if_neg n1]
  intro lv hv h
  match lv, hv, h with
  | 4, _, h => exact h
  | 3, _, h => exact s3 _ h
  | 2, _, h => exact s3 _ (s2 _ h)
  | 1, _, h => exact s3 _ (s2 _ (s1 _ h))
  | 0, _, h => exact s3 _ (s2 _ (s1 _ (s0 _ h)))
end Go.Proofs.YtjcocblohiglbaaGreatDoor
/- A text in brackets is read as the same: the plain law. Conditions: none. -/
namespace Go.Proofs.YtjcocblohiglbaaGreatDoor
open Go.Dp
set_option linter.unusedVariables false
set_option linter.unusedSimpArgs false
/-! #### A behaviour's node waits for nothing -/
def Kd1 (r : Res Nd) : Prop := ∀ x q e, r = .ok x q e → x.kind ≠ -1
section
variable (tx : ByteArray) (T : List Tk)
theorem kd_pre {pre beh : Nat → List (Nat × Nat) → Res Nd} (hb : ∀ pos ex, Kd1 (beh pos ex)) (pos : Nat) (ex : List (Nat × Nat)) : Kd1 (pPre tx T pre beh pos ex) := by
  intro x q e h
  unfold pPre at h
  split at h
  · unfold pGuard at h
    obtain ⟨_, _, _, _, h⟩ := rbnd h
    split at h
    · split at h
      · obtain ⟨_, _, _, _, h⟩ := rbnd h
        cases h
        show (28 : Int) ≠ -1
        decide
      · cases h
    · cases h
  split at h
  · unfold pParen at h
    obtain ⟨y, _, _, h1, h⟩ := rbnd h
    split at h
    · cases h
      have h2 := hb _ _ y _ _ h1
      exact h2
    · cases h
  split at h
  · unfold pWait at h
    split at h
    · split at h
      · obtain ⟨_, _, _, _, h⟩ := rbnd h
        cases h
        show (33 : Int) ≠ -1
        decide
      · cases h
    · cases h
  split at h
  · unfold pHide at h
    obtain ⟨_, _, _, _, h⟩ := rbnd h
    split at h
    · obtain ⟨_, _, _, _, h⟩ := rbnd h
      cases h
      show (25 : Int) ≠ -1
      decide
    · cases h
  split at h
  · unfold pLet at h
    obtain ⟨_, _, _, _, h⟩ := rbnd h
    split at h
    · obtain ⟨_, _, _, _, h⟩ := rbnd h
      cases h
      show (29 : Int) ≠ -1
      decide
    · cases h
  have hsome : ∀ b p e0 y q0 e1, pSome tx T beh b p e0 = .ok y q0 e1 → y.kind ≠ -1 := fun b p e0 y q0 e1 h => by
    unfold pSome at h
    obtain ⟨_, _, _, _, h⟩ := rbnd h
    split at h
    · obtain ⟨_, _, _, _, h⟩ := rbnd h
      cases h
      show (30 : Int) ≠ -1
      decide
    · cases h
  split at h
  · unfold pChoose at h
    obtain ⟨y, _, _, h1, h⟩ := rbnd h
    cases h
    unfold pChoice at h1
    split at h1
    · split at h1
      · unfold pPick at h1
        obtain ⟨_, _, _, _, h1⟩ := rbnd h1
        split at h1
        · obtain ⟨_, _, _, _, h1⟩ := rbnd h1
          cases h1
          show (31 : Int) ≠ -1
          decide
        · cases h1
      · exact hsome _ _ _ _ _ _ h1
    · exact hsome _ _ _ _ _ _ h1
  split at h
  · unfold pStop at h
    cases h
    show (20 : Int) ≠ -1
    decide
  split at h
  · unfold pExits at h
    obtain ⟨y, _, _, h1, h⟩ := rbnd h
    cases h
    unfold pExit at h1
    split at h1
    · obtain ⟨_, _, _, _, h1⟩ := rbnd h1
      split at h1
      · cases h1
        show (21 : Int) ≠ -1
        decide
      · cases h1
    · cases h1
      show (21 : Int) ≠ -1
      decide
  have hact : ∀ y q0 e1, pAct tx T pre pos ex = .ok y q0 e1 → y.kind ≠ -1 := fun y q0 e1 h => by
    unfold pAct at h
    obtain ⟨z, _, _, h1, h⟩ := rbnd h
    cases h
    unfold pAction at h1
    obtain ⟨_, _, _, _, h1⟩ := rbnd h1
    obtain ⟨_, _, _, _, h1⟩ := rbnd h1
    obtain ⟨_, _, _, _, h1⟩ := rbnd h1
    split at h1
    · obtain ⟨_, _, _, _, h1⟩ := rbnd h1
      cases h1
      show (22 : Int) ≠ -1
      decide
    · cases h1
  split at h
  · exact hact _ _ _ h
  split at h
  · split at h
    · exact hact _ _ _ h
    · unfold pCalls at h
      obtain ⟨y, _, _, h1, h⟩ := rbnd h
      cases h
      unfold pCall at h1
      obtain ⟨_, _, _, _, h1⟩ := rbnd h1
      obtain ⟨_, _, _, _, h1⟩ := rbnd h1
      split at h1
      · obtain ⟨_, _, _, _, h1⟩ := rbnd h1
        split at h1
        · cases h1
          show (32 : Int) ≠ -1
          decide
        · cases h1
      · cases h1
        show (32 : Int) ≠ -1
        decide
  · cases h
theorem kd_level (f : (Nat → List (Nat × Nat) → Res Nd) → (Nat → List (Nat × Nat) → Res Nd) → Nat → List (Nat × Nat) → Res Nd) : True := trivial
theorem kd_pB : ∀ (n lv pos : Nat) (ex : List (Nat × Nat)), Kd1 (pB tx T n lv pos ex)
  | 0, lv, pos, ex => by intro x q e h; rw [pB] at h; cases h
  | n + 1, 0, pos, ex => by rw [pB]; exact kd_pre tx T (fun pos ex => kd_pB n 4 pos ex) pos ex
  | n + 1, 1, pos, ex => by
    intro x q e h
    rw [pB, pSum] at h
    obtain ⟨y, _, _, h1, h⟩ := rbnd h
    split at h
    · obtain ⟨_, _, _, _, h⟩ := rbnd h
      cases h
      show (23 : Int) ≠ -1
      decide
    · cases h
      exact kd_pB n 0 _ _ _ _ _ h1
  | n + 1, 2, pos, ex => by
    intro x q e h
    rw [pB, pParts] at h
    obtain ⟨y, _, _, h1, h⟩ := rbnd h
    split at h
    · obtain ⟨_, _, _, _, h⟩ := rbnd h
      cases h
      show (24 : Int) ≠ -1
      decide
    split at h
    · obtain ⟨_, _, _, _, h⟩ := rbnd h
      cases h
      show (24 : Int) ≠ -1
      decide
    split at h
    · obtain ⟨_, _, _, _, h⟩ := rbnd h
      split at h
      · obtain ⟨_, _, _, _, h⟩ := rbnd h
        cases h
        show (24 : Int) ≠ -1
        decide
      · cases h
    · cases h
      exact kd_pB n 1 _ _ _ _ _ h1
  | n + 1, 3, pos, ex => by
    intro x q e h
    rw [pB, pDis] at h
    obtain ⟨y, _, _, h1, h⟩ := rbnd h
    split at h
    · obtain ⟨_, _, _, _, h⟩ := rbnd h
      cases h
      show (27 : Int) ≠ -1
      decide
    · cases h
      exact kd_pB n 2 _ _ _ _ _ h1
  | n + 1, _ + 4, pos, ex => by
    intro x q e h
    rw [pB, pBeh] at h
    obtain ⟨y, _, _, h1, h⟩ := rbnd h
    split at h
    · split at h
      · obtain ⟨_, _, _, _, h⟩ := rbnd h
        split at h
        · obtain ⟨_, _, _, _, h⟩ := rbnd h
          cases h
          show (26 : Int) ≠ -1
          decide
        · cases h
      · obtain ⟨_, _, _, _, h⟩ := rbnd h
        cases h
        show (26 : Int) ≠ -1
        decide
    · cases h
      exact kd_pB n 3 _ _ _ _ _ h1
end
/-! #### Brackets -/
theorem sUpL_stop {T : List Tk} {last : Nat} {A : List (ByteArray × Mx)} {up : Int → Nat → SRes (Nd × Int)} {n : Int} {k : Nat} {x : Nd} {prio : Int} {pos : Nat} (h : Dull (nxt T last pos)) : sUpL T last A up n (k + 1) x prio pos = .ok (x, prio) pos := by
  rw [sUpL, if_neg (by rw [h.no (by decide)]; simp)]
  split
  · rw [if_neg (fun hh => by rw [h.part] at hh; cases hh.1)]
  · rfl
theorem lp_is : isT tLp ⟨#[40]⟩ = true := rfl
section
variable {T : List Tk} {z : Tk}
theorem brk_win (hz : isT z ⟨#[41]⟩ = true) (d : Nat) : Win T (tLp :: (T.map (shT d) ++ [z])) 1 0 T.length := by
  have hl : (T.map (shT d)).length = T.length := List.length_map ..
  refine ⟨fun p p' h1 h2 h3 => ?_, fun p' h3 => ?_, ?_, by omega⟩
  · obtain rfl : p' = p + 1 := by omega
    rw [tokAt_cons, tokAt_left (by omega), tokAt_map h2]
    exact shT_like d _
  · obtain rfl : p' = T.length + 1 := by omega
    rw [tokAt_cons, tokAt_right (by omega), hl, Nat.sub_self]
    exact dull_rp hz
  · simp only [List.length_cons, List.length_append, hl, List.length_nil]
    omega
theorem brk_len (d : Nat) : (tLp :: (T.map (shT d) ++ [z])).length = T.length + 2 := by simp
theorem brk_last (d : Nat) : tokAt (tLp :: (T.map (shT d) ++ [z])) (T.length + 1) = z := by
  have hl : (T.map (shT d)).length = T.length := List.length_map ..
  rw [tokAt_cons, tokAt_right (by omega), hl, Nat.sub_self]
  rfl
end
theorem same_paren {x y : Nd} {b e : Int} (h : same x y = true) : same x (.mk y.kind y.n y.s y.l b e) = true := by
  obtain ⟨k, n, s, l, b0, e0⟩ := x
  obtain ⟨k', n', s', l', b0', e0'⟩ := y
  rw [same] at h
  show same _ (.mk k' n' s' l' b e) = true
  rw [same]
  exact h
/-- AN EXPRESSION IN BRACKETS. -/
theorem expr_brk {ops : List Mx} {tx : ByteArray} (hs : tx.size ≤ 10000) {n : Nd} {at_ : Int} (h : givenP lxP pExpr kdP ops tx = ⟨n, at_, 0⟩) : ∃ m, givenP lxP pExpr kdP ops (brk tx) = ⟨m, 0, 0⟩ ∧ same n m = true := by
  obtain ⟨hap, he, -, n0, q, ex, es, hr, hq, hsl, hn, hc, hd⟩ := given_ok h
  have hlx := lx_brk hs he
  generalize hT : (lxP tx).1 = T at hr hq hsl hlx
  have hz : isT (tRp (tx.size + 3)) ⟨#[41]⟩ = true := rfl
  generalize tRp (tx.size + 3) = z at hlx hz
  have hw := brk_win (T := T) hz 2
  have hlen := brk_len (T := T) (z := z) 2
  have hlast := brk_last (T := T) (z := z) 2
  obtain ⟨e1, e2, e3, e4⟩ := pExpr_ok hr
  obtain rfl : q = T.length := by omega
  rw [e2] at hsl
  cases hsl with
  | cons _ _ v vs zz h0 hs' =>
    cases hs'
    have hv : n = v := by rw [hn, e4, fill, if_pos rfl]; rfl
    have hb1 := solve_bal h0 1
    generalize hT' : tLp :: (T.map (shT 2) ++ [z]) = T' at hlx hw hlen hlast
    have ht0 : tokAt T' 0 = tLp := by rw [← hT']; rfl
    have hend : tokAt T' (T.length + 2) = Tk.no := tokAt_end (by omega)
    -- the extent
    have hrun : runD T' (T.length + 2) 0 0 = some 0 := by
      have w1 : Walked T' 0 1 0 1 := .one (by rw [ht0]; exact step_lp rfl 0)
      have w2 : Walked T' 1 (T.length + 1) 1 1 := ⟨by omega, by
        have := runD_s hw T.length 1 0 1 1 (Nat.le_refl _) (by omega) (by omega) (by have := hb1.2.2.2; rw [Nat.sub_zero] at this; exact this)
        rw [show T.length + 1 - 1 = T.length by omega]
        exact this⟩
      have w3 : Walked T' (T.length + 1) (T.length + 1 + 1) 1 0 := .one (by rw [hlast]; exact step_rp hz 0)
      have := (w1.trans (w2.trans w3)).2
      exact this
    have hE : exprEnd T' (T'.length + 1) 0 0 = T.length + 2 := by
      have := exprEnd_of (T := T') (T.length + 2) (T'.length + 1) 0 0 0 (by omega) hrun (by rw [Nat.zero_add, hend]; exact dull_no.step)
      omega
    -- solved
    have nw : NWin T T' T.length (T.length + 2) 1 0 T.length := ⟨fun i i' h1 h2 h3 => by
        rw [nxt, if_pos h2, nxt, if_pos (by omega)]
        exact hw.like i i' h1 h2 h3, fun i' h3 => by
        rw [nxt, if_pos (by omega)]
        exact hw.dull i' h3, by omega⟩
    have hsolve : ∃ m, sSolve T' (tabM true ops) (tabM false ops) (0, T.length + 2) = .ok m (T.length + 2) ∧ same v m = true := by
      rw [sSolve] at h0 ⊢
      dsimp only at h0 ⊢
      obtain ⟨x, q0, h1, h0⟩ := sbnd_ok h0
      split at h0
      · rename_i hqq
        cases h0
        obtain ⟨x', q1', h1', hq1, hx, -⟩ := sUp_s nw _ (T.length + 2) 0 0 1 x _ (Nat.le_refl _) (by omega) (by omega) h1 (by omega)
        obtain rfl : q1' = T.length + 1 := by omega
        have hn0 : nxt T' (T.length + 2) 0 = tLp := by rw [nxt, if_pos (by omega), ht0]
        have hn1 : nxt T' (T.length + 2) (T.length + 1) = z := by rw [nxt, if_pos (by omega), hlast]
        have hn2 : nxt T' (T.length + 2) (T.length + 1 + 1) = Tk.no := by rw [nxt, if_neg (by omega)]
        rw [sUp, sUpTo, sFirst, hn0, if_neg (by decide), if_pos lp_is, h1']
        dsimp only [SRes.bnd]
        rw [hn1, if_pos hz]
        dsimp only
        rw [sUpL_stop (by rw [hn2]; exact dull_no)]
        dsimp only
        rw [if_pos rfl]
        exact ⟨_, rfl, same_paren hx⟩
      · cases h0
    obtain ⟨m, hm, hsm⟩ := hsolve
    have hr' : pExpr (brk tx) T' 0 [] = .ok (.mk (-1) 0 ⟨#[]⟩ [] (here (brk tx) T' 0) (max (here (brk tx) T' 0 : Int) (behind T' (T.length + 2)))) (T.length + 2) [(0, T.length + 2)] := by
      unfold pExpr
      rw [hE, ht0, if_pos (by decide)]
      rfl
    have hcd := same_cnt v m hsm
    have hfl : fill [m] (.mk (-1) 0 ⟨#[]⟩ [] (here (brk tx) T' 0) (max (here (brk tx) T' 0 : Int) (behind T' (T.length + 2)))) = m := by rw [fill, if_pos rfl]; rfl
    refine ⟨m, ?_, by rw [hv]; exact hsm⟩
    have := given_of (tx := brk tx) (rule := pExpr) hap (by rw [hlx]) (by rw [hlx]; exact hr') (by rw [hlx]; dsimp only; omega) (es := [m]) (by rw [hlx]; exact .cons _ _ _ _ _ hm .nil) (by rw [hfl, ← hcd.1, ← hv]; exact hc) (by rw [hfl, ← hcd.2, ← hv]; exact hd)
    rw [hfl] at this
    exact this
theorem lk_side {cx : Int} {x y : Nd} {b e : Int} (h : lk cx x y) : lk cx x (.mk y.kind y.n y.s y.l b e) := by
  obtain ⟨k, n, s, l, b0, e0⟩ := x
  obtain ⟨k', n', s', l', b0', e0'⟩ := y
  rw [lk] at h
  show lk cx _ (.mk k' n' s' l' b e)
  rw [lk]
  exact h
theorem pend_side {m : Nat} {y : Nd} {b e : Int} (h : Pend m y) : Pend m (.mk y.kind y.n y.s y.l b e) := by
  obtain ⟨k', n', s', l', b0', e0'⟩ := y
  rw [Pend] at h
  show Pend m (.mk k' n' s' l' b e)
  rw [Pend]
  exact h
theorem fill_root {es : List Nd} {x : Nd} (h : x.kind ≠ -1) : (fill es x).b = x.b ∧ (fill es x).e = x.e := by
  obtain ⟨k, n, s, l, b, e⟩ := x
  replace h : k ≠ -1 := h
  rw [fill, if_neg h]
  exact ⟨rfl, rfl⟩
/-- A BEHAVIOUR IN BRACKETS. -/
theorem beh_brk {ops : List Mx} {tx : ByteArray} (hs : tx.size ≤ 10000) {n : Nd} {at_ : Int} (h : givenP lxP pBehaviour kdP ops tx = ⟨n, at_, 0⟩) : ∃ m, givenP lxP pBehaviour kdP ops (brk tx) = ⟨m, 0, 0⟩ ∧ same n m = true ∧ m.b = 0 ∧ m.e = (tx.size : Int) + 4 := by
  obtain ⟨hap, he, -, n0, q, ex, es, hr, hq, hsl, hn, hc, hd⟩ := given_ok h
  have hlx := lx_brk hs he
  generalize hT : (lxP tx).1 = T at hr hq hsl hlx
  have hz : isT (tRp (tx.size + 3)) ⟨#[41]⟩ = true := rfl
  have hze : (tRp (tx.size + 3)).e = tx.size + 4 := rfl
  generalize tRp (tx.size + 3) = z at hlx hz hze
  have hw := brk_win (T := T) hz 2
  have hlen := brk_len (T := T) (z := z) 2
  have hlast := brk_last (T := T) (z := z) 2
  unfold pBehaviour at hr
  have w := wfe (pB_wf tx T _ 4 0 [] (Nat.zero_le _) (Nat.le_refl _)) hr
  have hi := pB_inv tx T (8 * T.length + 8) 4 (Nat.le_refl _) 0 [] (fun x hx => by cases hx)
  rw [hr] at hi
  obtain rfl : q = T.length := by omega
  generalize hT' : tLp :: (T.map (shT 2) ++ [z]) = T' at hlx hw hlen hlast
  have ht0 : tokAt T' 0 = tLp := by rw [← hT']; rfl
  have hend : tokAt T' (T.length + 2) = Tk.no := tokAt_end (by omega)
  obtain ⟨x', q', e', hb', hq', hR, hE⟩ := pB_s (cx := 0) (B := []) (B' := []) tx (brk tx) hw (8 * T.length + 8) 4 (8 * T.length + 19) 0 (Nat.le_refl _) (by omega) 0 1 [] [] n0 _ ex (Nat.le_refl _) (Nat.le_refl _) (Nat.zero_le _) (Nat.le_refl _) (by omega) (.base rfl) hr (Nat.le_refl _)
  obtain rfl : q' = T.length + 1 := by omega
  have hk := kd_pB (brk tx) T' _ _ _ _ _ _ _ hb'
  have hi' := pB_inv (brk tx) T' (8 * T.length + 19) 4 (Nat.le_refl _) 1 [] (fun x hx => by cases hx)
  rw [hb'] at hi'
  have h0 : pB (brk tx) T' (8 * T.length + 20) 0 0 [] = .ok (.mk x'.kind x'.n x'.s x'.l (here (brk tx) T' 0) (behind T' (T.length + 1 + 1))) (T.length + 1 + 1) e' := by
    rw [pB, pPre, ht0, if_neg (by decide), if_pos lp_is, pParen, hb']
    dsimp only [Res.bnd]
    rw [hlast, if_pos hz]
  have h4 := lift_up (lv := 0) (by rw [hend]; exact dull_no) (by omega) h0
  obtain ⟨vs', hv', -, hsm⟩ := exr_slvs hw hE .nil hsl
  have hsame := fill_s (cx := 0) (es := es) (es' := vs') (m := ex.length) (m' := e'.length) (fun i h1 _ _ => hsm i (Nat.zero_le _) h1) n0 _ (lk_side (b := here (brk tx) T' 0) (e := behind T' (T.length + 1 + 1)) hR) hi.2.2.1 (pend_side hi'.2.2.1)
  rw [← hn] at hsame
  have hcd := same_cnt _ _ hsame
  have hrt := fill_root (es := vs') (x := .mk x'.kind x'.n x'.s x'.l (here (brk tx) T' 0) (behind T' (T.length + 1 + 1))) hk
  refine ⟨_, ?_, hsame, ?_, ?_⟩
  · refine given_of (tx := brk tx) (rule := pBehaviour) hap (by rw [hlx]) (by rw [hlx]; unfold pBehaviour; dsimp only; rw [hlen]; exact h4) (by rw [hlx]; dsimp only; omega) (by rw [hlx]; exact hv') (by rw [← hcd.1]; exact hc) (by rw [← hcd.2]; exact hd)
  · rw [hrt.1]
    show (here (brk tx) T' 0 : Int) = 0
    have : T'[0]? = some tLp := by rw [← hT']; rfl
    rw [here, this]
    rfl
  · rw [hrt.2]
    show (behind T' (T.length + 1 + 1) : Int) = _
    have : T'[T.length + 1]? = some z := by
      have h2 : T.length + 1 < T'.length := by omega
      have h3 := hlast
      rw [tokAt, List.getD_eq_getElem?_getD, List.getElem?_eq_getElem h2] at h3
      rw [List.getElem?_eq_getElem h2]
      exact congrArg some h3
    rw [behind, Nat.add_sub_cancel, this]
    dsimp only
    rw [if_neg (by omega), hze]
    omega
end Go.Proofs.YtjcocblohiglbaaGreatDoor
