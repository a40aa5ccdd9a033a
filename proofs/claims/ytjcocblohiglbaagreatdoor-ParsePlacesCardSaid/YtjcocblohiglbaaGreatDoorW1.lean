/- Windows of tokens: what reads alike, dull ends, depth; what is solved is balanced. Conditions: none. -/
import Derived.Test.YtjcocblohiglbaaGreatDoorC5
import Derived.Test.YtjcocblohiglbaaGreatDoorC1
namespace Go.Proofs.YtjcocblohiglbaaGreatDoor
open Go.Dp
set_option linter.unusedVariables false
set_option linter.unusedSimpArgs false
/-- Tokens that read alike. -/
def LikeT (t u : Tk) : Prop := t.kind = u.kind ∧ t.n = u.n ∧ t.s = u.s
theorem LikeT.sg {t u : Tk} (h : LikeT t u) (s : ByteArray) : isT t s = isT u s := by simp only [isT, h.1, h.2.2]
theorem LikeT.part {t u : Tk} (h : LikeT t u) : partT t = partT u := by simp only [partT, h.1]
theorem LikeT.step {t u : Tk} (h : LikeT t u) (d : Nat) : exprStep t d = exprStep u d := by simp only [exprStep, h.sg, h.part, h.1]
theorem LikeT.opens {t u : Tk} (h : LikeT t u) : opensT t = opensT u := by simp only [opensT, h.sg, h.part, h.1]
theorem LikeT.acts {t u : Tk} (h : LikeT t u) : actsT t = actsT u := by simp only [actsT, h.sg]
/-- A token at which nothing goes on. -/
structure Dull (t : Tk) : Prop where
  k1 : t.kind ≠ 1
  k3 : t.kind ≠ 3
  k4 : t.kind ≠ 4
  sg : ∀ s, isT t s = true → s = ⟨#[41]⟩
theorem Dull.no {t : Tk} (h : Dull t) {s : ByteArray} (hs : s ≠ ⟨#[41]⟩) : isT t s = false := by
  cases hb : isT t s with
  | false => rfl
  | true => exact absurd (h.sg s hb) hs
theorem Dull.part {t : Tk} (h : Dull t) : partT t = false := by simp [partT, h.k1, h.k4]
theorem Dull.step {t : Tk} (h : Dull t) : exprStep t 0 = none := by
  have a1 := h.no (s := ⟨#[40]⟩) (by decide)
  have a2 := h.no (s := ⟨#[111, 102]⟩) (by decide)
  simp [exprStep, a1, a2, h.part, h.k3]
theorem dull_no : Dull Tk.no := ⟨by decide, by decide, by decide, fun s h => by simp [isT, Tk.no] at h⟩
/-- The depth behind k tokens; none: not all belong to an expression. -/
def runD (T : List Tk) : Nat → Nat → Nat → Option Nat
  | 0, deep, _ => some deep
  | k + 1, deep, pos => match exprStep (tokAt T pos) deep with
    | some d => runD T k d (pos + 1)
    | none => none
theorem runD_add {T : List Tk} : ∀ (j k deep pos d : Nat), runD T j deep pos = some d → runD T (j + k) deep pos = runD T k d (pos + j)
  | 0, k, deep, pos, d, h => by rw [runD] at h; cases h; rw [Nat.zero_add, Nat.add_zero]
  | j + 1, k, deep, pos, d, h => by
    rw [runD] at h
    rw [Nat.add_right_comm, runD]
    cases hs : exprStep (tokAt T pos) deep with
    | none => rw [hs] at h; cases h
    | some x =>
      rw [hs] at h
      dsimp only at h ⊢
      rw [runD_add j k x (pos + 1) d h, Nat.add_assoc, Nat.add_comm 1 j]
theorem exprEnd_run {T : List Tk} : ∀ (n deep pos : Nat), T.length < n + pos → ∃ k d, exprEnd T n deep pos = pos + k ∧ runD T k deep pos = some d ∧ exprStep (tokAt T (pos + k)) d = none
  | 0, deep, pos, h => ⟨0, deep, rfl, rfl, by
      cases hs : exprStep (tokAt T (pos + 0)) deep with
      | none => rfl
      | some d => have := exprStep_lt T hs; omega⟩
  | n + 1, deep, pos, h => by
    rw [exprEnd]
    cases hs : exprStep (tokAt T pos) deep with
    | none => exact ⟨0, deep, rfl, rfl, hs⟩
    | some d0 =>
      obtain ⟨k, d, h1, h2, h3⟩ := exprEnd_run (T := T) n d0 (pos + 1) (by omega)
      exact ⟨k + 1, d, by dsimp only; omega, by rw [runD, hs]; exact h2, by rw [show pos + (k + 1) = pos + 1 + k by omega]; exact h3⟩
theorem exprEnd_of {T : List Tk} : ∀ (k n deep pos d : Nat), k < n → runD T k deep pos = some d → exprStep (tokAt T (pos + k)) d = none → exprEnd T n deep pos = pos + k
  | 0, n + 1, deep, pos, d, hn, h, hs => by
    rw [runD] at h
    cases h
    rw [Nat.add_zero] at hs
    rw [exprEnd, hs]
    rfl
  | k + 1, n + 1, deep, pos, d, hn, h, hs => by
    rw [runD] at h
    rw [exprEnd]
    cases hx : exprStep (tokAt T pos) deep with
    | none => rw [hx] at h; cases h
    | some x =>
      rw [hx] at h
      dsimp only at h ⊢
      rw [exprEnd_of k n x (pos + 1) d (by omega) h (by rw [show pos + 1 + k = pos + (k + 1) by omega]; exact hs)]
      omega
/-- From p to q the tokens lead from a depth to another. -/
def Walked (T : List Tk) (p q a b : Nat) : Prop := p ≤ q ∧ runD T (q - p) a p = some b
theorem Walked.refl {T : List Tk} {p a : Nat} : Walked T p p a a := ⟨Nat.le_refl _, by rw [Nat.sub_self]; rfl⟩
theorem Walked.trans {T : List Tk} {p q r a b c : Nat} (h : Walked T p q a b) (h' : Walked T q r b c) : Walked T p r a c := by
  obtain ⟨h1, h2⟩ := h
  obtain ⟨g1, g2⟩ := h'
  refine ⟨Nat.le_trans h1 g1, ?_⟩
  rw [show r - p = (q - p) + (r - q) by omega, runD_add _ _ _ _ _ h2, show p + (q - p) = q by omega]
  exact g2
theorem Walked.one {T : List Tk} {p a b : Nat} (h : exprStep (tokAt T p) a = some b) : Walked T p (p + 1) a b := ⟨by omega, by rw [show p + 1 - p = 0 + 1 by omega, runD, h]; rfl⟩
theorem step_num {t : Tk} (h : t.kind = 3) (d : Nat) : exprStep t d = some d := by simp [exprStep, isT, partT, h]
theorem step_part {t : Tk} (h : partT t = true) (d : Nat) : exprStep t d = some d := by
  have h1 : ∀ s, isT t s = false := fun s => by
    cases hb : isT t s with
    | false => rfl
    | true => rw [isT_part hb] at h; cases h
  rw [exprStep, h1, h1]
  simp [h]
theorem step_lp {t : Tk} (h : isT t ⟨#[40]⟩ = true) (d : Nat) : exprStep t d = some (d + 1) := by rw [exprStep, if_pos h]
theorem step_rp {t : Tk} (h : isT t ⟨#[41]⟩ = true) (d : Nat) : exprStep t (d + 1) = some d := by
  rw [exprStep, isT_ne h (by decide), if_neg (by simp), if_pos ⟨h, by omega⟩]
  rfl
theorem step_of {t : Tk} (h : isT t ⟨#[111, 102]⟩ = true) (d : Nat) : exprStep t d = some d := by
  rw [exprStep, isT_ne h (by decide), isT_ne h (by decide), if_neg (by simp), if_neg (by simp), if_pos (.inr (.inr (.inl h)))]
theorem step_cm {t : Tk} (h : isT t ⟨#[44]⟩ = true) (d : Nat) : exprStep t (d + 1) = some (d + 1) := by
  rw [exprStep, isT_ne h (by decide), isT_ne h (by decide), if_neg (by simp), if_neg (by simp), if_pos (.inr (.inr (.inr ⟨h, by omega⟩)))]
theorem nxt_at {T : List Tk} {last p : Nat} (h : nxt T last p ≠ Tk.no) : nxt T last p = tokAt T p ∧ p < last := by
  unfold nxt at h ⊢
  split
  · exact ⟨rfl, by assumption⟩
  · rename_i hn
    rw [if_neg hn] at h
    exact absurd rfl h
theorem nxt_sg {T : List Tk} {last p : Nat} {s : ByteArray} (h : isT (nxt T last p) s = true) : isT (tokAt T p) s = true ∧ p < last := by
  have := nxt_at (T := T) (last := last) (p := p) (fun e => by rw [e] at h; simp [isT, Tk.no] at h)
  exact ⟨this.1 ▸ h, this.2⟩
theorem nxt_pt {T : List Tk} {last p : Nat} (h : partT (nxt T last p) = true) : partT (tokAt T p) = true ∧ p < last := by
  have := nxt_at (T := T) (last := last) (p := p) (fun e => by rw [e] at h; simp [partT, Tk.no] at h)
  exact ⟨this.1 ▸ h, this.2⟩
theorem nxt_kind {T : List Tk} {last p : Nat} {k : Int} (hk : k ≠ 0) (h : (nxt T last p).kind = k) : (tokAt T p).kind = k ∧ p < last := by
  have := nxt_at (T := T) (last := last) (p := p) (fun e => by rw [e] at h; exact hk h.symm)
  exact ⟨this.1 ▸ h, this.2⟩
theorem sbnd_ok {α β : Type} {r : SRes α} {f : α → Nat → SRes β} {y : β} {q : Nat} (h : r.bnd f = .ok y q) : ∃ x q0, r = .ok x q0 ∧ f x q0 = .ok y q := by
  cases r with
  | ok x q0 => exact ⟨x, q0, rfl, h⟩
  | bad q0 => cases h
section
variable {T : List Tk} {last : Nat} {A F : List (ByteArray × Mx)} {up : Int → Nat → SRes (Nd × Int)}
def UpW (T : List Tk) (up : Int → Nat → SRes (Nd × Int)) : Prop := ∀ n pos x q, up n pos = .ok x q → ∀ d, Walked T pos q d d
theorem sParts_w (hu : UpW T up) : ∀ (ps : List ByteArray) (l : List Nd) (e : Int) (pos : Nat) (r : List Nd × Int) (q : Nat), sParts T last up ps l e pos = .ok r q → ∀ d, Walked T pos q d d
  | [], l, e, pos, r, q, h, d => by rw [sParts] at h; cases h; exact .refl
  | s :: ps, l, e, pos, r, q, h, d => by
    rw [sParts] at h
    obtain ⟨x, q0, h0, h⟩ := sbnd_ok h
    split at h
    · rename_i hc
      exact (hu 0 pos x q0 h0 d).trans ((Walked.one (step_part (nxt_pt hc.1).1 d)).trans (sParts_w hu ps _ _ _ r q h d))
    · cases h
theorem sRest_w (hu : UpW T up) {op : Mx} {l : List Nd} {a0 : Int} {pos : Nat} {y : Nd} {q : Nat} (h : sRest T last up op l a0 pos = .ok y q) (d : Nat) : Walked T pos q d d := by
  rw [sRest] at h
  obtain ⟨r, q0, h0, h⟩ := sbnd_ok h
  have w0 := sParts_w hu _ _ _ _ _ _ h0 d
  split at h
  · obtain ⟨x, q1, h1, h⟩ := sbnd_ok h
    cases h
    exact w0.trans (hu _ _ _ _ h1 d)
  · cases h
    exact w0
theorem sArgs_w (hu : UpW T up) : ∀ (n : Nat) (acc : List Nd) (pos : Nat) (l : List Nd) (q : Nat), sArgs T last up n acc pos = .ok l q → ∀ d, Walked T pos q (d + 1) (d + 1)
  | 0, acc, pos, l, q, h, d => by rw [sArgs] at h; cases h
  | n + 1, acc, pos, l, q, h, d => by
    rw [sArgs] at h
    obtain ⟨x, q0, h0, h⟩ := sbnd_ok h
    split at h
    · rename_i hc
      exact (hu 0 pos x q0 h0 _).trans ((Walked.one (step_cm (nxt_sg hc).1 d)).trans (sArgs_w hu n _ _ l q h d))
    · cases h
      exact hu 0 pos x _ h0 _
theorem sFirst_w (hu : UpW T up) {n : Int} {pos : Nat} {x : Nd × Int} {q : Nat} (h : sFirst T last F up n pos = .ok x q) (d : Nat) : pos + 1 ≤ q ∧ Walked T pos q d d := by
  rw [sFirst] at h
  split at h
  · rename_i h3
    cases h
    exact ⟨Nat.le_refl _, .one (step_num (nxt_kind (by decide) h3).1 d)⟩
  split at h
  · rename_i h1
    obtain ⟨y, q0, h0, h⟩ := sbnd_ok h
    split at h
    · rename_i h2
      cases h
      have := (hu 0 _ y q0 h0 (d + 1)).trans (Walked.one (step_rp (nxt_sg h2).1 d))
      exact ⟨this.1, (Walked.one (step_lp (nxt_sg h1).1 d)).trans this⟩
    · cases h
  split at h
  · rename_i h1
    have w1 := Walked.one (step_part (nxt_pt h1).1 d)
    split at h
    · split at h
      · cases h
      · obtain ⟨y, q0, h0, h⟩ := sbnd_ok h
        cases h
        have := sRest_w hu h0 d
        exact ⟨this.1, w1.trans this⟩
    · split at h
      · rename_i h2
        obtain ⟨l, q0, h0, h⟩ := sbnd_ok h
        split at h
        · rename_i h3
          cases h
          have := (Walked.one (step_lp (nxt_sg h2).1 d)).trans ((sArgs_w hu _ _ _ _ _ h0 d).trans (Walked.one (step_rp (nxt_sg h3).1 d)))
          exact ⟨this.1, w1.trans this⟩
        · cases h
      · cases h
        exact ⟨Nat.le_refl _, w1⟩
  · cases h
theorem sUpL_w (hu : UpW T up) {n : Int} : ∀ (k : Nat) (x : Nd) (prio : Int) (pos : Nat) (y : Nd × Int) (q : Nat), sUpL T last A up n k x prio pos = .ok y q → ∀ d, Walked T pos q d d
  | 0, x, prio, pos, y, q, h, d => by rw [sUpL] at h; cases h
  | k + 1, x, prio, pos, y, q, h, d => by
    rw [sUpL] at h
    split at h
    · rename_i h1
      split at h
      · rename_i h2
        have w2 := Walked.one (step_part (t := tokAt T (pos + 1)) (by simp [partT, (nxt_kind (by decide) h2).1]) d)
        exact (Walked.one (step_of (nxt_sg h1).1 d)).trans (w2.trans (sUpL_w hu k _ _ _ y q h d))
      · cases h
    split at h
    · split at h
      · rename_i h1
        obtain ⟨z, q0, h0, h⟩ := sbnd_ok h
        exact (Walked.one (step_part (nxt_pt h1.1).1 d)).trans ((sRest_w hu h0 d).trans (sUpL_w hu k _ _ _ y q h d))
      · cases h
        exact .refl
    · cases h
      exact .refl
theorem sUp_w : ∀ (f : Nat), UpW T (sUp T last A F f)
  | 0 => fun n pos x q h d => by rw [sUp] at h; cases h
  | f + 1 => fun n pos x q h d => by
    rw [sUp, sUpTo] at h
    obtain ⟨y, q0, h0, h⟩ := sbnd_ok h
    exact (sFirst_w (sUp_w f) h0 d).2.trans (sUpL_w (sUp_w f) _ _ _ _ x q h d)
theorem sUp_gt {f : Nat} {n : Int} {pos : Nat} {x : Nd × Int} {q : Nat} (h : sUp T last A F f n pos = .ok x q) : pos + 1 ≤ q := by
  match f, h with
  | 0, h => rw [sUp] at h; cases h
  | f + 1, h =>
    rw [sUp, sUpTo] at h
    obtain ⟨y, q0, h0, h⟩ := sbnd_ok h
    have h1 := (sFirst_w (sUp_w f) h0 0).1
    have h2 := (sUpL_w (sUp_w f) _ _ _ _ x q h 0).1
    omega
end
/-- What is solved is balanced. -/
theorem solve_bal {T : List Tk} {A F : List (ByteArray × Mx)} {p q z : Nat} {v : Nd} (h : sSolve T A F (p, q) = .ok v z) (d : Nat) : z = q ∧ p + 1 ≤ q ∧ Walked T p q d d := by
  rw [sSolve] at h
  obtain ⟨x, q0, h0, h⟩ := sbnd_ok h
  split at h
  · rename_i hq
    cases h
    dsimp only at hq h0
    subst hq
    exact ⟨rfl, sUp_gt h0, sUp_w _ _ _ _ _ h0 d⟩
  · cases h
end Go.Proofs.YtjcocblohiglbaaGreatDoor
/- Windows of tokens: what is solved in one is solved alike in another. Conditions: none. -/
namespace Go.Proofs.YtjcocblohiglbaaGreatDoor
open Go.Dp
set_option linter.unusedVariables false
set_option linter.unusedSimpArgs false
theorem sames_append : ∀ {l l' m m' : List Nd}, sames l l' = true → sames m m' = true → sames (l ++ m) (l' ++ m') = true
  | [], [], m, m', _, h => h
  | x :: l, y :: l', m, m', h, h' => by
    rw [sames, Bool.and_eq_true] at h
    rw [List.cons_append, List.cons_append, sames, h.1, sames_append h.2 h']
    rfl
  | [], _ :: _, _, _, h, _ => by rw [sames] at h; cases h
  | _ :: _, [], _, _, h, _ => by rw [sames] at h; cases h
theorem sames_one {x y : Nd} (h : same x y = true) : sames [x] [y] = true := by rw [sames, sames, h]; rfl
theorem same_mk {k n : Int} {s : ByteArray} {l l' : List Nd} {b e b' e' : Int} (h : sames l l' = true) : same (.mk k n s l b e) (.mk k n s l' b' e') = true := by rw [same, h]; simp
/-- Two windows of solvers: from lo to hi tokens are alike, c: how far the second lies behind; behind the second is a dull end. -/
structure NWin (T T' : List Tk) (last last' : Nat) (c : Int) (lo hi : Nat) : Prop where
  like : ∀ p p' : Nat, lo ≤ p → p < hi → (p' : Int) = p + c → LikeT (nxt T last p) (nxt T' last' p')
  dull : ∀ p' : Nat, (p' : Int) = hi + c → Dull (nxt T' last' p')
  fit : (hi : Int) + c ≤ last'
section
variable {T T' : List Tk} {last last' : Nat} {A F : List (ByteArray × Mx)} {c : Int} {lo hi K : Nat} {up up' : Int → Nat → SRes (Nd × Int)}
theorem NWin.sg (hw : NWin T T' last last' c lo hi) {p p' : Nat} {s : ByteArray} (h1 : lo ≤ p) (h2 : p < hi) (h3 : (p' : Int) = p + c) (h : isT (nxt T last p) s = true) : isT (nxt T' last' p') s = true := by rw [← (hw.like p p' h1 h2 h3).sg]; exact h
theorem NWin.nosg (hw : NWin T T' last last' c lo hi) {p p' : Nat} {s : ByteArray} (h1 : lo ≤ p) (h2 : p ≤ hi) (h3 : (p' : Int) = p + c) (hs : s ≠ ⟨#[41]⟩) (h : ¬ isT (nxt T last p) s = true) : ¬ isT (nxt T' last' p') s = true := by
  by_cases hp : p < hi
  · rw [← (hw.like p p' h1 hp h3).sg]; exact h
  · rw [(hw.dull p' (by omega)).no hs]; simp
/-- What one reads the other reads, at the same place of its window. -/
def UpS (c : Int) (lo hi K : Nat) (up up' : Int → Nat → SRes (Nd × Int)) : Prop := ∀ (n : Int) (pos pos' : Nat) (x : Nd × Int) (q : Nat), lo ≤ pos → (pos' : Int) = pos + c → hi < pos + K → up n pos = .ok x q → q ≤ hi → ∃ x' q', up' n pos' = .ok x' q' ∧ (q' : Int) = q + c ∧ same x.1 x'.1 = true ∧ x.2 = x'.2
theorem sParts_s (hw : NWin T T' last last' c lo hi) (hu : UpW T up) (hs : UpS c lo hi K up up') : ∀ (ps : List ByteArray) (l l' : List Nd) (e e' : Int) (pos pos' : Nat) (r : List Nd × Int) (q : Nat), lo ≤ pos → (pos' : Int) = pos + c → hi < pos + K → sames l l' = true → sParts T last up ps l e pos = .ok r q → q ≤ hi →
    ∃ r' q', sParts T' last' up' ps l' e' pos' = .ok r' q' ∧ (q' : Int) = q + c ∧ sames r.1 r'.1 = true
  | [], l, l', e, e', pos, pos', r, q, hl, hp, hK, hsm, h, hq => by
    rw [sParts] at h ⊢
    cases h
    exact ⟨_, _, rfl, hp, hsm⟩
  | s :: ps, l, l', e, e', pos, pos', r, q, hl, hp, hK, hsm, h, hq => by
    rw [sParts] at h ⊢
    obtain ⟨x, q0, h0, h⟩ := sbnd_ok h
    split at h
    · rename_i hc
      have w1 := (sParts_w hu _ _ _ _ _ _ h 0).1
      have w0 := (hu _ _ _ _ h0 0).1
      obtain ⟨x', q0', h0', hq0, hx, -⟩ := hs 0 pos pos' x q0 hl hp hK h0 (by omega)
      have hk := hw.like q0 q0' (by omega) (by omega) hq0
      rw [h0']
      dsimp only [SRes.bnd]
      rw [if_pos ⟨hk.part ▸ hc.1, hk.2.2 ▸ hc.2⟩]
      exact sParts_s hw hu hs ps _ _ _ _ _ _ r q (by omega) (by omega) (by omega) (sames_append hsm (sames_one hx)) h hq
    · cases h
theorem sRest_s (hw : NWin T T' last last' c lo hi) (hu : UpW T up) (hs : UpS c lo hi K up up') {op : Mx} {l l' : List Nd} {a0 a0' : Int} {pos pos' : Nat} {y : Nd} {q : Nat} (hl : lo ≤ pos) (hp : (pos' : Int) = pos + c) (hK : hi < pos + K) (hsm : sames l l' = true) (h : sRest T last up op l a0 pos = .ok y q) (hq : q ≤ hi) :
    ∃ y' q', sRest T' last' up' op l' a0' pos' = .ok y' q' ∧ (q' : Int) = q + c ∧ same y y' = true := by
  rw [sRest] at h ⊢
  obtain ⟨r, q0, h0, h⟩ := sbnd_ok h
  have w0 := (sParts_w hu _ _ _ _ _ _ h0 0).1
  split at h
  · rename_i hr
    obtain ⟨x, q1, h1, h⟩ := sbnd_ok h
    cases h
    have w1 := (hu _ _ _ _ h1 0).1
    obtain ⟨r', q0', h0', hq0, hx⟩ := sParts_s hw hu hs _ _ _ _ ((tokAt T' (pos' - 1)).e : Int) _ _ _ _ hl hp hK hsm h0 (by omega)
    obtain ⟨x', q1', h1', hq1, hy, -⟩ := hs _ q0 q0' x _ (by omega) hq0 (by omega) h1 hq
    rw [h0']
    dsimp only [SRes.bnd]
    rw [if_pos hr, h1']
    exact ⟨_, _, rfl, hq1, same_mk (sames_append hx (sames_one hy))⟩
  · rename_i hr
    cases h
    obtain ⟨r', q0', h0', hq0, hx⟩ := sParts_s hw hu hs _ _ _ _ ((tokAt T' (pos' - 1)).e : Int) _ _ _ _ hl hp hK hsm h0 hq
    rw [h0']
    dsimp only [SRes.bnd]
    rw [if_neg hr]
    exact ⟨_, _, rfl, hq0, same_mk hx⟩
theorem sArgs_s (hw : NWin T T' last last' c lo hi) (hu : UpW T up) (hs : UpS c lo hi K up up') : ∀ (n n' : Nat) (acc acc' : List Nd) (pos pos' : Nat) (r : List Nd) (q : Nat), lo ≤ pos → (pos' : Int) = pos + c → hi < pos + K → hi < pos + n' → sames acc acc' = true → sArgs T last up n acc pos = .ok r q → q ≤ hi →
    ∃ r' q', sArgs T' last' up' n' acc' pos' = .ok r' q' ∧ (q' : Int) = q + c ∧ sames r r' = true
  | 0, n', acc, acc', pos, pos', r, q, hl, hp, hK, hn, hsm, h, hq => by rw [sArgs] at h; cases h
  | n + 1, n', acc, acc', pos, pos', r, q, hl, hp, hK, hn, hsm, h, hq => by
    rw [sArgs] at h
    obtain ⟨x, q0, h0, h⟩ := sbnd_ok h
    have w0 := (hu _ _ _ _ h0 0).1
    split at h
    · rename_i hc
      have w1 := (sArgs_w hu _ _ _ _ _ h 0).1
      obtain ⟨m, rfl⟩ : ∃ m, n' = m + 1 := ⟨n' - 1, by omega⟩
      obtain ⟨x', q0', h0', hq0, hx, -⟩ := hs 0 pos pos' x q0 hl hp hK h0 (by omega)
      rw [sArgs, h0']
      dsimp only [SRes.bnd]
      rw [if_pos (hw.sg (by omega) (by omega) hq0 hc)]
      exact sArgs_s hw hu hs n m _ _ _ _ r q (by omega) (by omega) (by omega) (by omega) (sames_append hsm (sames_one hx)) h hq
    · rename_i hc
      cases h
      obtain ⟨m, rfl⟩ : ∃ m, n' = m + 1 := ⟨n' - 1, by omega⟩
      obtain ⟨x', q0', h0', hq0, hx, -⟩ := hs 0 pos pos' x _ hl hp hK h0 hq
      rw [sArgs, h0']
      dsimp only [SRes.bnd]
      rw [if_neg (hw.nosg (by omega) (by omega) hq0 (by decide) hc)]
      exact ⟨_, _, rfl, hq0, sames_append hsm (sames_one hx)⟩
theorem sFirst_s (hw : NWin T T' last last' c lo hi) (hu : UpW T up) (hs : UpS c lo hi K up up') {n : Int} {pos pos' : Nat} {x : Nd × Int} {q : Nat} (hl : lo ≤ pos) (hp : (pos' : Int) = pos + c) (hK : hi < pos + 1 + K) (h : sFirst T last F up n pos = .ok x q) (hq : q ≤ hi) :
    ∃ x' q', sFirst T' last' F up' n pos' = .ok x' q' ∧ (q' : Int) = q + c ∧ same x.1 x'.1 = true ∧ x.2 = x'.2 := by
  have w := (sFirst_w hu h 0).1
  have hk := hw.like pos pos' hl (by omega) hp
  have hfit := hw.fit
  rw [sFirst] at h ⊢
  rw [← hk.1, ← hk.2.1, ← hk.2.2, ← hk.sg, ← hk.part]
  split at h
  · rename_i h3
    cases h
    rw [if_pos h3]
    exact ⟨_, _, rfl, by omega, same_mk rfl, rfl⟩
  rename_i h3
  rw [if_neg h3]
  split at h
  · rename_i h1
    rw [if_pos h1]
    obtain ⟨y, q0, h0, h⟩ := sbnd_ok h
    split at h
    · rename_i h2
      cases h
      have w0 := (hu _ _ _ _ h0 0).1
      obtain ⟨y', q0', h0', hq0, hy, -⟩ := hs 0 (pos + 1) (pos' + 1) y q0 (by omega) (by omega) (by omega) h0 (by omega)
      rw [h0']
      dsimp only [SRes.bnd]
      rw [if_pos (hw.sg (by omega) (by omega) hq0 h2)]
      refine ⟨_, _, rfl, by omega, ?_, rfl⟩
      obtain ⟨⟨k, n, s, l, b, e⟩, pr⟩ := y
      obtain ⟨⟨k', n', s', l', b', e'⟩, pr'⟩ := y'
      show same (.mk k n s l _ _) (.mk k' n' s' l' _ _) = true
      dsimp only at hy
      rw [same] at hy ⊢
      exact hy
    · cases h
  rename_i h1
  rw [if_neg h1]
  split at h
  · rename_i h2
    rw [if_pos h2]
    split at h
    · rename_i op ho
      try (rw [ho]; dsimp only)
      split at h
      · cases h
      · rename_i hst
        rw [if_neg hst]
        obtain ⟨y, q0, h0, h⟩ := sbnd_ok h
        cases h
        obtain ⟨y', q0', h0', hq0, hy⟩ := sRest_s hw hu hs (a0' := (nxt T' last' pos').b) (l' := []) (pos' := pos' + 1) (by omega) (by omega) (by omega) rfl h0 hq
        rw [h0']
        exact ⟨_, _, rfl, hq0, hy, rfl⟩
    · rename_i ho
      try (rw [ho]; dsimp only)
      split at h
      · rename_i h4
        obtain ⟨l, q0, h0, h⟩ := sbnd_ok h
        have w0 := (sArgs_w hu _ _ _ _ _ h0 0).1
        split at h
        · rename_i h5
          cases h
          rw [if_pos (hw.sg (p' := pos' + 1) (by omega) (by omega) (by omega) h4)]
          obtain ⟨l', q0', h0', hq0, hy⟩ := sArgs_s hw hu hs _ (last' + 1) _ [] (pos + 2) (pos' + 2) _ _ (by omega) (by omega) (by omega) (by omega) rfl h0 (by omega)
          rw [h0']
          dsimp only [SRes.bnd]
          rw [if_pos (hw.sg (by omega) (by omega) hq0 h5)]
          exact ⟨_, _, rfl, by omega, same_mk hy, rfl⟩
        · cases h
      · rename_i h4
        cases h
        rw [if_neg (hw.nosg (p' := pos' + 1) (by omega) (by omega) (by omega) (by decide) h4)]
        exact ⟨_, _, rfl, by omega, same_mk rfl, rfl⟩
  · cases h
theorem sUpL_s (hw : NWin T T' last last' c lo hi) (hu : UpW T up) (hs : UpS c lo hi K up up') {n : Int} : ∀ (k k' : Nat) (x x' : Nd) (prio : Int) (pos pos' : Nat) (y : Nd × Int) (q : Nat), lo ≤ pos → (pos' : Int) = pos + c → hi < pos + 1 + K → hi < pos + k' → same x x' = true → sUpL T last A up n k x prio pos = .ok y q → q ≤ hi →
    ∃ y' q', sUpL T' last' A up' n k' x' prio pos' = .ok y' q' ∧ (q' : Int) = q + c ∧ same y.1 y'.1 = true ∧ y.2 = y'.2
  | 0, k', x, x', prio, pos, pos', y, q, hl, hp, hK, hn, hsm, h, hq => by rw [sUpL] at h; cases h
  | k + 1, k', x, x', prio, pos, pos', y, q, hl, hp, hK, hn, hsm, h, hq => by
    have w := (sUpL_w hu (k + 1) _ _ _ _ _ h 0).1
    obtain ⟨m, rfl⟩ : ∃ m, k' = m + 1 := ⟨k' - 1, by omega⟩
    rw [sUpL] at h ⊢
    split at h
    · rename_i h1
      split at h
      · rename_i h2
        have w1 := (sUpL_w hu _ _ _ _ _ _ h 0).1
        have hk := hw.like (pos + 1) (pos' + 1) (by omega) (by omega) (by omega)
        rw [if_pos (hw.sg hl (by omega) hp h1), ← hk.1, if_pos h2]
        exact sUpL_s hw hu hs k m _ _ _ _ _ y q (by omega) (by omega) (by omega) (by omega) (by rw [← hk.2.2]; exact same_mk (sames_one hsm)) h hq
      · cases h
    · rename_i h1
      rw [if_neg (hw.nosg hl (by omega) hp (by decide) h1)]
      have hstop : ∀ (z : Nd × Int) (r : Nat), z = (x, prio) → r = pos → ((∃ op, look A (nxt T last pos).s = some op ∧ ¬ (partT (nxt T last pos) = true ∧ ¬ op.prio < n ∧ ¬ prio < op.prio ∧ ¬ (prio = op.prio ∧ ¬ op.side = 1))) ∨ look A (nxt T last pos).s = none) →
          ∃ (y' : Nd × Int) (q' : Nat), (match look A (nxt T' last' pos').s with
            | some op => if partT (nxt T' last' pos') = true ∧ ¬ op.prio < n ∧ ¬ prio < op.prio ∧ ¬ (prio = op.prio ∧ ¬ op.side = 1) then (sRest T' last' up' op [x'] x'.b (pos' + 1)).bnd fun y q => sUpL T' last' A up' n m y op.prio q else .ok (x', prio) pos'
            | none => .ok (x', prio) pos') = .ok y' q' ∧ (q' : Int) = r + c ∧ same z.1 y'.1 = true ∧ z.2 = y'.2 := by
        intro z r hz hr hc
        subst hz
        rw [hr]
        by_cases hlt : pos < hi
        · have hk := hw.like pos pos' hl hlt hp
          rw [← hk.2.2, ← hk.part]
          rcases hc with ⟨op, ho, hno⟩ | ho
          · rw [ho]
            dsimp only
            rw [if_neg hno]
            exact ⟨(x', prio), _, rfl, hp, hsm, rfl⟩
          · rw [ho]
            exact ⟨(x', prio), _, rfl, hp, hsm, rfl⟩
        · have hd := hw.dull pos' (by omega)
          cases ho : look A (nxt T' last' pos').s with
          | none => exact ⟨(x', prio), _, rfl, hp, hsm, rfl⟩
          | some op =>
            dsimp only
            rw [if_neg (fun hh => by rw [hd.part] at hh; cases hh.1)]
            exact ⟨(x', prio), _, rfl, hp, hsm, rfl⟩
      split at h
      · rename_i op ho
        split at h
        · rename_i h2
          obtain ⟨z, q0, h0, h⟩ := sbnd_ok h
          have w0 := (sRest_w hu h0 0).1
          have w1 := (sUpL_w hu _ _ _ _ _ _ h 0).1
          have hk := hw.like pos pos' hl (by omega) hp
          obtain ⟨z', q0', h0', hq0, hz⟩ := sRest_s hw hu hs (a0' := x'.b) (l' := [x']) (pos' := pos' + 1) (by omega) (by omega) (by omega) (sames_one hsm) h0 (by omega)
          rw [← hk.2.2, ← hk.part, ho]
          dsimp only
          rw [if_pos h2, h0']
          exact sUpL_s hw hu hs k m _ _ _ _ _ y q (by omega) hq0 (by omega) (by omega) hz h hq
        · rename_i h2
          cases h
          exact hstop _ _ rfl rfl (.inl ⟨op, ho, h2⟩)
      · rename_i ho
        cases h
        exact hstop _ _ rfl rfl (.inr ho)
theorem sUp_s (hw : NWin T T' last last' c lo hi) : ∀ (f f' : Nat), UpS c lo hi f' (sUp T last A F f) (sUp T' last' A F f')
  | 0, f' => fun n pos pos' x q hl hp hK h hq => by rw [sUp] at h; cases h
  | f + 1, f' => fun n pos pos' x q hl hp hK h hq => by
    have w := sUp_gt h
    have hfit := hw.fit
    obtain ⟨m, rfl⟩ : ∃ m, f' = m + 1 := ⟨f' - 1, by omega⟩
    rw [sUp, sUpTo] at h ⊢
    obtain ⟨y, q0, h0, h⟩ := sbnd_ok h
    have w0 := (sFirst_w (sUp_w f) h0 0).1
    have w1 := (sUpL_w (sUp_w f) _ _ _ _ _ _ h 0).1
    obtain ⟨y', q0', h0', hq0, hy, hpr⟩ := sFirst_s hw (sUp_w f) (sUp_s hw f m) hl hp (by omega) h0 (by omega)
    rw [h0']
    dsimp only [SRes.bnd]
    rw [← hpr]
    exact sUpL_s hw (sUp_w f) (sUp_s hw f m) _ _ _ _ _ _ _ x q (by omega) hq0 (by omega) (by omega) hy h hq
end
/-- Two windows of tokens. -/
structure Win (T T' : List Tk) (c : Int) (lo hi : Nat) : Prop where
  like : ∀ p p' : Nat, lo ≤ p → p < hi → (p' : Int) = p + c → LikeT (tokAt T p) (tokAt T' p')
  dull : ∀ p' : Nat, (p' : Int) = hi + c → Dull (tokAt T' p')
  fit : (hi : Int) + c ≤ T'.length
  low : 0 ≤ (lo : Int) + c
/-- An extent within a window is solved alike. -/
theorem solve_s {T T' : List Tk} {c : Int} {lo hi : Nat} (hw : Win T T' c lo hi) {A F : List (ByteArray × Mx)} {p q p' q' : Nat} {v : Nd} {z : Nat} (hp : (p' : Int) = p + c) (hq : (q' : Int) = q + c) (hl : lo ≤ p) (hh : q ≤ hi) (h : sSolve T A F (p, q) = .ok v z) :
    ∃ v', sSolve T' A F (p', q') = .ok v' q' ∧ same v v' = true := by
  have hb := solve_bal h 0
  have nw : NWin T T' q q' c p q := ⟨fun i i' h1 h2 h3 => by
      rw [nxt, if_pos h2, nxt, if_pos (by omega)]
      exact hw.like i i' (by omega) (by omega) h3, fun i' h3 => by
      rw [nxt, if_neg (by omega)]
      exact dull_no, by omega⟩
  rw [sSolve] at h ⊢
  dsimp only at h ⊢
  obtain ⟨x, q0, h0, h⟩ := sbnd_ok h
  split at h
  · rename_i hqq
    cases h
    have w := sUp_gt h0
    obtain ⟨x', q1', h0', hq0, hx, -⟩ := sUp_s nw _ (q' + 1) 0 p p' x _ (by omega) hp (by omega) h0 (by omega)
    rw [h0']
    dsimp only [SRes.bnd]
    have : q1' = q' := by omega
    rw [if_pos this, this]
    exact ⟨_, rfl, hx⟩
  · cases h
end Go.Proofs.YtjcocblohiglbaaGreatDoor
/- Windows of tokens: what the reader reads in one it reads alike in another: leaves and rows. Conditions: none. -/
namespace Go.Proofs.YtjcocblohiglbaaGreatDoor
open Go.Dp
set_option linter.unusedVariables false
set_option linter.unusedSimpArgs false
mutual
/-- Nodes that are alike, but for places; the numbers of extents lie apart. -/
def lk (cx : Int) : Nd → Nd → Prop
  | .mk k n s l _ _, .mk k' n' s' l' _ _ => k = k' ∧ s = s' ∧ n' = (if k = -1 then n + cx else n) ∧ lks cx l l'
def lks (cx : Int) : List Nd → List Nd → Prop
  | [], [] => True
  | x :: l, y :: m => lk cx x y ∧ lks cx l m
  | [], _ :: _ => False
  | _ :: _, [] => False
end
theorem lks_nil {cx : Int} : lks cx [] [] := by rw [lks]; trivial
theorem lks_cons {cx : Int} {x y : Nd} {l m : List Nd} (h : lk cx x y) (h' : lks cx l m) : lks cx (x :: l) (y :: m) := by rw [lks]; exact ⟨h, h'⟩
theorem lk_mk {cx k n n' : Int} {s s' : ByteArray} {l l' : List Nd} {b e b' e' : Int} (hk : k ≠ -1) (hn : n = n') (hs : s = s') (h : lks cx l l') : lk cx (.mk k n s l b e) (.mk k n' s' l' b' e') := by
  rw [lk, if_neg hk]
  exact ⟨rfl, hs, hn.symm, h⟩
theorem lk_s {cx : Int} {x y : Nd} (h : lk cx x y) : x.s = y.s := by
  obtain ⟨k, n, s, l, b, e⟩ := x
  obtain ⟨k', n', s', l', b', e'⟩ := y
  rw [lk] at h
  exact h.2.1
theorem lks_append {cx : Int} : ∀ {l l' m m' : List Nd}, lks cx l l' → lks cx m m' → lks cx (l ++ m) (l' ++ m')
  | [], [], _, _, _, h => h
  | _ :: _, _ :: _, _, _, h, h' => by
    rw [lks] at h
    exact lks_cons h.1 (lks_append h.2 h')
  | [], _ :: _, _, _, h, _ => by rw [lks] at h; exact h.elim
  | _ :: _, [], _, _, h, _ => by rw [lks] at h; exact h.elim
theorem lks_len {cx : Int} : ∀ {l l' : List Nd}, lks cx l l' → l.length = l'.length
  | [], [], _ => rfl
  | _ :: _, _ :: _, h => by
    rw [lks] at h
    rw [List.length_cons, List.length_cons, lks_len h.2]
  | [], _ :: _, h => by rw [lks] at h; exact h.elim
  | _ :: _, [], h => by rw [lks] at h; exact h.elim
theorem lk_empty {cx : Int} {b b' : Int} : lk cx (emptyAt b) (emptyAt b') := lk_mk (by decide) rfl rfl lks_nil
theorem lk_list {cx : Int} {w w' : Nd} {l l' : List Nd} (hw : lk cx w w') (h : lks cx l l') : lk cx (pList w l) (pList w' l') := by
  cases l with
  | nil =>
    cases l' with
    | nil => exact hw
    | cons y m => rw [lks] at h; exact h.elim
  | cons x l =>
    cases l' with
    | nil => rw [lks] at h; exact h.elim
    | cons y m => exact lk_mk (by decide) rfl rfl h
theorem lk_paren {cx : Int} {x y : Nd} {b e b' e' : Int} (h : lk cx x y) : lk cx (.mk x.kind x.n x.s x.l b e) (.mk y.kind y.n y.s y.l b' e') := by
  obtain ⟨k, n, s, l, b0, e0⟩ := x
  obtain ⟨k', n', s', l', b0', e0'⟩ := y
  rw [lk] at h
  show lk cx (.mk k n s l b e) (.mk k' n' s' l' b' e')
  rw [lk]
  exact h
theorem lks_share {cx kind : Int} {so so' : Nd} (hk : kind ≠ -1) (hso : lk cx so so') : ∀ {l l' : List Nd}, (∀ x ∈ l, x.kind ≠ -1) → lks cx l l' → lks cx (l.map (share kind so)) (l'.map (share kind so'))
  | [], [], _, h => h
  | x :: l, y :: m, hx, h => by
    rw [lks] at h
    rw [List.map_cons, List.map_cons]
    refine lks_cons ?_ (lks_share hk hso (fun z hz => hx z (List.mem_cons_of_mem _ hz)) h.2)
    have h1 := h.1
    have h2 := hx x (List.mem_cons_self ..)
    obtain ⟨k, n, s, l, b, e⟩ := x
    obtain ⟨k', n', s', l', b', e'⟩ := y
    replace h2 : k ≠ -1 := h2
    rw [lk, if_neg h2] at h1
    exact lk_mk hk h1.2.2.1.symm h1.2.1 (lks_cons hso lks_nil)
  | [], _ :: _, _, h => by rw [lks] at h; exact h.elim
  | _ :: _, [], _, h => by rw [lks] at h; exact h.elim
/-- Extents of one reading, and those of the other. -/
inductive ExR (c cx : Int) (lo hi : Nat) (B B' : List (Nat × Nat)) : List (Nat × Nat) → List (Nat × Nat) → Prop
  | base (h : (B'.length : Int) = B.length + cx) : ExR c cx lo hi B B' B B'
  | snoc (e e' : List (Nat × Nat)) (p q p' q' : Nat) (h : ExR c cx lo hi B B' e e') (hp : (p' : Int) = p + c) (hq : (q' : Int) = q + c) (hl : lo ≤ p) (hh : q ≤ hi) : ExR c cx lo hi B B' (e ++ [(p, q)]) (e' ++ [(p', q')])
theorem ExR.len {c cx : Int} {lo hi : Nat} {B B' e e' : List (Nat × Nat)} (h : ExR c cx lo hi B B' e e') : (e'.length : Int) = e.length + cx := by
  induction h with
  | base h => exact h
  | snoc e e' p q p' q' h hp hq hl hh ih => simp only [List.length_append, List.length_cons, List.length_nil]; omega
theorem rbnd {α β : Type} {r : Res α} {f : α → Nat → List (Nat × Nat) → Res β} {y : β} {q : Nat} {e : List (Nat × Nat)} (h : r.bnd f = .ok y q e) : ∃ x q0 e0, r = .ok x q0 e0 ∧ f x q0 e0 = .ok y q e := by
  cases r with
  | ok x q0 e0 => exact ⟨x, q0, e0, rfl, h⟩
  | bad q0 => cases h
theorem wfe {α : Type} {r : Res α} {T : List Tk} {lo : Nat} {x : α} {q : Nat} {e : List (Nat × Nat)} (hw : r.wf T lo) (h : r = .ok x q e) : lo ≤ q ∧ q ≤ T.length ∧ e.length ≤ q := by rw [h] at hw; exact hw
/-- What is read on the other side. -/
def Ans {α : Type} (c cx : Int) (lo hi : Nat) (B B' : List (Nat × Nat)) (R : α → Prop) (r : Res α) (q : Nat) (e : List (Nat × Nat)) : Prop := ∃ x' q' e', r = .ok x' q' e' ∧ (q' : Int) = q + c ∧ R x' ∧ ExR c cx lo hi B B' e e'
section
variable {T T' : List Tk} {c cx : Int} {lo hi : Nat} {B B' : List (Nat × Nat)}
theorem ans_bnd {α β : Type} {R : β → Prop} {r : Res α} {f : α → Nat → List (Nat × Nat) → Res β} {x' : α} {q' : Nat} {e' : List (Nat × Nat)} {q : Nat} {e : List (Nat × Nat)} (h : r = .ok x' q' e') (k : Ans c cx lo hi B B' R (f x' q' e') q e) : Ans c cx lo hi B B' R (r.bnd f) q e := by rw [h]; exact k
theorem ans_yes {α : Type} {R : α → Prop} {p : Prop} [Decidable p] {x y : Res α} {q : Nat} {e : List (Nat × Nat)} (h : p) (k : Ans c cx lo hi B B' R x q e) : Ans c cx lo hi B B' R (if p then x else y) q e := by rw [if_pos h]; exact k
theorem ans_no {α : Type} {R : α → Prop} {p : Prop} [Decidable p] {x y : Res α} {q : Nat} {e : List (Nat × Nat)} (h : ¬ p) (k : Ans c cx lo hi B B' R y q e) : Ans c cx lo hi B B' R (if p then x else y) q e := by rw [if_neg h]; exact k
theorem ans_ok {α : Type} {R : α → Prop} {x : α} {q q' : Nat} {e e' : List (Nat × Nat)} (hq : (q' : Int) = q + c) (hR : R x) (hE : ExR c cx lo hi B B' e e') : Ans c cx lo hi B B' R (.ok x q' e') q e := ⟨_, _, _, rfl, hq, hR, hE⟩
theorem Win.sg (hw : Win T T' c lo hi) {p p' : Nat} {s : ByteArray} (h1 : lo ≤ p) (h2 : p < hi) (h3 : (p' : Int) = p + c) (h : isT (tokAt T p) s = true) : isT (tokAt T' p') s = true := by rw [← (hw.like p p' h1 h2 h3).sg]; exact h
theorem Win.nosg (hw : Win T T' c lo hi) {p p' : Nat} {s : ByteArray} (h1 : lo ≤ p) (h2 : p ≤ hi) (h3 : (p' : Int) = p + c) (hs : s ≠ ⟨#[41]⟩) (h : ¬ isT (tokAt T p) s = true) : ¬ isT (tokAt T' p') s = true := by
  by_cases hp : p < hi
  · rw [← (hw.like p p' h1 hp h3).sg]; exact h
  · rw [(hw.dull p' (by omega)).no hs]; simp
theorem Win.kd (hw : Win T T' c lo hi) {p p' : Nat} {k : Int} (h1 : lo ≤ p) (h2 : p < hi) (h3 : (p' : Int) = p + c) (h : (tokAt T p).kind = k) : (tokAt T' p').kind = k := by rw [← (hw.like p p' h1 h2 h3).1]; exact h
theorem Win.nok3 (hw : Win T T' c lo hi) {p p' : Nat} (h1 : lo ≤ p) (h2 : p ≤ hi) (h3 : (p' : Int) = p + c) (h : ¬ (tokAt T p).kind = 3) : ¬ (tokAt T' p').kind = 3 := by
  by_cases hp : p < hi
  · rw [← (hw.like p p' h1 hp h3).1]; exact h
  · exact (hw.dull p' (by omega)).k3
theorem Win.nok1 (hw : Win T T' c lo hi) {p p' : Nat} (h1 : lo ≤ p) (h2 : p ≤ hi) (h3 : (p' : Int) = p + c) (h : ¬ (tokAt T p).kind = 1) : ¬ (tokAt T' p').kind = 1 := by
  by_cases hp : p < hi
  · rw [← (hw.like p p' h1 hp h3).1]; exact h
  · exact (hw.dull p' (by omega)).k1
/-- One reads what the other reads, from b on; d: how far ahead of the window's end the reading ends. -/
def SmF {α : Type} (T : List Tk) (c cx : Int) (lo hi : Nat) (B B' : List (Nat × Nat)) (d b : Nat) (R : α → α → Prop) (f f' : Nat → List (Nat × Nat) → Res α) : Prop :=
  ∀ (pos pos' : Nat) (ex ex' : List (Nat × Nat)) (x : α) (q : Nat) (e : List (Nat × Nat)), b ≤ pos → lo ≤ pos → pos ≤ T.length → ex.length ≤ pos → (pos' : Int) = pos + c → ExR c cx lo hi B B' ex ex' → f pos ex = .ok x q e → q + d ≤ hi → Ans c cx lo hi B B' (R x) (f' pos' ex') q e
variable (tx tx' : ByteArray)
theorem pName_s (hw : Win T T' c lo hi) : SmF T c cx lo hi B B' 0 0 (fun x y => lk cx x y ∧ x.kind ≠ -1) (pName tx T) (pName tx' T') := by
  intro pos pos' ex ex' x q e hb hl hp hx hpos hE h hq
  unfold pName at h ⊢
  split at h
  · rename_i hk
    cases h
    have t := hw.like pos pos' hl (by omega) hpos
    exact ans_yes (hw.kd hl (by omega) hpos hk) (ans_ok (by omega) ⟨lk_mk (by decide) rfl t.2.2 lks_nil, show (7 : Int) ≠ -1 by decide⟩ hE)
  · cases h
theorem pNumber_s (hw : Win T T' c lo hi) : SmF T c cx lo hi B B' 0 0 (lk cx) (pNumber tx T) (pNumber tx' T') := by
  intro pos pos' ex ex' x q e hb hl hp hx hpos hE h hq
  unfold pNumber at h ⊢
  split at h
  · rename_i hk
    cases h
    have t := hw.like pos pos' hl (by omega) hpos
    exact ans_yes (hw.kd hl (by omega) hpos hk) (ans_ok (by omega) (lk_mk (by decide) rfl (by rw [t.2.1]) lks_nil) hE)
  · cases h
theorem runD_s (hw : Win T T' c lo hi) : ∀ (k deep pos pos' d : Nat), lo ≤ pos → pos + k ≤ hi → (pos' : Int) = pos + c → runD T k deep pos = some d → runD T' k deep pos' = some d
  | 0, deep, pos, pos', d, _, _, _, h => h
  | k + 1, deep, pos, pos', d, hl, hh, hp, h => by
    rw [runD] at h ⊢
    rw [← (hw.like pos pos' hl (by omega) hp).step]
    cases hs : exprStep (tokAt T pos) deep with
    | none => rw [hs] at h; cases h
    | some y =>
      rw [hs] at h
      exact runD_s hw k y (pos + 1) (pos' + 1) d (by omega) (by omega) (by omega) h
theorem pExpr_s (hw : Win T T' c lo hi) : SmF T c cx lo hi B B' 1 0 (lk cx) (pExpr tx T) (pExpr tx' T') := by
  intro pos pos' ex ex' x q e hb hl hp hx hpos hE h hq
  unfold pExpr at h ⊢
  split at h
  · rename_i ho
    obtain ⟨k, d, h1, h2, h3⟩ := exprEnd_run (T := T) (T.length + 1) 0 pos (by omega)
    rw [h1] at h
    cases h
    have t := hw.like pos pos' hl (by omega) hpos
    have h2' := runD_s hw k 0 pos pos' d hl (by omega) hpos h2
    have h3' : exprStep (tokAt T' (pos' + k)) d = none := by rw [← (hw.like (pos + k) (pos' + k) (by omega) (by omega) (by omega)).step]; exact h3
    have hf := hw.fit
    have he := exprEnd_of k (T'.length + 1) 0 pos' d (by omega) h2' h3'
    rw [he]
    refine ans_yes (by rw [← t.opens]; exact ho) (ans_ok (by omega) ?_ (.snoc _ _ _ _ _ _ hE hpos (by omega) hl (by omega)))
    rw [lk, if_pos rfl]
    exact ⟨rfl, rfl, hE.len, lks_nil⟩
  · cases h
theorem pRowsL_s (hw : Win T T' c lo hi) {P : Nd → Prop} {d b : Nat} {one one' : Nat → List (Nat × Nat) → Res Nd} (hone : SmF T c cx lo hi B B' d b (fun x y => lk cx x y ∧ P x) one one') (wone : ∀ pos ex, pos ≤ T.length → ex.length ≤ pos → (one pos ex).wf T (pos + 1)) : ∀ (n n' : Nat) (acc acc' : List Nd) (pos pos' : Nat) (ex ex' : List (Nat × Nat)) (l : List Nd) (q : Nat) (e : List (Nat × Nat)),
    b ≤ pos → lo ≤ pos → pos ≤ T.length → ex.length ≤ pos → (pos' : Int) = pos + c → ExR c cx lo hi B B' ex ex' → hi < pos + n' → lks cx acc acc' → (∀ x ∈ acc, P x) → pRowsL T one n acc pos ex = .ok l q e → q + d ≤ hi → Ans c cx lo hi B B' (fun l' => lks cx l l' ∧ ∀ x ∈ l, P x) (pRowsL T' one' n' acc' pos' ex') q e
  | 0, n', acc, acc', pos, pos', ex, ex', l, q, e, hb, hl, hp, hx, hpos, hE, hn, ha, hP, h, hq => by rw [pRowsL] at h; cases h
  | n + 1, n', acc, acc', pos, pos', ex, ex', l, q, e, hb, hl, hp, hx, hpos, hE, hn, ha, hP, h, hq => by
    have w := (wfe (pRowsL_wf wone (n + 1) acc pos ex hp hx) h).1
    obtain ⟨m, rfl⟩ : ∃ m, n' = m + 1 := ⟨n' - 1, by omega⟩
    rw [pRowsL] at h ⊢
    split at h
    · rename_i hc
      have hlt := isT_lt hc
      cases h0 : one (pos + 1) ex with
      | bad q0 => rw [h0] at h; cases h
      | ok a q0 e0 =>
        rw [h0] at h
        dsimp only at h
        have w0 := wfe (wone (pos + 1) ex (by omega) (by omega)) h0
        have w1 := (wfe (pRowsL_wf wone n _ q0 e0 (by omega) (by omega)) h).1
        obtain ⟨a', q0', e0', h0', hq0, ⟨hR, hPa⟩, hE0⟩ := hone (pos + 1) (pos' + 1) ex ex' a q0 e0 (by omega) (by omega) (by omega) (by omega) (by omega) hE h0 (by omega)
        refine ans_yes (hw.sg hl (by omega) hpos hc) ?_
        rw [h0']
        dsimp only
        refine pRowsL_s hw hone wone n m _ _ q0 q0' e0 e0' l q e (by omega) (by omega) (by omega) (by omega) hq0 hE0 (by omega) (lks_append ha (lks_cons hR lks_nil)) (fun x hx => ?_) h hq
        rcases List.mem_append.1 hx with hx | hx
        · exact hP x hx
        · rw [List.mem_singleton] at hx
          subst hx
          exact hPa
    · rename_i hc
      cases h
      exact ans_no (hw.nosg hl (by omega) hpos (by decide) hc) (ans_ok hpos ⟨ha, hP⟩ hE)
theorem pRows_s (hw : Win T T' c lo hi) {P : Nd → Prop} {d b : Nat} {one one' : Nat → List (Nat × Nat) → Res Nd} (hone : SmF T c cx lo hi B B' d b (fun x y => lk cx x y ∧ P x) one one') (wone : ∀ pos ex, pos ≤ T.length → ex.length ≤ pos → (one pos ex).wf T (pos + 1)) : SmF T c cx lo hi B B' d b (fun l l' => lks cx l l' ∧ ∀ x ∈ l, P x) (pRows T one) (pRows T' one') := by
  intro pos pos' ex ex' x q e hb hl hp hx hpos hE h hq
  rw [pRows] at h ⊢
  cases h0 : one pos ex with
  | bad q0 => rw [h0] at h; cases h
  | ok a q0 e0 =>
    rw [h0] at h
    dsimp only at h
    have w0 := wfe (wone pos ex hp hx) h0
    have w1 := (wfe (pRowsL_wf wone _ _ q0 e0 (by omega) (by omega)) h).1
    have hf := hw.fit
    have hlw := hw.low
    obtain ⟨a', q0', e0', h0', hq0, ⟨hR, hPa⟩, hE0⟩ := hone pos pos' ex ex' a q0 e0 hb hl hp hx hpos hE h0 (by omega)
    rw [h0']
    dsimp only
    exact pRowsL_s hw hone wone _ (T'.length + 1) _ [a'] q0 q0' e0 e0' x q e (by omega) (by omega) (by omega) (by omega) hq0 hE0 (by omega) (lks_cons hR lks_nil) (fun x hx => by rw [List.mem_singleton] at hx; subst hx; exact hPa) h hq
/-- One that asks nothing more of what it reads. -/
theorem SmF.more {f f' : Nat → List (Nat × Nat) → Res Nd} {d b : Nat} (h : SmF T c cx lo hi B B' d b (lk cx) f f') : SmF T c cx lo hi B B' d b (fun x y => lk cx x y ∧ True) f f' := by
  intro pos pos' ex ex' x q e hb hl hp hx hpos hE h1 hq
  obtain ⟨x', q', e', g1, g2, g3, g4⟩ := h pos pos' ex ex' x q e hb hl hp hx hpos hE h1 hq
  exact ⟨x', q', e', g1, g2, ⟨g3, trivial⟩, g4⟩
theorem SmF.less {f f' : Nat → List (Nat × Nat) → Res Nd} {P : Nd → Prop} {d b : Nat} (h : SmF T c cx lo hi B B' d b (fun x y => lk cx x y ∧ P x) f f') : SmF T c cx lo hi B B' d b (lk cx) f f' := by
  intro pos pos' ex ex' x q e hb hl hp hx hpos hE h1 hq
  obtain ⟨x', q', e', g1, g2, g3, g4⟩ := h pos pos' ex ex' x q e hb hl hp hx hpos hE h1 hq
  exact ⟨x', q', e', g1, g2, g3.1, g4⟩
theorem SmF.lessL {f f' : Nat → List (Nat × Nat) → Res (List Nd)} {P : Nd → Prop} {d b : Nat} (h : SmF T c cx lo hi B B' d b (fun l l' => lks cx l l' ∧ ∀ x ∈ l, P x) f f') : SmF T c cx lo hi B B' d b (lks cx) f f' := by
  intro pos pos' ex ex' x q e hb hl hp hx hpos hE h1 hq
  obtain ⟨x', q', e', g1, g2, g3, g4⟩ := h pos pos' ex ex' x q e hb hl hp hx hpos hE h1 hq
  exact ⟨x', q', e', g1, g2, g3.1, g4⟩
end
end Go.Proofs.YtjcocblohiglbaaGreatDoor
/- Windows of tokens: what the reader reads in one it reads alike in another: all but the whole. Printed by gen_w.py, but for loops. Conditions: none. -/
namespace Go.Proofs.YtjcocblohiglbaaGreatDoor
open Go.Dp
set_option linter.unusedVariables false
set_option linter.unusedSimpArgs false
section
variable {T T' : List Tk} {c cx : Int} {lo hi : Nat} {B B' : List (Nat × Nat)} (tx tx' : ByteArray)
/-- The same where there is a token. -/
def SmL {α : Type} (T : List Tk) (c cx : Int) (lo hi : Nat) (B B' : List (Nat × Nat)) (d b : Nat) (R : α → α → Prop) (f f' : Nat → List (Nat × Nat) → Res α) : Prop :=
  ∀ (pos pos' : Nat) (ex ex' : List (Nat × Nat)) (x : α) (q : Nat) (e : List (Nat × Nat)), b ≤ pos → lo ≤ pos → pos < T.length → ex.length ≤ pos → (pos' : Int) = pos + c → ExR c cx lo hi B B' ex ex' → f pos ex = .ok x q e → q + d ≤ hi → Ans c cx lo hi B B' (R x) (f' pos' ex') q e
theorem pNames_s (hw : Win T T' c lo hi) : SmF T c cx lo hi B B' 0 0 (lk cx) (pNames tx T) (pNames tx' T') := by
  intro pos pos' ex ex' x q e hb hl hp hx hpos hE h hq
  have hfit := hw.fit
  have hlow := hw.low
  unfold pNames at h ⊢
  obtain ⟨A1, q11, e11, h1, h⟩ := rbnd h
  have w1 := wfe (pRows_wf (fun pos ex hp hx => pName_wf tx T pos ex hp hx) pos ex (by omega) (by omega)) h1
  cases h
  obtain ⟨A1', q11', e11', h1', p1, r1, E1⟩ := (pRows_s hw (pName_s tx tx' hw) (fun pos ex hp hx => pName_wf tx T pos ex hp hx)).lessL pos pos' ex ex' _ _ _ (by omega) (by omega) (by omega) (by omega) (by omega) hE h1 (by omega)
  refine ans_bnd h1' ?_
  refine ans_ok (by omega) ?_ E1
  repeat (first | assumption | exact lks_nil | exact lk_empty | refine lk_mk (by decide) (by first | rfl) (by first | rfl | exact lk_s (by assumption)) ?_ | refine lks_cons ?_ ?_ | refine lk_list ?_ ?_ | exact lk_paren (by assumption) | exact hgate (by omega))
theorem pGates_s (hw : Win T T' c lo hi) : SmF T c cx lo hi B B' 0 0 (lk cx) (pGates tx T) (pGates tx' T') := by
  intro pos pos' ex ex' x q e hb hl hp hx hpos hE h hq
  have hfit := hw.fit
  have hlow := hw.low
  unfold pGates at h ⊢
  split at h
  · rename_i c1
    have g1 := isT_lt c1
    obtain ⟨A2, q12, e12, h2, h⟩ := rbnd h
    have w2 := wfe (pRows_wf (fun pos ex hp hx => pName_wf tx T pos ex hp hx) (pos + 1) ex (by omega) (by omega)) h2
    split at h
    · rename_i c3
      have g3 := isT_lt c3
      cases h
      have t1 := hw.like pos pos' (by omega) (by omega) (by omega)
      refine ans_yes (hw.sg (p' := pos') (by omega) (by omega) (by omega) c1) ?_
      obtain ⟨A2', q12', e12', h2', p2, r2, E2⟩ := (pRows_s hw (pName_s tx tx' hw) (fun pos ex hp hx => pName_wf tx T pos ex hp hx)).lessL (pos + 1) (pos' + 1) ex ex' _ _ _ (by omega) (by omega) (by omega) (by omega) (by omega) hE h2 (by omega)
      refine ans_bnd h2' ?_
      have t3 := hw.like q12 q12' (by omega) (by omega) (by omega)
      refine ans_yes (hw.sg (p' := q12') (by omega) (by omega) (by omega) c3) ?_
      refine ans_ok (by omega) ?_ E2
      repeat (first | assumption | exact lks_nil | exact lk_empty | refine lk_mk (by decide) (by first | rfl | exact t1.2.1 | exact t3.2.1) (by first | rfl | exact lk_s (by assumption) | exact t1.2.2 | exact t3.2.2) ?_ | refine lks_cons ?_ ?_ | refine lk_list ?_ ?_ | exact lk_paren (by assumption) | exact hgate (by omega))
    · rename_i c4
      cases h
  · rename_i c5
    cases h
    refine ans_no (hw.nosg (p' := pos') (by omega) (by omega) (by omega) (by decide) c5) ?_
    refine ans_ok (by omega) ?_ hE
    repeat (first | assumption | exact lks_nil | exact lk_empty | refine lk_mk (by decide) (by first | rfl) (by first | rfl | exact lk_s (by assumption)) ?_ | refine lks_cons ?_ ?_ | refine lk_list ?_ ?_ | exact lk_paren (by assumption) | exact hgate (by omega))
theorem pShared_s (hw : Win T T' c lo hi) {kind : Int} (hk : kind ≠ -1) : SmF T c cx lo hi B B' 0 0 (lks cx) (pShared tx T kind) (pShared tx' T' kind) := by
  intro pos pos' ex ex' x q e hb hl hp hx hpos hE h hq
  unfold pShared at h ⊢
  obtain ⟨l, q1, e1, h1, h⟩ := rbnd h
  have w1 := wfe (pRows_wf (fun pos ex hp hx => pName_wf tx T pos ex hp hx) pos ex hp hx) h1
  split at h
  · rename_i c2
    have g2 := isT_lt c2
    obtain ⟨so, q2, e2, h3, h⟩ := rbnd h
    have w3 := wfe (pName_wf tx T (q1 + 1) e1 (by omega) (by omega)) h3
    cases h
    obtain ⟨l', q1', e1', h1', p1, ⟨r1, r1'⟩, E1⟩ := pRows_s hw (pName_s tx tx' hw) (fun pos ex hp hx => pName_wf tx T pos ex hp hx) pos pos' ex ex' _ _ _ (by omega) (by omega) (by omega) (by omega) (by omega) hE h1 (by omega)
    refine ans_bnd h1' ?_
    refine ans_yes (hw.sg (p' := q1') (by omega) (by omega) (by omega) c2) ?_
    obtain ⟨so', q2', e2', h3', p3, r3, E3⟩ := (pName_s tx tx' hw).less (q1 + 1) (q1' + 1) e1 e1' _ _ _ (by omega) (by omega) (by omega) (by omega) (by omega) E1 h3 (by omega)
    refine ans_bnd h3' ?_
    exact ans_ok (by omega) (lks_share hk r3 r1' r1) E3
  · cases h
theorem pDeclsL_s (hw : Win T T' c lo hi) : ∀ (n n' : Nat) (acc acc' : List Nd) (pos pos' : Nat) (ex ex' : List (Nat × Nat)) (l : List Nd) (q : Nat) (e : List (Nat × Nat)), lo ≤ pos → pos ≤ T.length → ex.length ≤ pos → (pos' : Int) = pos + c → ExR c cx lo hi B B' ex ex' → hi < pos + n' → lks cx acc acc' →
    pDeclsL tx T n acc pos ex = .ok l q e → q ≤ hi → Ans c cx lo hi B B' (lks cx l) (pDeclsL tx' T' n' acc' pos' ex') q e
  | 0, n', acc, acc', pos, pos', ex, ex', l, q, e, hl, hp, hx, hpos, hE, hn, ha, h, hq => by rw [pDeclsL] at h; cases h
  | n + 1, n', acc, acc', pos, pos', ex, ex', l, q, e, hl, hp, hx, hpos, hE, hn, ha, h, hq => by
    have w := (wfe (pDeclsL_wf tx T (n + 1) acc pos ex hp hx) h).1
    obtain ⟨m, rfl⟩ : ∃ m, n' = m + 1 := ⟨n' - 1, by omega⟩
    rw [pDeclsL] at h ⊢
    split at h
    · rename_i hc
      have hlt := isT_lt hc
      obtain ⟨a, q0, e0, h0, h⟩ := rbnd h
      have w0 := wfe (pShared_wf tx T 9 (pos + 1) ex (by omega) (by omega)) h0
      have w1 := (wfe (pDeclsL_wf tx T n _ q0 e0 (by omega) (by omega)) h).1
      obtain ⟨a', q0', e0', h0', hq0, hR, hE0⟩ := pShared_s tx tx' hw (by decide) (pos + 1) (pos' + 1) ex ex' a q0 e0 (by omega) (by omega) (by omega) (by omega) (by omega) hE h0 (by omega)
      refine ans_yes (hw.sg hl (by omega) hpos hc) (ans_bnd h0' ?_)
      exact pDeclsL_s hw n m _ _ q0 q0' e0 e0' l q e (by omega) (by omega) (by omega) hq0 hE0 (by omega) (lks_append ha hR) h hq
    · rename_i hc
      cases h
      exact ans_no (hw.nosg hl (by omega) hpos (by decide) hc) (ans_ok hpos ha hE)
theorem pDecls_s (hw : Win T T' c lo hi) : SmF T c cx lo hi B B' 0 0 (lk cx) (pDecls tx T) (pDecls tx' T') := by
  intro pos pos' ex ex' x q e hb hl hp hx hpos hE h hq
  have hfit := hw.fit
  have hlow := hw.low
  unfold pDecls at h ⊢
  obtain ⟨l, q1, e1, h1, h⟩ := rbnd h
  have w1 := wfe (pShared_wf tx T 9 pos ex hp hx) h1
  obtain ⟨l2, q2, e2, h2, h⟩ := rbnd h
  have w2 := wfe (pDeclsL_wf tx T _ _ q1 e1 (by omega) (by omega)) h2
  cases h
  obtain ⟨l', q1', e1', h1', p1, r1, E1⟩ := pShared_s tx tx' hw (by decide) pos pos' ex ex' _ _ _ (by omega) (by omega) (by omega) (by omega) (by omega) hE h1 (by omega)
  refine ans_bnd h1' ?_
  obtain ⟨l2', q2', e2', h2', p2, r2, E2⟩ := pDeclsL_s tx tx' hw _ (T'.length + 1) _ l' q1 q1' e1 e1' _ _ _ (by omega) (by omega) (by omega) (by omega) E1 (by omega) r1 h2 (by omega)
  refine ans_bnd h2' ?_
  exact ans_ok (by omega) (lk_mk (by decide) rfl rfl r2) E2
theorem pEq_s (hw : Win T T' c lo hi) : SmF T c cx lo hi B B' 1 0 (lk cx) (pEq tx T) (pEq tx' T') := by
  intro pos pos' ex ex' x q e hb hl hp hx hpos hE h hq
  have hfit := hw.fit
  have hlow := hw.low
  unfold pEq at h ⊢
  obtain ⟨A3, q13, e13, h1, h⟩ := rbnd h
  have w1 := wfe (pExpr_wf tx T pos ex (by omega) (by omega)) h1
  split at h
  · rename_i c2
    have g2 := isT_lt c2
    obtain ⟨A4, q14, e14, h3, h⟩ := rbnd h
    have w3 := wfe (pExpr_wf tx T (q13 + 1) e13 (by omega) (by omega)) h3
    cases h
    obtain ⟨A3', q13', e13', h1', p1, r1, E1⟩ := pExpr_s tx tx' hw pos pos' ex ex' _ _ _ (by omega) (by omega) (by omega) (by omega) (by omega) hE h1 (by omega)
    refine ans_bnd h1' ?_
    have t2 := hw.like q13 q13' (by omega) (by omega) (by omega)
    refine ans_yes (hw.sg (p' := q13') (by omega) (by omega) (by omega) c2) ?_
    obtain ⟨A4', q14', e14', h3', p3, r3, E3⟩ := pExpr_s tx tx' hw (q13 + 1) (q13' + 1) e13 e13' _ _ _ (by omega) (by omega) (by omega) (by omega) (by omega) E1 h3 (by omega)
    refine ans_bnd h3' ?_
    refine ans_ok (by omega) ?_ E3
    repeat (first | assumption | exact lks_nil | exact lk_empty | refine lk_mk (by decide) (by first | rfl | exact t2.2.1) (by first | rfl | exact lk_s (by assumption) | exact t2.2.2) ?_ | refine lks_cons ?_ ?_ | refine lk_list ?_ ?_ | exact lk_paren (by assumption) | exact hgate (by omega))
  · rename_i c4
    cases h
theorem pBind_s (hw : Win T T' c lo hi) : SmF T c cx lo hi B B' 1 0 (lk cx) (pBind tx T) (pBind tx' T') := by
  intro pos pos' ex ex' x q e hb hl hp hx hpos hE h hq
  have hfit := hw.fit
  have hlow := hw.low
  unfold pBind at h ⊢
  obtain ⟨A5, q15, e15, h1, h⟩ := rbnd h
  have w1 := wfe (pName_wf tx T pos ex (by omega) (by omega)) h1
  split at h
  · rename_i c2
    have g2 := isT_lt c2
    obtain ⟨A6, q16, e16, h3, h⟩ := rbnd h
    have w3 := wfe (pName_wf tx T (q15 + 1) e15 (by omega) (by omega)) h3
    split at h
    · rename_i c4
      have g4 := isT_lt c4
      obtain ⟨A7, q17, e17, h5, h⟩ := rbnd h
      have w5 := wfe (pExpr_wf tx T (q16 + 1) e16 (by omega) (by omega)) h5
      cases h
      obtain ⟨A5', q15', e15', h1', p1, r1, E1⟩ := (pName_s tx tx' hw).less pos pos' ex ex' _ _ _ (by omega) (by omega) (by omega) (by omega) (by omega) hE h1 (by omega)
      refine ans_bnd h1' ?_
      have t2 := hw.like q15 q15' (by omega) (by omega) (by omega)
      refine ans_yes (hw.sg (p' := q15') (by omega) (by omega) (by omega) c2) ?_
      obtain ⟨A6', q16', e16', h3', p3, r3, E3⟩ := (pName_s tx tx' hw).less (q15 + 1) (q15' + 1) e15 e15' _ _ _ (by omega) (by omega) (by omega) (by omega) (by omega) E1 h3 (by omega)
      refine ans_bnd h3' ?_
      have t4 := hw.like q16 q16' (by omega) (by omega) (by omega)
      refine ans_yes (hw.sg (p' := q16') (by omega) (by omega) (by omega) c4) ?_
      obtain ⟨A7', q17', e17', h5', p5, r5, E5⟩ := pExpr_s tx tx' hw (q16 + 1) (q16' + 1) e16 e16' _ _ _ (by omega) (by omega) (by omega) (by omega) (by omega) E3 h5 (by omega)
      refine ans_bnd h5' ?_
      refine ans_ok (by omega) ?_ E5
      repeat (first | assumption | exact lks_nil | exact lk_empty | refine lk_mk (by decide) (by first | rfl | exact t2.2.1 | exact t4.2.1) (by first | rfl | exact lk_s (by assumption) | exact t2.2.2 | exact t4.2.2) ?_ | refine lks_cons ?_ ?_ | refine lk_list ?_ ?_ | exact lk_paren (by assumption) | exact hgate (by omega))
    · rename_i c6
      cases h
  · rename_i c7
    cases h
theorem pGate_s (hw : Win T T' c lo hi) : SmF T c cx lo hi B B' 0 0 (lk cx) (pGate tx T) (pGate tx' T') := by
  intro pos pos' ex ex' x q e hb hl hp hx hpos hE h hq
  have hfit := hw.fit
  have hlow := hw.low
  unfold pGate at h ⊢
  obtain ⟨A8, q18, e18, h1, h⟩ := rbnd h
  have w1 := wfe (pName_wf tx T pos ex (by omega) (by omega)) h1
  split at h
  · rename_i c2
    have g2 := isT_lt c2
    split at h
    · rename_i c3
      have g3 := isT_lt c3
      obtain ⟨A9, q19, e19, h4, h⟩ := rbnd h
      have w4 := wfe (pNames_wf tx T ((q18 + 1) + 1) e18 (by omega) (by omega)) h4
      split at h
      · rename_i c5
        have g5 := isT_lt c5
        cases h
        obtain ⟨A8', q18', e18', h1', p1, r1, E1⟩ := (pName_s tx tx' hw).less pos pos' ex ex' _ _ _ (by omega) (by omega) (by omega) (by omega) (by omega) hE h1 (by omega)
        refine ans_bnd h1' ?_
        have t2 := hw.like q18 q18' (by omega) (by omega) (by omega)
        refine ans_yes (hw.sg (p' := q18') (by omega) (by omega) (by omega) c2) ?_
        have t3 := hw.like (q18 + 1) (q18' + 1) (by omega) (by omega) (by omega)
        refine ans_yes (hw.sg (p' := (q18' + 1)) (by omega) (by omega) (by omega) c3) ?_
        obtain ⟨A9', q19', e19', h4', p4, r4, E4⟩ := pNames_s tx tx' hw ((q18 + 1) + 1) ((q18' + 1) + 1) e18 e18' _ _ _ (by omega) (by omega) (by omega) (by omega) (by omega) E1 h4 (by omega)
        refine ans_bnd h4' ?_
        have t5 := hw.like q19 q19' (by omega) (by omega) (by omega)
        refine ans_yes (hw.sg (p' := q19') (by omega) (by omega) (by omega) c5) ?_
        refine ans_ok (by omega) ?_ E4
        repeat (first | assumption | exact lks_nil | exact lk_empty | refine lk_mk (by decide) (by first | rfl | exact t2.2.1 | exact t3.2.1 | exact t5.2.1) (by first | rfl | exact lk_s (by assumption) | exact t2.2.2 | exact t3.2.2 | exact t5.2.2) ?_ | refine lks_cons ?_ ?_ | refine lk_list ?_ ?_ | exact lk_paren (by assumption) | exact hgate (by omega))
      · rename_i c6
        cases h
    · rename_i c7
      cases h
  · rename_i c8
    cases h
theorem pGive_s (hw : Win T T' c lo hi) : SmF T c cx lo hi B B' 1 0 (lk cx) (pGive tx T) (pGive tx' T') := by
  intro pos pos' ex ex' x q e hb hl hp hx hpos hE h hq
  have hfit := hw.fit
  have hlow := hw.low
  unfold pGive at h ⊢
  split at h
  · rename_i c1
    have g1 := isT_lt c1
    obtain ⟨A10, q20, e20, h2, h⟩ := rbnd h
    have w2 := wfe (pName_wf tx T (pos + 1) ex (by omega) (by omega)) h2
    cases h
    have t1 := hw.like pos pos' (by omega) (by omega) (by omega)
    refine ans_yes (hw.sg (p' := pos') (by omega) (by omega) (by omega) c1) ?_
    obtain ⟨A10', q20', e20', h2', p2, r2, E2⟩ := (pName_s tx tx' hw).less (pos + 1) (pos' + 1) ex ex' _ _ _ (by omega) (by omega) (by omega) (by omega) (by omega) hE h2 (by omega)
    refine ans_bnd h2' ?_
    refine ans_ok (by omega) ?_ E2
    repeat (first | assumption | exact lks_nil | exact lk_empty | refine lk_mk (by decide) (by first | rfl | exact t1.2.1) (by first | rfl | exact lk_s (by assumption) | exact t1.2.2) ?_ | refine lks_cons ?_ ?_ | refine lk_list ?_ ?_ | exact lk_paren (by assumption) | exact hgate (by omega))
  · rename_i c3
    obtain ⟨A11, q21, e21, h4, h⟩ := rbnd h
    have w4 := wfe (pExpr_wf tx T pos ex (by omega) (by omega)) h4
    cases h
    refine ans_no (hw.nosg (p' := pos') (by omega) (by omega) (by omega) (by decide) c3) ?_
    obtain ⟨A11', q21', e21', h4', p4, r4, E4⟩ := pExpr_s tx tx' hw pos pos' ex ex' _ _ _ (by omega) (by omega) (by omega) (by omega) (by omega) hE h4 (by omega)
    refine ans_bnd h4' ?_
    refine ans_ok (by omega) ?_ E4
    repeat (first | assumption | exact lks_nil | exact lk_empty | refine lk_mk (by decide) (by first | rfl) (by first | rfl | exact lk_s (by assumption)) ?_ | refine lks_cons ?_ ?_ | refine lk_list ?_ ?_ | exact lk_paren (by assumption) | exact hgate (by omega))
theorem pWindow_s (hw : Win T T' c lo hi) : SmF T c cx lo hi B B' 0 0 (lk cx) (pWindow tx T) (pWindow tx' T') := by
  intro pos pos' ex ex' x q e hb hl hp hx hpos hE h hq
  have hfit := hw.fit
  have hlow := hw.low
  unfold pWindow at h ⊢
  split at h
  · rename_i c1
    have g1 := isT_lt c1
    obtain ⟨A12, q22, e22, h2, h⟩ := rbnd h
    have w2 := wfe (pNumber_wf tx T (pos + 1) ex (by omega) (by omega)) h2
    split at h
    · rename_i c3
      have g3 := isT_lt c3
      split at h
      · rename_i c4
        have g4 := tokAt_lt (T := T) (pos := (q22 + 1)) (by omega)
        obtain ⟨A13, q23, e23, h5, h⟩ := rbnd h
        have w5 := wfe (pNumber_wf tx T (q22 + 1) e22 (by omega) (by omega)) h5
        split at h
        · rename_i c6
          have g6 := isT_lt c6
          cases h
          have t1 := hw.like pos pos' (by omega) (by omega) (by omega)
          refine ans_yes (hw.sg (p' := pos') (by omega) (by omega) (by omega) c1) ?_
          obtain ⟨A12', q22', e22', h2', p2, r2, E2⟩ := pNumber_s tx tx' hw (pos + 1) (pos' + 1) ex ex' _ _ _ (by omega) (by omega) (by omega) (by omega) (by omega) hE h2 (by omega)
          refine ans_bnd h2' ?_
          have t3 := hw.like q22 q22' (by omega) (by omega) (by omega)
          refine ans_yes (hw.sg (p' := q22') (by omega) (by omega) (by omega) c3) ?_
          have t4 := hw.like (q22 + 1) (q22' + 1) (by omega) (by omega) (by omega)
          refine ans_yes (hw.kd (p' := (q22' + 1)) (by omega) (by omega) (by omega) c4) ?_
          obtain ⟨A13', q23', e23', h5', p5, r5, E5⟩ := pNumber_s tx tx' hw (q22 + 1) (q22' + 1) e22 e22' _ _ _ (by omega) (by omega) (by omega) (by omega) (by omega) E2 h5 (by omega)
          refine ans_bnd h5' ?_
          have t6 := hw.like q23 q23' (by omega) (by omega) (by omega)
          refine ans_yes (hw.sg (p' := q23') (by omega) (by omega) (by omega) c6) ?_
          refine ans_ok (by omega) ?_ E5
          repeat (first | assumption | exact lks_nil | exact lk_empty | refine lk_mk (by decide) (by first | rfl | exact t1.2.1 | exact t3.2.1 | exact t4.2.1 | exact t6.2.1) (by first | rfl | exact lk_s (by assumption) | exact t1.2.2 | exact t3.2.2 | exact t4.2.2 | exact t6.2.2) ?_ | refine lks_cons ?_ ?_ | refine lk_list ?_ ?_ | exact lk_paren (by assumption) | exact hgate (by omega))
        · rename_i c7
          cases h
      · rename_i c8
        split at h
        · rename_i c9
          have g9 := isT_lt c9
          cases h
          have t1 := hw.like pos pos' (by omega) (by omega) (by omega)
          refine ans_yes (hw.sg (p' := pos') (by omega) (by omega) (by omega) c1) ?_
          obtain ⟨A12', q22', e22', h2', p2, r2, E2⟩ := pNumber_s tx tx' hw (pos + 1) (pos' + 1) ex ex' _ _ _ (by omega) (by omega) (by omega) (by omega) (by omega) hE h2 (by omega)
          refine ans_bnd h2' ?_
          have t3 := hw.like q22 q22' (by omega) (by omega) (by omega)
          refine ans_yes (hw.sg (p' := q22') (by omega) (by omega) (by omega) c3) ?_
          refine ans_no (hw.nok3 (p' := (q22' + 1)) (by omega) (by omega) (by omega) c8) ?_
          have t9 := hw.like (q22 + 1) (q22' + 1) (by omega) (by omega) (by omega)
          refine ans_yes (hw.sg (p' := (q22' + 1)) (by omega) (by omega) (by omega) c9) ?_
          refine ans_ok (by omega) ?_ E2
          repeat (first | assumption | exact lks_nil | exact lk_empty | refine lk_mk (by decide) (by first | rfl | exact t1.2.1 | exact t3.2.1 | exact t9.2.1) (by first | rfl | exact lk_s (by assumption) | exact t1.2.2 | exact t3.2.2 | exact t9.2.2) ?_ | refine lks_cons ?_ ?_ | refine lk_list ?_ ?_ | exact lk_paren (by assumption) | exact hgate (by omega))
        · rename_i c10
          cases h
    · rename_i c11
      split at h
      · rename_i c12
        have g12 := isT_lt c12
        cases h
        have t1 := hw.like pos pos' (by omega) (by omega) (by omega)
        refine ans_yes (hw.sg (p' := pos') (by omega) (by omega) (by omega) c1) ?_
        obtain ⟨A12', q22', e22', h2', p2, r2, E2⟩ := pNumber_s tx tx' hw (pos + 1) (pos' + 1) ex ex' _ _ _ (by omega) (by omega) (by omega) (by omega) (by omega) hE h2 (by omega)
        refine ans_bnd h2' ?_
        refine ans_no (hw.nosg (p' := q22') (by omega) (by omega) (by omega) (by decide) c11) ?_
        have t12 := hw.like q22 q22' (by omega) (by omega) (by omega)
        refine ans_yes (hw.sg (p' := q22') (by omega) (by omega) (by omega) c12) ?_
        refine ans_ok (by omega) ?_ E2
        repeat (first | assumption | exact lks_nil | exact lk_empty | refine lk_mk (by decide) (by first | rfl | exact t1.2.1 | exact t12.2.1) (by first | rfl | exact lk_s (by assumption) | exact t1.2.2 | exact t12.2.2) ?_ | refine lks_cons ?_ ?_ | refine lk_list ?_ ?_ | exact lk_paren (by assumption) | exact hgate (by omega))
      · rename_i c13
        cases h
  · rename_i c14
    cases h
theorem pExit_s (hw : Win T T' c lo hi) (b b' : Int) : SmF T c cx lo hi B B' 0 0 (lk cx) (pExit tx T b) (pExit tx' T' b') := by
  intro pos pos' ex ex' x q e hb hl hp hx hpos hE h hq
  have hfit := hw.fit
  have hlow := hw.low
  unfold pExit at h ⊢
  split at h
  · rename_i c1
    have g1 := isT_lt c1
    obtain ⟨A14, q24, e24, h2, h⟩ := rbnd h
    have w2 := wfe (pRows_wf (fun pos ex hp hx => pGive_wf tx T pos ex hp hx) (pos + 1) ex (by omega) (by omega)) h2
    split at h
    · rename_i c3
      have g3 := isT_lt c3
      cases h
      have t1 := hw.like pos pos' (by omega) (by omega) (by omega)
      refine ans_yes (hw.sg (p' := pos') (by omega) (by omega) (by omega) c1) ?_
      obtain ⟨A14', q24', e24', h2', p2, r2, E2⟩ := (pRows_s hw ((pGive_s tx tx' hw).more) (fun pos ex hp hx => pGive_wf tx T pos ex hp hx)).lessL (pos + 1) (pos' + 1) ex ex' _ _ _ (by omega) (by omega) (by omega) (by omega) (by omega) hE h2 (by omega)
      refine ans_bnd h2' ?_
      have t3 := hw.like q24 q24' (by omega) (by omega) (by omega)
      refine ans_yes (hw.sg (p' := q24') (by omega) (by omega) (by omega) c3) ?_
      refine ans_ok (by omega) ?_ E2
      repeat (first | assumption | exact lks_nil | exact lk_empty | refine lk_mk (by decide) (by first | rfl | exact t1.2.1 | exact t3.2.1) (by first | rfl | exact lk_s (by assumption) | exact t1.2.2 | exact t3.2.2) ?_ | refine lks_cons ?_ ?_ | refine lk_list ?_ ?_ | exact lk_paren (by assumption) | exact hgate (by omega))
    · rename_i c4
      cases h
  · rename_i c5
    cases h
    refine ans_no (hw.nosg (p' := pos') (by omega) (by omega) (by omega) (by decide) c5) ?_
    refine ans_ok (by omega) ?_ hE
    repeat (first | assumption | exact lks_nil | exact lk_empty | refine lk_mk (by decide) (by first | rfl) (by first | rfl | exact lk_s (by assumption)) ?_ | refine lks_cons ?_ ?_ | refine lk_list ?_ ?_ | exact lk_paren (by assumption) | exact hgate (by omega))
theorem pCall_s (hw : Win T T' c lo hi) (b b' : Int) : SmF T c cx lo hi B B' 0 0 (lk cx) (pCall tx T b) (pCall tx' T' b') := by
  intro pos pos' ex ex' x q e hb hl hp hx hpos hE h hq
  have hfit := hw.fit
  have hlow := hw.low
  unfold pCall at h ⊢
  obtain ⟨A15, q25, e25, h1, h⟩ := rbnd h
  have w1 := wfe (pName_wf tx T pos ex (by omega) (by omega)) h1
  obtain ⟨A16, q26, e26, h2, h⟩ := rbnd h
  have w2 := wfe (pGates_wf tx T q25 e25 (by omega) (by omega)) h2
  split at h
  · rename_i c3
    have g3 := isT_lt c3
    obtain ⟨A17, q27, e27, h4, h⟩ := rbnd h
    have w4 := wfe (pRows_wf (fun pos ex hp hx => pExpr_wf tx T pos ex hp hx) (q26 + 1) e26 (by omega) (by omega)) h4
    split at h
    · rename_i c5
      have g5 := isT_lt c5
      cases h
      obtain ⟨A15', q25', e25', h1', p1, r1, E1⟩ := (pName_s tx tx' hw).less pos pos' ex ex' _ _ _ (by omega) (by omega) (by omega) (by omega) (by omega) hE h1 (by omega)
      refine ans_bnd h1' ?_
      obtain ⟨A16', q26', e26', h2', p2, r2, E2⟩ := pGates_s tx tx' hw q25 q25' e25 e25' _ _ _ (by omega) (by omega) (by omega) (by omega) (by omega) E1 h2 (by omega)
      refine ans_bnd h2' ?_
      have t3 := hw.like q26 q26' (by omega) (by omega) (by omega)
      refine ans_yes (hw.sg (p' := q26') (by omega) (by omega) (by omega) c3) ?_
      obtain ⟨A17', q27', e27', h4', p4, r4, E4⟩ := (pRows_s hw ((pExpr_s tx tx' hw).more) (fun pos ex hp hx => pExpr_wf tx T pos ex hp hx)).lessL (q26 + 1) (q26' + 1) e26 e26' _ _ _ (by omega) (by omega) (by omega) (by omega) (by omega) E2 h4 (by omega)
      refine ans_bnd h4' ?_
      have t5 := hw.like q27 q27' (by omega) (by omega) (by omega)
      refine ans_yes (hw.sg (p' := q27') (by omega) (by omega) (by omega) c5) ?_
      refine ans_ok (by omega) ?_ E4
      repeat (first | assumption | exact lks_nil | exact lk_empty | refine lk_mk (by decide) (by first | rfl | exact t3.2.1 | exact t5.2.1) (by first | rfl | exact lk_s (by assumption) | exact t3.2.2 | exact t5.2.2) ?_ | refine lks_cons ?_ ?_ | refine lk_list ?_ ?_ | exact lk_paren (by assumption) | exact hgate (by omega))
    · rename_i c6
      cases h
  · rename_i c7
    cases h
    obtain ⟨A15', q25', e25', h1', p1, r1, E1⟩ := (pName_s tx tx' hw).less pos pos' ex ex' _ _ _ (by omega) (by omega) (by omega) (by omega) (by omega) hE h1 (by omega)
    refine ans_bnd h1' ?_
    obtain ⟨A16', q26', e26', h2', p2, r2, E2⟩ := pGates_s tx tx' hw q25 q25' e25 e25' _ _ _ (by omega) (by omega) (by omega) (by omega) (by omega) E1 h2 (by omega)
    refine ans_bnd h2' ?_
    refine ans_no (hw.nosg (p' := q26') (by omega) (by omega) (by omega) (by decide) c7) ?_
    refine ans_ok (by omega) ?_ E2
    repeat (first | assumption | exact lks_nil | exact lk_empty | refine lk_mk (by decide) (by first | rfl) (by first | rfl | exact lk_s (by assumption)) ?_ | refine lks_cons ?_ ?_ | refine lk_list ?_ ?_ | exact lk_paren (by assumption) | exact hgate (by omega))
theorem pOffers_s (hw : Win T T' c lo hi) : ∀ (n n' : Nat) (acc acc' : List Nd) (pos pos' : Nat) (ex ex' : List (Nat × Nat)) (l : List Nd) (q : Nat) (e : List (Nat × Nat)), lo ≤ pos → pos ≤ T.length → ex.length ≤ pos → (pos' : Int) = pos + c → ExR c cx lo hi B B' ex ex' → hi < pos + n' → lks cx acc acc' →
    pOffers tx T n acc pos ex = .ok l q e → q + 1 ≤ hi → Ans c cx lo hi B B' (lks cx l) (pOffers tx' T' n' acc' pos' ex') q e
  | 0, n', acc, acc', pos, pos', ex, ex', l, q, e, hl, hp, hx, hpos, hE, hn, ha, h, hq => by rw [pOffers] at h; cases h
  | n + 1, n', acc, acc', pos, pos', ex, ex', l, q, e, hl, hp, hx, hpos, hE, hn, ha, h, hq => by
    have w := (wfe (pOffers_wf tx T (n + 1) acc pos ex hp hx) h).1
    obtain ⟨m, rfl⟩ : ∃ m, n' = m + 1 := ⟨n' - 1, by omega⟩
    rw [pOffers] at h ⊢
    split at h
    · rename_i hc
      have hlt := isT_lt hc
      obtain ⟨a, q0, e0, h0, h⟩ := rbnd h
      have w0 := wfe (pExpr_wf tx T (pos + 1) ex (by omega) (by omega)) h0
      have w1 := (wfe (pOffers_wf tx T n _ q0 e0 (by omega) (by omega)) h).1
      obtain ⟨a', q0', e0', h0', hq0, hR, hE0⟩ := pExpr_s tx tx' hw (pos + 1) (pos' + 1) ex ex' a q0 e0 (by omega) (by omega) (by omega) (by omega) (by omega) hE h0 (by omega)
      refine ans_yes (hw.sg hl (by omega) hpos hc) (ans_bnd h0' ?_)
      exact pOffers_s hw n m _ _ q0 q0' e0 e0' l q e (by omega) (by omega) (by omega) hq0 hE0 (by omega) (lks_append ha (lks_cons (lk_mk (by decide) rfl rfl (lks_cons hR lks_nil)) lks_nil)) h hq
    · rename_i hc
      refine ans_no (hw.nosg hl (by omega) hpos (by decide) hc) ?_
      split at h
      · rename_i hd
        have hlt := isT_lt hd
        obtain ⟨a, q0, e0, h0, h⟩ := rbnd h
        have w0 := wfe (pShared_wf tx T 41 (pos + 1) ex (by omega) (by omega)) h0
        have w1 := (wfe (pOffers_wf tx T n _ q0 e0 (by omega) (by omega)) h).1
        obtain ⟨a', q0', e0', h0', hq0, hR, hE0⟩ := pShared_s tx tx' hw (by decide) (pos + 1) (pos' + 1) ex ex' a q0 e0 (by omega) (by omega) (by omega) (by omega) (by omega) hE h0 (by omega)
        refine ans_yes (hw.sg hl (by omega) hpos hd) (ans_bnd h0' ?_)
        exact pOffers_s hw n m _ _ q0 q0' e0 e0' l q e (by omega) (by omega) (by omega) hq0 hE0 (by omega) (lks_append ha hR) h hq
      · rename_i hd
        cases h
        exact ans_no (hw.nosg hl (by omega) hpos (by decide) hd) (ans_ok hpos ha hE)
theorem pConds_s (hw : Win T T' c lo hi) (n n' : Nat) (hn : n = n') : SmF T c cx lo hi B B' 0 0 (lk cx) (pConds tx T n) (pConds tx' T' n') := by
  intro pos pos' ex ex' x q e hb hl hp hx hpos hE h hq
  subst hn
  have w := (wfe (pConds_wf tx T n pos ex hp hx) h).1
  unfold pConds at h ⊢
  split at h
  · rename_i c1
    refine ans_yes c1 ?_
    split at h
    · rename_i c2
      have g2 := isT_lt c2
      obtain ⟨l, q1, e1, h1, h⟩ := rbnd h
      have w1 := wfe (pRows_wf (fun pos ex hp hx => pEq_wf tx T pos ex hp hx) (pos + 1) ex (by omega) (by omega)) h1
      split at h
      · rename_i c3
        cases h
        obtain ⟨l', q1', e1', h1', p1, r1, E1⟩ := (pRows_s hw (pEq_s tx tx' hw).more (fun pos ex hp hx => pEq_wf tx T pos ex hp hx)).lessL (pos + 1) (pos' + 1) ex ex' _ _ _ (by omega) (by omega) (by omega) (by omega) (by omega) hE h1 (by omega)
        refine ans_yes (hw.sg hl (by omega) hpos c2) (ans_bnd h1' ?_)
        exact ans_yes (hw.sg (by omega) (by omega) p1 c3) (ans_ok (by omega) (lk_list lk_empty r1) E1)
      · cases h
    · rename_i c2
      cases h
      exact ans_no (hw.nosg hl (by omega) hpos (by decide) c2) (ans_ok hpos lk_empty hE)
  · rename_i c1
    cases h
    exact ans_no c1 (ans_ok hpos lk_empty hE)
theorem pWins_s (hw : Win T T' c lo hi) : SmF T c cx lo hi B B' 0 0 (lk cx) (pWins tx T) (pWins tx' T') := by
  intro pos pos' ex ex' x q e hb hl hp hx hpos hE h hq
  have hfit := hw.fit
  have hlow := hw.low
  unfold pWins at h ⊢
  split at h
  · rename_i c1
    have g1 := isT_lt c1
    obtain ⟨A18, q28, e28, h2, h⟩ := rbnd h
    have w2 := wfe (pWindow_wf tx T pos ex (by omega) (by omega)) h2
    cases h
    have t1 := hw.like pos pos' (by omega) (by omega) (by omega)
    refine ans_yes (hw.sg (p' := pos') (by omega) (by omega) (by omega) c1) ?_
    obtain ⟨A18', q28', e28', h2', p2, r2, E2⟩ := pWindow_s tx tx' hw pos pos' ex ex' _ _ _ (by omega) (by omega) (by omega) (by omega) (by omega) hE h2 (by omega)
    refine ans_bnd h2' ?_
    refine ans_ok (by omega) ?_ E2
    repeat (first | assumption | exact lks_nil | exact lk_empty | refine lk_mk (by decide) (by first | rfl | exact t1.2.1) (by first | rfl | exact lk_s (by assumption) | exact t1.2.2) ?_ | refine lks_cons ?_ ?_ | refine lk_list ?_ ?_ | exact lk_paren (by assumption) | exact hgate (by omega))
  · rename_i c3
    cases h
    refine ans_no (hw.nosg (p' := pos') (by omega) (by omega) (by omega) (by decide) c3) ?_
    refine ans_ok (by omega) ?_ hE
    repeat (first | assumption | exact lks_nil | exact lk_empty | refine lk_mk (by decide) (by first | rfl) (by first | rfl | exact lk_s (by assumption)) ?_ | refine lks_cons ?_ ?_ | refine lk_list ?_ ?_ | exact lk_paren (by assumption) | exact hgate (by omega))
theorem pAction_s (hw : Win T T' c lo hi) {k : Nat} {pre pre' : Nat → List (Nat × Nat) → Res Nd} (wpre : ∀ pos ex, pos ≤ T.length → ex.length ≤ pos → (pre pos ex).wf T (pos + 1)) (hpre : SmF T c cx lo hi B B' 0 (k + 1) (lk cx) pre pre') (b b' : Int) : SmL T c cx lo hi B B' 0 k (lk cx) (pAction tx T pre b) (pAction tx' T' pre' b') := by
  intro pos pos' ex ex' x q e hb hl hp hx hpos hE h hq
  have hfit := hw.fit
  have hlow := hw.low
  unfold pAction at h ⊢
  have hgate : pos < hi → lk cx (gateAt tx T pos) (gateAt tx' T' pos') := fun hlt => lk_mk (by decide) rfl (hw.like pos pos' hl hlt hpos).2.2 lks_nil
  obtain ⟨A23, q33, e33, h1, h⟩ := rbnd h
  have w1 := wfe (pOffers_wf tx T _ _ (pos + 1) ex (by omega) (by omega)) h1
  obtain ⟨A24, q34, e34, h2, h⟩ := rbnd h
  have w2 := wfe (pConds_wf tx T _ q33 e33 (by omega) (by omega)) h2
  obtain ⟨A25, q35, e35, h3, h⟩ := rbnd h
  have w3 := wfe (pWins_wf tx T q34 e34 (by omega) (by omega)) h3
  split at h
  · rename_i c4
    have g4 := isT_lt c4
    obtain ⟨A26, q36, e36, h5, h⟩ := rbnd h
    have w5 := wfe (wpre (q35 + 1) e35 (by omega) (by omega)) h5
    cases h
    obtain ⟨A23', q33', e33', h1', p1, r1, E1⟩ := pOffers_s tx tx' hw _ (T'.length + 1) [] [] (pos + 1) (pos' + 1) ex ex' _ _ _ (by omega) (by omega) (by omega) (by omega) hE (by omega) lks_nil h1 (by omega)
    have HL := r1
    refine ans_bnd h1' ?_
    obtain ⟨A24', q34', e34', h2', p2, r2, E2⟩ := pConds_s tx tx' hw _ _ (lks_len HL) q33 q33' e33 e33' _ _ _ (by omega) (by omega) (by omega) (by omega) (by omega) E1 h2 (by omega)
    refine ans_bnd h2' ?_
    obtain ⟨A25', q35', e35', h3', p3, r3, E3⟩ := pWins_s tx tx' hw q34 q34' e34 e34' _ _ _ (by omega) (by omega) (by omega) (by omega) (by omega) E2 h3 (by omega)
    refine ans_bnd h3' ?_
    have t4 := hw.like q35 q35' (by omega) (by omega) (by omega)
    refine ans_yes (hw.sg (p' := q35') (by omega) (by omega) (by omega) c4) ?_
    obtain ⟨A26', q36', e36', h5', p5, r5, E5⟩ := hpre (q35 + 1) (q35' + 1) e35 e35' _ _ _ (by omega) (by omega) (by omega) (by omega) (by omega) E3 h5 (by omega)
    refine ans_bnd h5' ?_
    refine ans_ok (by omega) ?_ E5
    repeat (first | assumption | exact lks_nil | exact lk_empty | refine lk_mk (by decide) (by first | rfl | exact t4.2.1) (by first | rfl | exact lk_s (by assumption) | exact t4.2.2) ?_ | refine lks_cons ?_ ?_ | refine lk_list ?_ ?_ | exact lk_paren (by assumption) | exact hgate (by omega))
  · rename_i c6
    cases h
theorem pAction_ge {pre : Nat → List (Nat × Nat) → Res Nd} (wpre : ∀ pos ex, pos ≤ T.length → ex.length ≤ pos → (pre pos ex).wf T (pos + 1)) {b : Int} {pos : Nat} {ex : List (Nat × Nat)} {x : Nd} {q : Nat} {e : List (Nat × Nat)} (hp : pos < T.length) (hx : ex.length ≤ pos) (h : pAction tx T pre b pos ex = .ok x q e) : pos + 3 ≤ q := by
  unfold pAction at h
  obtain ⟨l, q1, e1, h1, h⟩ := rbnd h
  have w1 := wfe (pOffers_wf tx T _ _ (pos + 1) ex (by omega) (by omega)) h1
  obtain ⟨l2, q2, e2, h2, h⟩ := rbnd h
  have w2 := wfe (pConds_wf tx T _ q1 e1 (by omega) (by omega)) h2
  obtain ⟨l3, q3, e3, h3, h⟩ := rbnd h
  have w3 := wfe (pWins_wf tx T q2 e2 (by omega) (by omega)) h3
  split at h
  · rename_i c4
    have g4 := isT_lt c4
    obtain ⟨l4, q4, e4, h4, h⟩ := rbnd h
    have w4 := wfe (wpre (q3 + 1) e3 (by omega) (by omega)) h4
    cases h
    omega
  · cases h
theorem pPick_s (hw : Win T T' c lo hi) {k : Nat} {beh beh' : Nat → List (Nat × Nat) → Res Nd} (wbeh : ∀ pos ex, pos ≤ T.length → ex.length ≤ pos → (beh pos ex).wf T (pos + 1)) (hbeh : SmF T c cx lo hi B B' 0 (k + 1) (lk cx) beh beh') (b b' : Int) : SmF T c cx lo hi B B' 0 k (lk cx) (pPick tx T beh b) (pPick tx' T' beh' b') := by
  intro pos pos' ex ex' x q e hb hl hp hx hpos hE h hq
  have hfit := hw.fit
  have hlow := hw.low
  unfold pPick at h ⊢
  obtain ⟨A19, q29, e29, h1, h⟩ := rbnd h
  have w1 := wfe (pRows_wf (fun pos ex hp hx => pGate_wf tx T pos ex hp hx) pos ex (by omega) (by omega)) h1
  split at h
  · rename_i c2
    have g2 := isT_lt c2
    obtain ⟨A20, q30, e30, h3, h⟩ := rbnd h
    have w3 := wfe (wbeh (q29 + 1) e29 (by omega) (by omega)) h3
    cases h
    obtain ⟨A19', q29', e29', h1', p1, r1, E1⟩ := (pRows_s hw ((pGate_s tx tx' hw).more) (fun pos ex hp hx => pGate_wf tx T pos ex hp hx)).lessL pos pos' ex ex' _ _ _ (by omega) (by omega) (by omega) (by omega) (by omega) hE h1 (by omega)
    refine ans_bnd h1' ?_
    have t2 := hw.like q29 q29' (by omega) (by omega) (by omega)
    refine ans_yes (hw.sg (p' := q29') (by omega) (by omega) (by omega) c2) ?_
    obtain ⟨A20', q30', e30', h3', p3, r3, E3⟩ := hbeh (q29 + 1) (q29' + 1) e29 e29' _ _ _ (by omega) (by omega) (by omega) (by omega) (by omega) E1 h3 (by omega)
    refine ans_bnd h3' ?_
    refine ans_ok (by omega) ?_ E3
    repeat (first | assumption | exact lks_nil | exact lk_empty | refine lk_mk (by decide) (by first | rfl | exact t2.2.1) (by first | rfl | exact lk_s (by assumption) | exact t2.2.2) ?_ | refine lks_cons ?_ ?_ | refine lk_list ?_ ?_ | exact lk_paren (by assumption) | exact hgate (by omega))
  · rename_i c4
    cases h
theorem pSome_s (hw : Win T T' c lo hi) {k : Nat} {beh beh' : Nat → List (Nat × Nat) → Res Nd} (wbeh : ∀ pos ex, pos ≤ T.length → ex.length ≤ pos → (beh pos ex).wf T (pos + 1)) (hbeh : SmF T c cx lo hi B B' 0 (k + 1) (lk cx) beh beh') (b b' : Int) : SmF T c cx lo hi B B' 0 k (lk cx) (pSome tx T beh b) (pSome tx' T' beh' b') := by
  intro pos pos' ex ex' x q e hb hl hp hx hpos hE h hq
  have hfit := hw.fit
  have hlow := hw.low
  unfold pSome at h ⊢
  obtain ⟨A21, q31, e31, h1, h⟩ := rbnd h
  have w1 := wfe (pDecls_wf tx T pos ex (by omega) (by omega)) h1
  split at h
  · rename_i c2
    have g2 := isT_lt c2
    obtain ⟨A22, q32, e32, h3, h⟩ := rbnd h
    have w3 := wfe (wbeh (q31 + 1) e31 (by omega) (by omega)) h3
    cases h
    obtain ⟨A21', q31', e31', h1', p1, r1, E1⟩ := pDecls_s tx tx' hw pos pos' ex ex' _ _ _ (by omega) (by omega) (by omega) (by omega) (by omega) hE h1 (by omega)
    refine ans_bnd h1' ?_
    have t2 := hw.like q31 q31' (by omega) (by omega) (by omega)
    refine ans_yes (hw.sg (p' := q31') (by omega) (by omega) (by omega) c2) ?_
    obtain ⟨A22', q32', e32', h3', p3, r3, E3⟩ := hbeh (q31 + 1) (q31' + 1) e31 e31' _ _ _ (by omega) (by omega) (by omega) (by omega) (by omega) E1 h3 (by omega)
    refine ans_bnd h3' ?_
    refine ans_ok (by omega) ?_ E3
    repeat (first | assumption | exact lks_nil | exact lk_empty | refine lk_mk (by decide) (by first | rfl | exact t2.2.1) (by first | rfl | exact lk_s (by assumption) | exact t2.2.2) ?_ | refine lks_cons ?_ ?_ | refine lk_list ?_ ?_ | exact lk_paren (by assumption) | exact hgate (by omega))
  · rename_i c4
    cases h
theorem pPick_ge {beh : Nat → List (Nat × Nat) → Res Nd} (wbeh : ∀ pos ex, pos ≤ T.length → ex.length ≤ pos → (beh pos ex).wf T (pos + 1)) {b : Int} {pos : Nat} {ex : List (Nat × Nat)} {x : Nd} {q : Nat} {e : List (Nat × Nat)} (hp : pos ≤ T.length) (hx : ex.length ≤ pos) (h : pPick tx T beh b pos ex = .ok x q e) : pos + 3 ≤ q := by
  unfold pPick at h
  obtain ⟨l, q1, e1, h1, h⟩ := rbnd h
  have w1 := wfe (pRows_wf (fun pos ex hp hx => pGate_wf tx T pos ex hp hx) pos ex hp hx) h1
  split at h
  · rename_i c4
    have g4 := isT_lt c4
    obtain ⟨l4, q4, e4, h4, h⟩ := rbnd h
    have w4 := wfe (wbeh (q1 + 1) e1 (by omega) (by omega)) h4
    cases h
    omega
  · cases h
theorem pSome_ge {beh : Nat → List (Nat × Nat) → Res Nd} (wbeh : ∀ pos ex, pos ≤ T.length → ex.length ≤ pos → (beh pos ex).wf T (pos + 1)) {b : Int} {pos : Nat} {ex : List (Nat × Nat)} {x : Nd} {q : Nat} {e : List (Nat × Nat)} (hp : pos ≤ T.length) (hx : ex.length ≤ pos) (h : pSome tx T beh b pos ex = .ok x q e) : pos + 3 ≤ q := by
  unfold pSome at h
  obtain ⟨l, q1, e1, h1, h⟩ := rbnd h
  have w1 := wfe (pDecls_wf tx T pos ex hp hx) h1
  split at h
  · rename_i c4
    have g4 := isT_lt c4
    obtain ⟨l4, q4, e4, h4, h⟩ := rbnd h
    have w4 := wfe (wbeh (q1 + 1) e1 (by omega) (by omega)) h4
    cases h
    omega
  · cases h
theorem pChoice_s (hw : Win T T' c lo hi) {k : Nat} {beh beh' : Nat → List (Nat × Nat) → Res Nd} (wbeh : ∀ pos ex, pos ≤ T.length → ex.length ≤ pos → (beh pos ex).wf T (pos + 1)) (hbeh : SmF T c cx lo hi B B' 0 (k + 1) (lk cx) beh beh') (b b' : Int) : SmF T c cx lo hi B B' 0 k (lk cx) (pChoice tx T beh b) (pChoice tx' T' beh' b') := by
  intro pos pos' ex ex' x q e hb hl hp hx hpos hE h hq
  unfold pChoice at h ⊢
  split at h
  · rename_i c1
    split at h
    · rename_i c2
      have := pPick_ge tx wbeh hp hx h
      exact ans_yes (hw.sg (p' := pos' + 1) (by omega) (by omega) (by omega) c1) (ans_yes (hw.kd hl (by omega) hpos c2) (pPick_s tx tx' hw wbeh hbeh b b' pos pos' ex ex' x q e hb hl hp hx hpos hE h hq))
    · rename_i c2
      have := pSome_ge tx wbeh hp hx h
      exact ans_yes (hw.sg (p' := pos' + 1) (by omega) (by omega) (by omega) c1) (ans_no (hw.nok1 hl (by omega) hpos c2) (pSome_s tx tx' hw wbeh hbeh b b' pos pos' ex ex' x q e hb hl hp hx hpos hE h hq))
  · rename_i c1
    have := pSome_ge tx wbeh hp hx h
    exact ans_no (hw.nosg (p' := pos' + 1) (by omega) (by omega) (by omega) (by decide) c1) (pSome_s tx tx' hw wbeh hbeh b b' pos pos' ex ex' x q e hb hl hp hx hpos hE h hq)
theorem pGuard_s (hw : Win T T' c lo hi) {k : Nat} {pre pre' : Nat → List (Nat × Nat) → Res Nd} (wpre : ∀ pos ex, pos ≤ T.length → ex.length ≤ pos → (pre pos ex).wf T (pos + 1)) (hpre : SmF T c cx lo hi B B' 0 (k + 1) (lk cx) pre pre') : SmL T c cx lo hi B B' 0 k (lk cx) (pGuard tx T pre) (pGuard tx' T' pre') := by
  intro pos pos' ex ex' x q e hb hl hp hx hpos hE h hq
  have hfit := hw.fit
  have hlow := hw.low
  unfold pGuard at h ⊢
  obtain ⟨A27, q37, e37, h1, h⟩ := rbnd h
  have w1 := wfe (pRows_wf (fun pos ex hp hx => pEq_wf tx T pos ex hp hx) (pos + 1) ex (by omega) (by omega)) h1
  split at h
  · rename_i c2
    have g2 := isT_lt c2
    split at h
    · rename_i c3
      have g3 := isT_lt c3
      obtain ⟨A28, q38, e38, h4, h⟩ := rbnd h
      have w4 := wfe (wpre ((q37 + 1) + 1) e37 (by omega) (by omega)) h4
      cases h
      obtain ⟨A27', q37', e37', h1', p1, r1, E1⟩ := (pRows_s hw ((pEq_s tx tx' hw).more) (fun pos ex hp hx => pEq_wf tx T pos ex hp hx)).lessL (pos + 1) (pos' + 1) ex ex' _ _ _ (by omega) (by omega) (by omega) (by omega) (by omega) hE h1 (by omega)
      refine ans_bnd h1' ?_
      have t2 := hw.like q37 q37' (by omega) (by omega) (by omega)
      refine ans_yes (hw.sg (p' := q37') (by omega) (by omega) (by omega) c2) ?_
      have t3 := hw.like (q37 + 1) (q37' + 1) (by omega) (by omega) (by omega)
      refine ans_yes (hw.sg (p' := (q37' + 1)) (by omega) (by omega) (by omega) c3) ?_
      obtain ⟨A28', q38', e38', h4', p4, r4, E4⟩ := hpre ((q37 + 1) + 1) ((q37' + 1) + 1) e37 e37' _ _ _ (by omega) (by omega) (by omega) (by omega) (by omega) E1 h4 (by omega)
      refine ans_bnd h4' ?_
      refine ans_ok (by omega) ?_ E4
      repeat (first | assumption | exact lks_nil | exact lk_empty | refine lk_mk (by decide) (by first | rfl | exact t2.2.1 | exact t3.2.1) (by first | rfl | exact lk_s (by assumption) | exact t2.2.2 | exact t3.2.2) ?_ | refine lks_cons ?_ ?_ | refine lk_list ?_ ?_ | exact lk_paren (by assumption) | exact hgate (by omega))
    · rename_i c5
      cases h
  · rename_i c6
    cases h
theorem pParen_s (hw : Win T T' c lo hi) {k : Nat} {beh beh' : Nat → List (Nat × Nat) → Res Nd} (wbeh : ∀ pos ex, pos ≤ T.length → ex.length ≤ pos → (beh pos ex).wf T (pos + 1)) (hbeh : SmF T c cx lo hi B B' 0 (k + 1) (lk cx) beh beh') : SmL T c cx lo hi B B' 0 k (lk cx) (pParen tx T beh) (pParen tx' T' beh') := by
  intro pos pos' ex ex' x q e hb hl hp hx hpos hE h hq
  have hfit := hw.fit
  have hlow := hw.low
  unfold pParen at h ⊢
  obtain ⟨A29, q39, e39, h1, h⟩ := rbnd h
  have w1 := wfe (wbeh (pos + 1) ex (by omega) (by omega)) h1
  split at h
  · rename_i c2
    have g2 := isT_lt c2
    cases h
    obtain ⟨A29', q39', e39', h1', p1, r1, E1⟩ := hbeh (pos + 1) (pos' + 1) ex ex' _ _ _ (by omega) (by omega) (by omega) (by omega) (by omega) hE h1 (by omega)
    refine ans_bnd h1' ?_
    have t2 := hw.like q39 q39' (by omega) (by omega) (by omega)
    refine ans_yes (hw.sg (p' := q39') (by omega) (by omega) (by omega) c2) ?_
    refine ans_ok (by omega) ?_ E1
    repeat (first | assumption | exact lks_nil | exact lk_empty | refine lk_mk (by decide) (by first | rfl | exact t2.2.1) (by first | rfl | exact lk_s (by assumption) | exact t2.2.2) ?_ | refine lks_cons ?_ ?_ | refine lk_list ?_ ?_ | exact lk_paren (by assumption) | exact hgate (by omega))
  · rename_i c3
    cases h
theorem pWait_s (hw : Win T T' c lo hi) {k : Nat} {pre pre' : Nat → List (Nat × Nat) → Res Nd} (wpre : ∀ pos ex, pos ≤ T.length → ex.length ≤ pos → (pre pos ex).wf T (pos + 1)) (hpre : SmF T c cx lo hi B B' 0 (k + 1) (lk cx) pre pre') : SmL T c cx lo hi B B' 0 k (lk cx) (pWait tx T pre) (pWait tx' T' pre') := by
  intro pos pos' ex ex' x q e hb hl hp hx hpos hE h hq
  have hfit := hw.fit
  have hlow := hw.low
  unfold pWait at h ⊢
  split at h
  · rename_i c1
    have g1 := tokAt_lt (T := T) (pos := (pos + 1)) (by omega)
    split at h
    · rename_i c2
      have g2 := isT_lt c2
      obtain ⟨A30, q40, e40, h3, h⟩ := rbnd h
      have w3 := wfe (wpre (((pos + 1) + 1) + 1) ex (by omega) (by omega)) h3
      cases h
      have t1 := hw.like (pos + 1) (pos' + 1) (by omega) (by omega) (by omega)
      refine ans_yes (hw.kd (p' := (pos' + 1)) (by omega) (by omega) (by omega) c1) ?_
      have t2 := hw.like ((pos + 1) + 1) ((pos' + 1) + 1) (by omega) (by omega) (by omega)
      refine ans_yes (hw.sg (p' := ((pos' + 1) + 1)) (by omega) (by omega) (by omega) c2) ?_
      obtain ⟨A30', q40', e40', h3', p3, r3, E3⟩ := hpre (((pos + 1) + 1) + 1) (((pos' + 1) + 1) + 1) ex ex' _ _ _ (by omega) (by omega) (by omega) (by omega) (by omega) hE h3 (by omega)
      refine ans_bnd h3' ?_
      refine ans_ok (by omega) ?_ E3
      repeat (first | assumption | exact lks_nil | exact lk_empty | refine lk_mk (by decide) (by first | rfl | exact t1.2.1 | exact t2.2.1) (by first | rfl | exact lk_s (by assumption) | exact t1.2.2 | exact t2.2.2) ?_ | refine lks_cons ?_ ?_ | refine lk_list ?_ ?_ | exact lk_paren (by assumption) | exact hgate (by omega))
    · rename_i c4
      cases h
  · rename_i c5
    cases h
theorem pHide_s (hw : Win T T' c lo hi) {k : Nat} {beh beh' : Nat → List (Nat × Nat) → Res Nd} (wbeh : ∀ pos ex, pos ≤ T.length → ex.length ≤ pos → (beh pos ex).wf T (pos + 1)) (hbeh : SmF T c cx lo hi B B' 0 (k + 1) (lk cx) beh beh') : SmL T c cx lo hi B B' 0 k (lk cx) (pHide tx T beh) (pHide tx' T' beh') := by
  intro pos pos' ex ex' x q e hb hl hp hx hpos hE h hq
  have hfit := hw.fit
  have hlow := hw.low
  unfold pHide at h ⊢
  obtain ⟨A31, q41, e41, h1, h⟩ := rbnd h
  have w1 := wfe (pNames_wf tx T (pos + 1) ex (by omega) (by omega)) h1
  split at h
  · rename_i c2
    have g2 := isT_lt c2
    obtain ⟨A32, q42, e42, h3, h⟩ := rbnd h
    have w3 := wfe (wbeh (q41 + 1) e41 (by omega) (by omega)) h3
    cases h
    obtain ⟨A31', q41', e41', h1', p1, r1, E1⟩ := pNames_s tx tx' hw (pos + 1) (pos' + 1) ex ex' _ _ _ (by omega) (by omega) (by omega) (by omega) (by omega) hE h1 (by omega)
    refine ans_bnd h1' ?_
    have t2 := hw.like q41 q41' (by omega) (by omega) (by omega)
    refine ans_yes (hw.sg (p' := q41') (by omega) (by omega) (by omega) c2) ?_
    obtain ⟨A32', q42', e42', h3', p3, r3, E3⟩ := hbeh (q41 + 1) (q41' + 1) e41 e41' _ _ _ (by omega) (by omega) (by omega) (by omega) (by omega) E1 h3 (by omega)
    refine ans_bnd h3' ?_
    refine ans_ok (by omega) ?_ E3
    repeat (first | assumption | exact lks_nil | exact lk_empty | refine lk_mk (by decide) (by first | rfl | exact t2.2.1) (by first | rfl | exact lk_s (by assumption) | exact t2.2.2) ?_ | refine lks_cons ?_ ?_ | refine lk_list ?_ ?_ | exact lk_paren (by assumption) | exact hgate (by omega))
  · rename_i c4
    cases h
theorem pLet_s (hw : Win T T' c lo hi) {k : Nat} {beh beh' : Nat → List (Nat × Nat) → Res Nd} (wbeh : ∀ pos ex, pos ≤ T.length → ex.length ≤ pos → (beh pos ex).wf T (pos + 1)) (hbeh : SmF T c cx lo hi B B' 0 (k + 1) (lk cx) beh beh') : SmL T c cx lo hi B B' 0 k (lk cx) (pLet tx T beh) (pLet tx' T' beh') := by
  intro pos pos' ex ex' x q e hb hl hp hx hpos hE h hq
  have hfit := hw.fit
  have hlow := hw.low
  unfold pLet at h ⊢
  obtain ⟨A33, q43, e43, h1, h⟩ := rbnd h
  have w1 := wfe (pRows_wf (fun pos ex hp hx => pBind_wf tx T pos ex hp hx) (pos + 1) ex (by omega) (by omega)) h1
  split at h
  · rename_i c2
    have g2 := isT_lt c2
    obtain ⟨A34, q44, e44, h3, h⟩ := rbnd h
    have w3 := wfe (wbeh (q43 + 1) e43 (by omega) (by omega)) h3
    cases h
    obtain ⟨A33', q43', e43', h1', p1, r1, E1⟩ := (pRows_s hw ((pBind_s tx tx' hw).more) (fun pos ex hp hx => pBind_wf tx T pos ex hp hx)).lessL (pos + 1) (pos' + 1) ex ex' _ _ _ (by omega) (by omega) (by omega) (by omega) (by omega) hE h1 (by omega)
    refine ans_bnd h1' ?_
    have t2 := hw.like q43 q43' (by omega) (by omega) (by omega)
    refine ans_yes (hw.sg (p' := q43') (by omega) (by omega) (by omega) c2) ?_
    obtain ⟨A34', q44', e44', h3', p3, r3, E3⟩ := hbeh (q43 + 1) (q43' + 1) e43 e43' _ _ _ (by omega) (by omega) (by omega) (by omega) (by omega) E1 h3 (by omega)
    refine ans_bnd h3' ?_
    refine ans_ok (by omega) ?_ E3
    repeat (first | assumption | exact lks_nil | exact lk_empty | refine lk_mk (by decide) (by first | rfl | exact t2.2.1) (by first | rfl | exact lk_s (by assumption) | exact t2.2.2) ?_ | refine lks_cons ?_ ?_ | refine lk_list ?_ ?_ | exact lk_paren (by assumption) | exact hgate (by omega))
  · rename_i c4
    cases h
theorem pChoose_s (hw : Win T T' c lo hi) {k : Nat} {beh beh' : Nat → List (Nat × Nat) → Res Nd} (wbeh : ∀ pos ex, pos ≤ T.length → ex.length ≤ pos → (beh pos ex).wf T (pos + 1)) (hbeh : SmF T c cx lo hi B B' 0 (k + 1) (lk cx) beh beh') : SmL T c cx lo hi B B' 0 k (lk cx) (pChoose tx T beh) (pChoose tx' T' beh') := by
  intro pos pos' ex ex' x q e hb hl hp hx hpos hE h hq
  have hfit := hw.fit
  have hlow := hw.low
  unfold pChoose at h ⊢
  obtain ⟨A35, q45, e45, h1, h⟩ := rbnd h
  have w1 := wfe (pChoice_wf tx T beh _ wbeh (pos + 1) ex (by omega) (by omega)) h1
  cases h
  obtain ⟨A35', q45', e45', h1', p1, r1, E1⟩ := pChoice_s tx tx' hw wbeh hbeh _ _ (pos + 1) (pos' + 1) ex ex' _ _ _ (by omega) (by omega) (by omega) (by omega) (by omega) hE h1 (by omega)
  refine ans_bnd h1' ?_
  refine ans_ok (by omega) ?_ E1
  repeat (first | assumption | exact lks_nil | exact lk_empty | refine lk_mk (by decide) (by first | rfl) (by first | rfl | exact lk_s (by assumption)) ?_ | refine lks_cons ?_ ?_ | refine lk_list ?_ ?_ | exact lk_paren (by assumption) | exact hgate (by omega))
theorem pStop_s (hw : Win T T' c lo hi) : SmL T c cx lo hi B B' 0 0 (lk cx) (pStop tx T) (pStop tx' T') := by
  intro pos pos' ex ex' x q e hb hl hp hx hpos hE h hq
  have hfit := hw.fit
  have hlow := hw.low
  unfold pStop at h ⊢
  cases h
  refine ans_ok (by omega) ?_ hE
  repeat (first | assumption | exact lks_nil | exact lk_empty | refine lk_mk (by decide) (by first | rfl) (by first | rfl | exact lk_s (by assumption)) ?_ | refine lks_cons ?_ ?_ | refine lk_list ?_ ?_ | exact lk_paren (by assumption) | exact hgate (by omega))
theorem pExits_s (hw : Win T T' c lo hi) : SmL T c cx lo hi B B' 0 0 (lk cx) (pExits tx T) (pExits tx' T') := by
  intro pos pos' ex ex' x q e hb hl hp hx hpos hE h hq
  have hfit := hw.fit
  have hlow := hw.low
  unfold pExits at h ⊢
  obtain ⟨A36, q46, e46, h1, h⟩ := rbnd h
  have w1 := wfe (pExit_wf tx T _ (pos + 1) ex (by omega) (by omega)) h1
  cases h
  obtain ⟨A36', q46', e46', h1', p1, r1, E1⟩ := pExit_s tx tx' hw _ _ (pos + 1) (pos' + 1) ex ex' _ _ _ (by omega) (by omega) (by omega) (by omega) (by omega) hE h1 (by omega)
  refine ans_bnd h1' ?_
  refine ans_ok (by omega) ?_ E1
  repeat (first | assumption | exact lks_nil | exact lk_empty | refine lk_mk (by decide) (by first | rfl) (by first | rfl | exact lk_s (by assumption)) ?_ | refine lks_cons ?_ ?_ | refine lk_list ?_ ?_ | exact lk_paren (by assumption) | exact hgate (by omega))
theorem pAct_s (hw : Win T T' c lo hi) {k : Nat} {pre pre' : Nat → List (Nat × Nat) → Res Nd} (wpre : ∀ pos ex, pos ≤ T.length → ex.length ≤ pos → (pre pos ex).wf T (pos + 1)) (hpre : SmF T c cx lo hi B B' 0 (k + 1) (lk cx) pre pre') : SmL T c cx lo hi B B' 0 k (lk cx) (pAct tx T pre) (pAct tx' T' pre') := by
  intro pos pos' ex ex' x q e hb hl hp hx hpos hE h hq
  have hfit := hw.fit
  have hlow := hw.low
  unfold pAct at h ⊢
  obtain ⟨A37, q47, e47, h1, h⟩ := rbnd h
  have w1 := wfe (pAction_wf tx T pre _ wpre pos ex (by omega) (by omega)) h1
  cases h
  obtain ⟨A37', q47', e47', h1', p1, r1, E1⟩ := pAction_s tx tx' hw wpre hpre _ _ pos pos' ex ex' _ _ _ (by omega) (by omega) (by omega) (by omega) (by omega) hE h1 (by omega)
  refine ans_bnd h1' ?_
  refine ans_ok (by omega) ?_ E1
  repeat (first | assumption | exact lks_nil | exact lk_empty | refine lk_mk (by decide) (by first | rfl) (by first | rfl | exact lk_s (by assumption)) ?_ | refine lks_cons ?_ ?_ | refine lk_list ?_ ?_ | exact lk_paren (by assumption) | exact hgate (by omega))
theorem pCalls_s (hw : Win T T' c lo hi) : SmL T c cx lo hi B B' 0 0 (lk cx) (pCalls tx T) (pCalls tx' T') := by
  intro pos pos' ex ex' x q e hb hl hp hx hpos hE h hq
  have hfit := hw.fit
  have hlow := hw.low
  unfold pCalls at h ⊢
  obtain ⟨A38, q48, e48, h1, h⟩ := rbnd h
  have w1 := wfe (pCall_wf tx T _ pos ex (by omega) (by omega)) h1
  cases h
  obtain ⟨A38', q48', e48', h1', p1, r1, E1⟩ := pCall_s tx tx' hw _ _ pos pos' ex ex' _ _ _ (by omega) (by omega) (by omega) (by omega) (by omega) hE h1 (by omega)
  refine ans_bnd h1' ?_
  refine ans_ok (by omega) ?_ E1
  repeat (first | assumption | exact lks_nil | exact lk_empty | refine lk_mk (by decide) (by first | rfl) (by first | rfl | exact lk_s (by assumption)) ?_ | refine lks_cons ?_ ?_ | refine lk_list ?_ ?_ | exact lk_paren (by assumption) | exact hgate (by omega))
set_option maxRecDepth 20000 in set_option maxHeartbeats 4000000 in
theorem pPre_s (hw : Win T T' c lo hi) {k : Nat} {pre pre' : Nat → List (Nat × Nat) → Res Nd} (wpre : ∀ pos ex, pos ≤ T.length → ex.length ≤ pos → (pre pos ex).wf T (pos + 1)) (hpre : SmF T c cx lo hi B B' 0 (k + 1) (lk cx) pre pre') {beh beh' : Nat → List (Nat × Nat) → Res Nd} (wbeh : ∀ pos ex, pos ≤ T.length → ex.length ≤ pos → (beh pos ex).wf T (pos + 1)) (hbeh : SmF T c cx lo hi B B' 0 (k + 1) (lk cx) beh beh') :
    SmF T c cx lo hi B B' 0 k (lk cx) (pPre tx T pre beh) (pPre tx' T' pre' beh') := by
  intro pos pos' ex ex' x q e hb hl hp hx hpos hE h hq
  have w := wfe (pPre_wf tx T pre beh wpre wbeh pos ex hp hx) h
  have t := hw.like pos pos' hl (by omega) hpos
  unfold pPre at h ⊢
  simp only [← t.sg, ← t.1]
  split at h
  · rename_i c1
    exact ans_yes c1 (pGuard_s tx tx' hw wpre hpre pos pos' ex ex' x q e hb hl (isT_lt c1) hx hpos hE h hq)
  rename_i c1
  refine ans_no c1 ?_
  split at h
  · rename_i c2
    exact ans_yes c2 (pParen_s tx tx' hw wbeh hbeh pos pos' ex ex' x q e hb hl (isT_lt c2) hx hpos hE h hq)
  rename_i c2
  refine ans_no c2 ?_
  split at h
  · rename_i c3
    exact ans_yes c3 (pWait_s tx tx' hw wpre hpre pos pos' ex ex' x q e hb hl (isT_lt c3) hx hpos hE h hq)
  rename_i c3
  refine ans_no c3 ?_
  split at h
  · rename_i c4
    exact ans_yes c4 (pHide_s tx tx' hw wbeh hbeh pos pos' ex ex' x q e hb hl (isT_lt c4) hx hpos hE h hq)
  rename_i c4
  refine ans_no c4 ?_
  split at h
  · rename_i c5
    exact ans_yes c5 (pLet_s tx tx' hw wbeh hbeh pos pos' ex ex' x q e hb hl (isT_lt c5) hx hpos hE h hq)
  rename_i c5
  refine ans_no c5 ?_
  split at h
  · rename_i c6
    exact ans_yes c6 (pChoose_s tx tx' hw wbeh hbeh pos pos' ex ex' x q e hb hl (isT_lt c6) hx hpos hE h hq)
  rename_i c6
  refine ans_no c6 ?_
  split at h
  · rename_i c7
    exact ans_yes c7 (pStop_s tx tx' hw pos pos' ex ex' x q e (Nat.zero_le _) hl (isT_lt c7) hx hpos hE h hq)
  rename_i c7
  refine ans_no c7 ?_
  split at h
  · rename_i c8
    exact ans_yes c8 (pExits_s tx tx' hw pos pos' ex ex' x q e (Nat.zero_le _) hl (isT_lt c8) hx hpos hE h hq)
  rename_i c8
  refine ans_no c8 ?_
  split at h
  · rename_i c9
    exact ans_yes c9 (pAct_s tx tx' hw wpre hpre pos pos' ex ex' x q e hb hl (isT_lt c9) hx hpos hE h hq)
  rename_i c9
  refine ans_no c9 ?_
  split at h
  · rename_i c10
    have hlt : pos < T.length := tokAt_lt (T := T) (by omega)
    refine ans_yes c10 ?_
    split at h
    · rename_i c11
      have hg : pos + 3 ≤ q := by
        have h' := h
        unfold pAct at h'
        obtain ⟨y, q1, e1, h1, h'⟩ := rbnd h'
        cases h'
        exact pAction_ge tx wpre hlt hx h1
      refine ans_yes ?_ (pAct_s tx tx' hw wpre hpre pos pos' ex ex' x q e hb hl hlt hx hpos hE h hq)
      rw [← (hw.like (pos + 1) (pos' + 1) (by omega) (by omega) (by omega)).acts]
      exact c11
    · rename_i c11
      refine ans_no ?_ (pCalls_s tx tx' hw pos pos' ex ex' x q e (Nat.zero_le _) hl hlt hx hpos hE h hq)
      by_cases h1 : pos + 1 < hi
      · rw [← (hw.like (pos + 1) (pos' + 1) (by omega) (by omega) (by omega)).acts]
        exact c11
      · have hd := hw.dull (pos' + 1) (by omega)
        rw [actsT, hd.no (by decide), hd.no (by decide), hd.no (by decide), hd.no (by decide)]
        simp
  · cases h
theorem pSum_s (hw : Win T T' c lo hi) {k : Nat} {sub sub' : Nat → List (Nat × Nat) → Res Nd} (wsub : ∀ pos ex, pos ≤ T.length → ex.length ≤ pos → (sub pos ex).wf T (pos + 1)) (hsub : SmF T c cx lo hi B B' 0 k (lk cx) sub sub') {rec rec' : Nat → List (Nat × Nat) → Res Nd} (wrec : ∀ pos ex, pos ≤ T.length → ex.length ≤ pos → (rec pos ex).wf T (pos + 1)) (hrec : SmF T c cx lo hi B B' 0 (k + 1) (lk cx) rec rec') : SmF T c cx lo hi B B' 0 k (lk cx) (pSum tx T sub rec) (pSum tx' T' sub' rec') := by
  intro pos pos' ex ex' x q e hb hl hp hx hpos hE h hq
  have hfit := hw.fit
  have hlow := hw.low
  unfold pSum at h ⊢
  obtain ⟨A39, q49, e49, h1, h⟩ := rbnd h
  have w1 := wfe (wsub pos ex (by omega) (by omega)) h1
  split at h
  · rename_i c2
    have g2 := isT_lt c2
    obtain ⟨A40, q50, e50, h3, h⟩ := rbnd h
    have w3 := wfe (wrec (q49 + 1) e49 (by omega) (by omega)) h3
    cases h
    obtain ⟨A39', q49', e49', h1', p1, r1, E1⟩ := hsub pos pos' ex ex' _ _ _ (by omega) (by omega) (by omega) (by omega) (by omega) hE h1 (by omega)
    refine ans_bnd h1' ?_
    have t2 := hw.like q49 q49' (by omega) (by omega) (by omega)
    refine ans_yes (hw.sg (p' := q49') (by omega) (by omega) (by omega) c2) ?_
    obtain ⟨A40', q50', e50', h3', p3, r3, E3⟩ := hrec (q49 + 1) (q49' + 1) e49 e49' _ _ _ (by omega) (by omega) (by omega) (by omega) (by omega) E1 h3 (by omega)
    refine ans_bnd h3' ?_
    refine ans_ok (by omega) ?_ E3
    repeat (first | assumption | exact lks_nil | exact lk_empty | refine lk_mk (by decide) (by first | rfl | exact t2.2.1) (by first | rfl | exact lk_s (by assumption) | exact t2.2.2) ?_ | refine lks_cons ?_ ?_ | refine lk_list ?_ ?_ | exact lk_paren (by assumption) | exact hgate (by omega))
  · rename_i c4
    cases h
    obtain ⟨A39', q49', e49', h1', p1, r1, E1⟩ := hsub pos pos' ex ex' _ _ _ (by omega) (by omega) (by omega) (by omega) (by omega) hE h1 (by omega)
    refine ans_bnd h1' ?_
    refine ans_no (hw.nosg (p' := q49') (by omega) (by omega) (by omega) (by decide) c4) ?_
    refine ans_ok (by omega) ?_ E1
    repeat (first | assumption | exact lks_nil | exact lk_empty | refine lk_mk (by decide) (by first | rfl) (by first | rfl | exact lk_s (by assumption)) ?_ | refine lks_cons ?_ ?_ | refine lk_list ?_ ?_ | exact lk_paren (by assumption) | exact hgate (by omega))
theorem pParts_s (hw : Win T T' c lo hi) {k : Nat} {sub sub' : Nat → List (Nat × Nat) → Res Nd} (wsub : ∀ pos ex, pos ≤ T.length → ex.length ≤ pos → (sub pos ex).wf T (pos + 1)) (hsub : SmF T c cx lo hi B B' 0 k (lk cx) sub sub') {rec rec' : Nat → List (Nat × Nat) → Res Nd} (wrec : ∀ pos ex, pos ≤ T.length → ex.length ≤ pos → (rec pos ex).wf T (pos + 1)) (hrec : SmF T c cx lo hi B B' 0 (k + 1) (lk cx) rec rec') : SmF T c cx lo hi B B' 0 k (lk cx) (pParts tx T sub rec) (pParts tx' T' sub' rec') := by
  intro pos pos' ex ex' x q e hb hl hp hx hpos hE h hq
  have hfit := hw.fit
  have hlow := hw.low
  unfold pParts at h ⊢
  obtain ⟨A41, q51, e51, h1, h⟩ := rbnd h
  have w1 := wfe (wsub pos ex (by omega) (by omega)) h1
  split at h
  · rename_i c2
    have g2 := isT_lt c2
    obtain ⟨A42, q52, e52, h3, h⟩ := rbnd h
    have w3 := wfe (wrec (q51 + 1) e51 (by omega) (by omega)) h3
    cases h
    obtain ⟨A41', q51', e51', h1', p1, r1, E1⟩ := hsub pos pos' ex ex' _ _ _ (by omega) (by omega) (by omega) (by omega) (by omega) hE h1 (by omega)
    refine ans_bnd h1' ?_
    have t2 := hw.like q51 q51' (by omega) (by omega) (by omega)
    refine ans_yes (hw.sg (p' := q51') (by omega) (by omega) (by omega) c2) ?_
    obtain ⟨A42', q52', e52', h3', p3, r3, E3⟩ := hrec (q51 + 1) (q51' + 1) e51 e51' _ _ _ (by omega) (by omega) (by omega) (by omega) (by omega) E1 h3 (by omega)
    refine ans_bnd h3' ?_
    refine ans_ok (by omega) ?_ E3
    repeat (first | assumption | exact lks_nil | exact lk_empty | refine lk_mk (by decide) (by first | rfl | exact t2.2.1) (by first | rfl | exact lk_s (by assumption) | exact t2.2.2) ?_ | refine lks_cons ?_ ?_ | refine lk_list ?_ ?_ | exact lk_paren (by assumption) | exact hgate (by omega))
  · rename_i c4
    split at h
    · rename_i c5
      have g5 := isT_lt c5
      obtain ⟨A43, q53, e53, h6, h⟩ := rbnd h
      have w6 := wfe (wrec (q51 + 1) e51 (by omega) (by omega)) h6
      cases h
      obtain ⟨A41', q51', e51', h1', p1, r1, E1⟩ := hsub pos pos' ex ex' _ _ _ (by omega) (by omega) (by omega) (by omega) (by omega) hE h1 (by omega)
      refine ans_bnd h1' ?_
      refine ans_no (hw.nosg (p' := q51') (by omega) (by omega) (by omega) (by decide) c4) ?_
      have t5 := hw.like q51 q51' (by omega) (by omega) (by omega)
      refine ans_yes (hw.sg (p' := q51') (by omega) (by omega) (by omega) c5) ?_
      obtain ⟨A43', q53', e53', h6', p6, r6, E6⟩ := hrec (q51 + 1) (q51' + 1) e51 e51' _ _ _ (by omega) (by omega) (by omega) (by omega) (by omega) E1 h6 (by omega)
      refine ans_bnd h6' ?_
      refine ans_ok (by omega) ?_ E6
      repeat (first | assumption | exact lks_nil | exact lk_empty | refine lk_mk (by decide) (by first | rfl | exact t5.2.1) (by first | rfl | exact lk_s (by assumption) | exact t5.2.2) ?_ | refine lks_cons ?_ ?_ | refine lk_list ?_ ?_ | exact lk_paren (by assumption) | exact hgate (by omega))
    · rename_i c7
      split at h
      · rename_i c8
        have g8 := isT_lt c8
        obtain ⟨A44, q54, e54, h9, h⟩ := rbnd h
        have w9 := wfe (pNames_wf tx T (q51 + 1) e51 (by omega) (by omega)) h9
        split at h
        · rename_i c10
          have g10 := isT_lt c10
          obtain ⟨A45, q55, e55, h11, h⟩ := rbnd h
          have w11 := wfe (wrec (q54 + 1) e54 (by omega) (by omega)) h11
          cases h
          obtain ⟨A41', q51', e51', h1', p1, r1, E1⟩ := hsub pos pos' ex ex' _ _ _ (by omega) (by omega) (by omega) (by omega) (by omega) hE h1 (by omega)
          refine ans_bnd h1' ?_
          refine ans_no (hw.nosg (p' := q51') (by omega) (by omega) (by omega) (by decide) c4) ?_
          refine ans_no (hw.nosg (p' := q51') (by omega) (by omega) (by omega) (by decide) c7) ?_
          have t8 := hw.like q51 q51' (by omega) (by omega) (by omega)
          refine ans_yes (hw.sg (p' := q51') (by omega) (by omega) (by omega) c8) ?_
          obtain ⟨A44', q54', e54', h9', p9, r9, E9⟩ := pNames_s tx tx' hw (q51 + 1) (q51' + 1) e51 e51' _ _ _ (by omega) (by omega) (by omega) (by omega) (by omega) E1 h9 (by omega)
          refine ans_bnd h9' ?_
          have t10 := hw.like q54 q54' (by omega) (by omega) (by omega)
          refine ans_yes (hw.sg (p' := q54') (by omega) (by omega) (by omega) c10) ?_
          obtain ⟨A45', q55', e55', h11', p11, r11, E11⟩ := hrec (q54 + 1) (q54' + 1) e54 e54' _ _ _ (by omega) (by omega) (by omega) (by omega) (by omega) E9 h11 (by omega)
          refine ans_bnd h11' ?_
          refine ans_ok (by omega) ?_ E11
          repeat (first | assumption | exact lks_nil | exact lk_empty | refine lk_mk (by decide) (by first | rfl | exact t8.2.1 | exact t10.2.1) (by first | rfl | exact lk_s (by assumption) | exact t8.2.2 | exact t10.2.2) ?_ | refine lks_cons ?_ ?_ | refine lk_list ?_ ?_ | exact lk_paren (by assumption) | exact hgate (by omega))
        · rename_i c12
          cases h
      · rename_i c13
        cases h
        obtain ⟨A41', q51', e51', h1', p1, r1, E1⟩ := hsub pos pos' ex ex' _ _ _ (by omega) (by omega) (by omega) (by omega) (by omega) hE h1 (by omega)
        refine ans_bnd h1' ?_
        refine ans_no (hw.nosg (p' := q51') (by omega) (by omega) (by omega) (by decide) c4) ?_
        refine ans_no (hw.nosg (p' := q51') (by omega) (by omega) (by omega) (by decide) c7) ?_
        refine ans_no (hw.nosg (p' := q51') (by omega) (by omega) (by omega) (by decide) c13) ?_
        refine ans_ok (by omega) ?_ E1
        repeat (first | assumption | exact lks_nil | exact lk_empty | refine lk_mk (by decide) (by first | rfl) (by first | rfl | exact lk_s (by assumption)) ?_ | refine lks_cons ?_ ?_ | refine lk_list ?_ ?_ | exact lk_paren (by assumption) | exact hgate (by omega))
theorem pDis_s (hw : Win T T' c lo hi) {k : Nat} {sub sub' : Nat → List (Nat × Nat) → Res Nd} (wsub : ∀ pos ex, pos ≤ T.length → ex.length ≤ pos → (sub pos ex).wf T (pos + 1)) (hsub : SmF T c cx lo hi B B' 0 k (lk cx) sub sub') {rec rec' : Nat → List (Nat × Nat) → Res Nd} (wrec : ∀ pos ex, pos ≤ T.length → ex.length ≤ pos → (rec pos ex).wf T (pos + 1)) (hrec : SmF T c cx lo hi B B' 0 (k + 1) (lk cx) rec rec') : SmF T c cx lo hi B B' 0 k (lk cx) (pDis tx T sub rec) (pDis tx' T' sub' rec') := by
  intro pos pos' ex ex' x q e hb hl hp hx hpos hE h hq
  have hfit := hw.fit
  have hlow := hw.low
  unfold pDis at h ⊢
  obtain ⟨A46, q56, e56, h1, h⟩ := rbnd h
  have w1 := wfe (wsub pos ex (by omega) (by omega)) h1
  split at h
  · rename_i c2
    have g2 := isT_lt c2
    obtain ⟨A47, q57, e57, h3, h⟩ := rbnd h
    have w3 := wfe (wrec (q56 + 1) e56 (by omega) (by omega)) h3
    cases h
    obtain ⟨A46', q56', e56', h1', p1, r1, E1⟩ := hsub pos pos' ex ex' _ _ _ (by omega) (by omega) (by omega) (by omega) (by omega) hE h1 (by omega)
    refine ans_bnd h1' ?_
    have t2 := hw.like q56 q56' (by omega) (by omega) (by omega)
    refine ans_yes (hw.sg (p' := q56') (by omega) (by omega) (by omega) c2) ?_
    obtain ⟨A47', q57', e57', h3', p3, r3, E3⟩ := hrec (q56 + 1) (q56' + 1) e56 e56' _ _ _ (by omega) (by omega) (by omega) (by omega) (by omega) E1 h3 (by omega)
    refine ans_bnd h3' ?_
    refine ans_ok (by omega) ?_ E3
    repeat (first | assumption | exact lks_nil | exact lk_empty | refine lk_mk (by decide) (by first | rfl | exact t2.2.1) (by first | rfl | exact lk_s (by assumption) | exact t2.2.2) ?_ | refine lks_cons ?_ ?_ | refine lk_list ?_ ?_ | exact lk_paren (by assumption) | exact hgate (by omega))
  · rename_i c4
    cases h
    obtain ⟨A46', q56', e56', h1', p1, r1, E1⟩ := hsub pos pos' ex ex' _ _ _ (by omega) (by omega) (by omega) (by omega) (by omega) hE h1 (by omega)
    refine ans_bnd h1' ?_
    refine ans_no (hw.nosg (p' := q56') (by omega) (by omega) (by omega) (by decide) c4) ?_
    refine ans_ok (by omega) ?_ E1
    repeat (first | assumption | exact lks_nil | exact lk_empty | refine lk_mk (by decide) (by first | rfl) (by first | rfl | exact lk_s (by assumption)) ?_ | refine lks_cons ?_ ?_ | refine lk_list ?_ ?_ | exact lk_paren (by assumption) | exact hgate (by omega))
theorem pBeh_s (hw : Win T T' c lo hi) {k : Nat} {sub sub' : Nat → List (Nat × Nat) → Res Nd} (wsub : ∀ pos ex, pos ≤ T.length → ex.length ≤ pos → (sub pos ex).wf T (pos + 1)) (hsub : SmF T c cx lo hi B B' 0 k (lk cx) sub sub') {rec rec' : Nat → List (Nat × Nat) → Res Nd} (wrec : ∀ pos ex, pos ≤ T.length → ex.length ≤ pos → (rec pos ex).wf T (pos + 1)) (hrec : SmF T c cx lo hi B B' 0 (k + 1) (lk cx) rec rec') : SmF T c cx lo hi B B' 0 k (lk cx) (pBeh tx T sub rec) (pBeh tx' T' sub' rec') := by
  intro pos pos' ex ex' x q e hb hl hp hx hpos hE h hq
  have hfit := hw.fit
  have hlow := hw.low
  unfold pBeh at h ⊢
  obtain ⟨A48, q58, e58, h1, h⟩ := rbnd h
  have w1 := wfe (wsub pos ex (by omega) (by omega)) h1
  split at h
  · rename_i c2
    have g2 := isT_lt c2
    split at h
    · rename_i c3
      have g3 := isT_lt c3
      obtain ⟨A49, q59, e59, h4, h⟩ := rbnd h
      have w4 := wfe (pDecls_wf tx T ((q58 + 1) + 1) e58 (by omega) (by omega)) h4
      split at h
      · rename_i c5
        have g5 := isT_lt c5
        obtain ⟨A50, q60, e60, h6, h⟩ := rbnd h
        have w6 := wfe (wrec (q59 + 1) e59 (by omega) (by omega)) h6
        cases h
        obtain ⟨A48', q58', e58', h1', p1, r1, E1⟩ := hsub pos pos' ex ex' _ _ _ (by omega) (by omega) (by omega) (by omega) (by omega) hE h1 (by omega)
        refine ans_bnd h1' ?_
        have t2 := hw.like q58 q58' (by omega) (by omega) (by omega)
        refine ans_yes (hw.sg (p' := q58') (by omega) (by omega) (by omega) c2) ?_
        have t3 := hw.like (q58 + 1) (q58' + 1) (by omega) (by omega) (by omega)
        refine ans_yes (hw.sg (p' := (q58' + 1)) (by omega) (by omega) (by omega) c3) ?_
        obtain ⟨A49', q59', e59', h4', p4, r4, E4⟩ := pDecls_s tx tx' hw ((q58 + 1) + 1) ((q58' + 1) + 1) e58 e58' _ _ _ (by omega) (by omega) (by omega) (by omega) (by omega) E1 h4 (by omega)
        refine ans_bnd h4' ?_
        have t5 := hw.like q59 q59' (by omega) (by omega) (by omega)
        refine ans_yes (hw.sg (p' := q59') (by omega) (by omega) (by omega) c5) ?_
        obtain ⟨A50', q60', e60', h6', p6, r6, E6⟩ := hrec (q59 + 1) (q59' + 1) e59 e59' _ _ _ (by omega) (by omega) (by omega) (by omega) (by omega) E4 h6 (by omega)
        refine ans_bnd h6' ?_
        refine ans_ok (by omega) ?_ E6
        repeat (first | assumption | exact lks_nil | exact lk_empty | refine lk_mk (by decide) (by first | rfl | exact t2.2.1 | exact t3.2.1 | exact t5.2.1) (by first | rfl | exact lk_s (by assumption) | exact t2.2.2 | exact t3.2.2 | exact t5.2.2) ?_ | refine lks_cons ?_ ?_ | refine lk_list ?_ ?_ | exact lk_paren (by assumption) | exact hgate (by omega))
      · rename_i c7
        cases h
    · rename_i c8
      obtain ⟨A51, q61, e61, h9, h⟩ := rbnd h
      have w9 := wfe (wrec (q58 + 1) e58 (by omega) (by omega)) h9
      cases h
      obtain ⟨A48', q58', e58', h1', p1, r1, E1⟩ := hsub pos pos' ex ex' _ _ _ (by omega) (by omega) (by omega) (by omega) (by omega) hE h1 (by omega)
      refine ans_bnd h1' ?_
      have t2 := hw.like q58 q58' (by omega) (by omega) (by omega)
      refine ans_yes (hw.sg (p' := q58') (by omega) (by omega) (by omega) c2) ?_
      refine ans_no (hw.nosg (p' := (q58' + 1)) (by omega) (by omega) (by omega) (by decide) c8) ?_
      obtain ⟨A51', q61', e61', h9', p9, r9, E9⟩ := hrec (q58 + 1) (q58' + 1) e58 e58' _ _ _ (by omega) (by omega) (by omega) (by omega) (by omega) E1 h9 (by omega)
      refine ans_bnd h9' ?_
      refine ans_ok (by omega) ?_ E9
      repeat (first | assumption | exact lks_nil | exact lk_empty | refine lk_mk (by decide) (by first | rfl | exact t2.2.1) (by first | rfl | exact lk_s (by assumption) | exact t2.2.2) ?_ | refine lks_cons ?_ ?_ | refine lk_list ?_ ?_ | exact lk_paren (by assumption) | exact hgate (by omega))
  · rename_i c10
    cases h
    obtain ⟨A48', q58', e58', h1', p1, r1, E1⟩ := hsub pos pos' ex ex' _ _ _ (by omega) (by omega) (by omega) (by omega) (by omega) hE h1 (by omega)
    refine ans_bnd h1' ?_
    refine ans_no (hw.nosg (p' := q58') (by omega) (by omega) (by omega) (by decide) c10) ?_
    refine ans_ok (by omega) ?_ E1
    repeat (first | assumption | exact lks_nil | exact lk_empty | refine lk_mk (by decide) (by first | rfl) (by first | rfl | exact lk_s (by assumption)) ?_ | refine lks_cons ?_ ?_ | refine lk_list ?_ ?_ | exact lk_paren (by assumption) | exact hgate (by omega))
end
end Go.Proofs.YtjcocblohiglbaaGreatDoor
/- Windows of tokens: behaviours, and what is solved of them. Conditions: none. -/
namespace Go.Proofs.YtjcocblohiglbaaGreatDoor
open Go.Dp
set_option linter.unusedVariables false
set_option linter.unusedSimpArgs false
section
variable {T T' : List Tk} {c cx : Int} {lo hi : Nat} {B B' : List (Nat × Nat)} (tx tx' : ByteArray)
theorem pB_s (hw : Win T T' c lo hi) : ∀ (n lv m k : Nat), lv ≤ 4 → 8 * hi + lv + 1 ≤ m + 8 * k → SmF T c cx lo hi B B' 0 k (lk cx) (pB tx T n lv) (pB tx' T' m lv)
  | 0, lv, m, k, _, _ => by
    intro pos pos' ex ex' x q e hb hl hp hx hpos hE h hq
    rw [pB] at h
    cases h
  | n + 1, lv, m, k, hv, hm => by
    intro pos pos' ex ex' x q e hb hl hp hx hpos hE h hq
    have w := (wfe (pB_wf tx T (n + 1) lv pos ex hp hx) h).1
    obtain ⟨m, rfl⟩ : ∃ j, m = j + 1 := ⟨m - 1, by omega⟩
    have wf : ∀ v, ∀ pos ex, pos ≤ T.length → ex.length ≤ pos → (pB tx T n v pos ex).wf T (pos + 1) := fun v pos ex hp hx => pB_wf tx T n v pos ex hp hx
    match lv, hv, hm, h with
    | 0, hv, hm, h =>
      rw [pB] at h ⊢
      exact pPre_s tx tx' hw (wf 0) (pB_s hw n 0 m (k + 1) (by omega) (by omega)) (wf 4) (pB_s hw n 4 m (k + 1) (by omega) (by omega)) pos pos' ex ex' x q e hb hl hp hx hpos hE h hq
    | 1, hv, hm, h =>
      rw [pB] at h ⊢
      exact pSum_s tx tx' hw (wf 0) (pB_s hw n 0 m k (by omega) (by omega)) (wf 1) (pB_s hw n 1 m (k + 1) (by omega) (by omega)) pos pos' ex ex' x q e hb hl hp hx hpos hE h hq
    | 2, hv, hm, h =>
      rw [pB] at h ⊢
      exact pParts_s tx tx' hw (wf 1) (pB_s hw n 1 m k (by omega) (by omega)) (wf 2) (pB_s hw n 2 m (k + 1) (by omega) (by omega)) pos pos' ex ex' x q e hb hl hp hx hpos hE h hq
    | 3, hv, hm, h =>
      rw [pB] at h ⊢
      exact pDis_s tx tx' hw (wf 2) (pB_s hw n 2 m k (by omega) (by omega)) (wf 3) (pB_s hw n 3 m (k + 1) (by omega) (by omega)) pos pos' ex ex' x q e hb hl hp hx hpos hE h hq
    | 4, hv, hm, h =>
      rw [pB] at h ⊢
      exact pBeh_s tx tx' hw (wf 3) (pB_s hw n 3 m k (by omega) (by omega)) (wf 4) (pB_s hw n 4 m (k + 1) (by omega) (by omega)) pos pos' ex ex' x q e hb hl hp hx hpos hE h hq
end
/-! #### What is solved -/
/-- Extents, and what they come to. -/
inductive Slvs (T : List Tk) (A F : List (ByteArray × Mx)) : List (Nat × Nat) → List Nd → Prop
  | nil : Slvs T A F [] []
  | cons (x : Nat × Nat) (l : List (Nat × Nat)) (v : Nd) (vs : List Nd) (z : Nat) (h : sSolve T A F x = .ok v z) (hs : Slvs T A F l vs) : Slvs T A F (x :: l) (v :: vs)
section
variable {T T' : List Tk} {A F : List (ByteArray × Mx)}
theorem solveL_slvs : ∀ {e : List (Nat × Nat)} {acc es : List Nd} {z : Nat}, solveL T A F e acc = .ok es z → ∃ vs, es = acc ++ vs ∧ Slvs T A F e vs
  | [], acc, es, z, h => by rw [solveL] at h; cases h; exact ⟨[], by simp, .nil⟩
  | x :: l, acc, es, z, h => by
    rw [solveL] at h
    obtain ⟨v, z0, h0, h⟩ := sbnd_ok h
    obtain ⟨vs, rfl, hs⟩ := solveL_slvs h
    exact ⟨v :: vs, by simp, .cons _ _ _ _ _ h0 hs⟩
theorem slvs_solveL : ∀ {e : List (Nat × Nat)} {vs : List Nd} (acc : List Nd), Slvs T A F e vs → ∃ z, solveL T A F e acc = .ok (acc ++ vs) z
  | [], _, acc, .nil => ⟨0, by rw [solveL, List.append_nil]⟩
  | x :: l, _, acc, .cons _ _ v vs z h hs => by
    obtain ⟨z', h'⟩ := slvs_solveL (acc ++ [v]) hs
    refine ⟨z', ?_⟩
    rw [solveL, h]
    dsimp only [SRes.bnd]
    rw [h', List.append_assoc]
    rfl
theorem Slvs.len {e : List (Nat × Nat)} {vs : List Nd} (h : Slvs T A F e vs) : vs.length = e.length := by
  induction h with
  | nil => rfl
  | cons x l v vs z h hs ih => simp [ih]
theorem Slvs.append {e e2 : List (Nat × Nat)} {vs vs2 : List Nd} (h : Slvs T A F e vs) (h2 : Slvs T A F e2 vs2) : Slvs T A F (e ++ e2) (vs ++ vs2) := by
  induction h with
  | nil => exact h2
  | cons x l v vs z h hs ih => exact .cons _ _ _ _ z h ih
theorem Slvs.split {e2 : List (Nat × Nat)} : ∀ {e : List (Nat × Nat)} {vs : List Nd}, Slvs T A F (e ++ e2) vs → ∃ v1 v2, vs = v1 ++ v2 ∧ Slvs T A F e v1 ∧ Slvs T A F e2 v2
  | [], vs, h => ⟨[], vs, rfl, .nil, h⟩
  | x :: e, _, .cons _ _ v vs z h hs => by
    obtain ⟨v1, v2, rfl, h1, h2⟩ := Slvs.split hs
    exact ⟨v :: v1, v2, rfl, .cons _ _ _ _ z h h1, h2⟩
theorem ExR.fore {c cx : Int} {lo hi : Nat} {B B' e e' : List (Nat × Nat)} (h : ExR c cx lo hi B B' e e') : ∃ l l', e = B ++ l ∧ e' = B' ++ l' := by
  induction h with
  | base h => exact ⟨[], [], by simp, by simp⟩
  | snoc e e' p q p' q' h hp hq hl hh ih =>
    obtain ⟨l, l', h1, h2⟩ := ih
    exact ⟨l ++ [(p, q)], l' ++ [(p', q')], by rw [h1, List.append_assoc], by rw [h2, List.append_assoc]⟩
theorem ExR.root {c cx : Int} {lo hi : Nat} {B B' e e' : List (Nat × Nat)} (h : ExR c cx lo hi B B' e e') : (B'.length : Int) = B.length + cx := by
  induction h with
  | base h => exact h
  | snoc e e' p q p' q' h hp hq hl hh ih => exact ih
/-- What is solved on one side is solved on the other. -/
theorem exr_slvs {c cx : Int} {lo hi : Nat} (hw : Win T T' c lo hi) {B B' e e' : List (Nat × Nat)} (hE : ExR c cx lo hi B B' e e') {vB' : List Nd} (hB' : Slvs T' A F B' vB') : ∀ {vs : List Nd}, Slvs T A F e vs →
    ∃ vs', Slvs T' A F e' vs' ∧ (∃ r, vs' = vB' ++ r) ∧ ∀ i, B.length ≤ i → i < e.length → same (vs.getD i default) (vs'.getD ((i : Int) + cx).toNat default) = true := by
  induction hE with
  | base h => intro vs hv; exact ⟨vB', hB', ⟨[], by simp⟩, fun i h1 h2 => absurd h1 (by omega)⟩
  | snoc e e' p q p' q' h hp hq hl hh ih =>
    intro vs hv
    obtain ⟨v1, v2, rfl, h1, h2⟩ := hv.split
    obtain ⟨vs', g1, ⟨r, g2⟩, g3⟩ := ih h1
    cases h2 with
    | cons _ _ v w z h0 hs =>
      cases hs
      obtain ⟨v', k1, k2⟩ := solve_s hw hp hq hl hh h0
      refine ⟨vs' ++ [v'], g1.append (.cons _ _ _ _ _ k1 .nil), ⟨r ++ [v'], by rw [g2, List.append_assoc]⟩, fun i i1 i2 => ?_⟩
      have l1 := h1.len
      have l2 := g1.len
      have l3 := h.len
      have l4 := h.root
      simp only [List.length_append, List.length_cons, List.length_nil] at i2
      have e1 : ∀ (l : List Nd) (x : Nd) (j : Nat), j < l.length → (l ++ [x]).getD j default = l.getD j default := fun l x j hj => by
        simp only [List.getD_eq_getElem?_getD, List.getElem?_append_left hj]
      have e2 : ∀ (l : List Nd) (x : Nd) (j : Nat), j = l.length → (l ++ [x]).getD j default = x := fun l x j hj => by
        subst hj
        simp only [List.getD_eq_getElem?_getD, List.getElem?_append_right (Nat.le_refl _), Nat.sub_self]
        rfl
      by_cases hi' : i < e.length
      · rw [e1 _ _ _ (by omega), e1 _ _ _ (by omega)]
        exact g3 i i1 hi'
      · rw [e2 _ _ _ (by omega), e2 _ _ _ (by omega)]
        exact k2
end
mutual
/-- Trees filled alike are alike. -/
theorem fill_s {cx : Int} {es es' : List Nd} {m m' : Nat} (hes : ∀ i : Nat, i < m → 0 ≤ (i : Int) + cx → (i : Int) + cx < m' → same (es.getD i default) (es'.getD ((i : Int) + cx).toNat default) = true) : ∀ (x y : Nd), lk cx x y → Pend m x → Pend m' y → same (fill es x) (fill es' y) = true
  | .mk k n s l b e, .mk k' n' s' l' b' e', h, hp, hp' => by
    rw [lk] at h
    rw [Pend] at hp hp'
    obtain ⟨rfl, rfl, h1, h2⟩ := h
    rw [fill, fill]
    by_cases hk : k = -1
    · rw [if_pos hk] at h1 ⊢
      rw [if_pos hk]
      have a := hp.1 hk
      have b := hp'.1 hk
      have := hes n.toNat (by omega) (by omega) (by omega)
      rw [show ((n.toNat : Nat) : Int) + cx = n' by omega] at this
      exact this
    · rw [if_neg hk] at h1 ⊢
      rw [if_neg hk, h1, same, fills_s hes l l' h2 hp.2 hp'.2]
      simp
theorem fills_s {cx : Int} {es es' : List Nd} {m m' : Nat} (hes : ∀ i : Nat, i < m → 0 ≤ (i : Int) + cx → (i : Int) + cx < m' → same (es.getD i default) (es'.getD ((i : Int) + cx).toNat default) = true) : ∀ (l l' : List Nd), lks cx l l' → Pends m l → Pends m' l' → sames (fills es l) (fills es' l') = true
  | [], [], _, _, _ => rfl
  | x :: l, y :: l', h, hp, hp' => by
    rw [lks] at h
    rw [Pends] at hp hp'
    rw [fills, fills, sames, fill_s hes x y h.1 hp.1 hp'.1, fills_s hes l l' h.2 hp.2 hp'.2]
    rfl
  | [], _ :: _, h, _, _ => by rw [lks] at h; exact h.elim
  | _ :: _, [], h, _, _ => by rw [lks] at h; exact h.elim
end
mutual
theorem same_cnt : ∀ (x y : Nd), same x y = true → cnt x = cnt y ∧ dep x = dep y
  | .mk k n s l b e, .mk k' n' s' l' b' e', h => by
    rw [same, Bool.and_eq_true] at h
    obtain ⟨h1, h2⟩ := sames_cnt l l' h.2
    rw [cnt, cnt, dep, dep, h1, h2]
    exact ⟨rfl, rfl⟩
theorem sames_cnt : ∀ (l l' : List Nd), sames l l' = true → cnts l = cnts l' ∧ deps l = deps l'
  | [], [], _ => ⟨rfl, rfl⟩
  | x :: l, y :: l', h => by
    rw [sames, Bool.and_eq_true] at h
    obtain ⟨h1, h2⟩ := same_cnt x y h.1
    obtain ⟨h3, h4⟩ := sames_cnt l l' h.2
    rw [cnts, cnts, deps, deps, h1, h2, h3, h4]
    exact ⟨rfl, rfl⟩
  | [], _ :: _, h => by rw [sames] at h; cases h
  | _ :: _, [], h => by rw [sames] at h; cases h
end
end Go.Proofs.YtjcocblohiglbaaGreatDoor
