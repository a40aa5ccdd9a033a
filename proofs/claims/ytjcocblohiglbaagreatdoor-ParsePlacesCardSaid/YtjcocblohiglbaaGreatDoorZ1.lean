/- A piece of a text that was read as a behaviour in it: read by itself it is the same. Conditions: none. -/
import Derived.Test.YtjcocblohiglbaaGreatDoorQ1
import Derived.Test.YtjcocblohiglbaaGreatDoorMA
namespace Go.Proofs.YtjcocblohiglbaaGreatDoor
open Go.Dp
set_option linter.unusedVariables false
set_option linter.unusedSimpArgs false
/-- What a level read is what the whole rule reads of the piece. -/
theorem beh_piece {ops : List Mx} {tx tx' : ByteArray} {T T' : List Tk} {pos q m lv : Nat} {x : Nd} {ex e : List (Nat × Nat)} {vs : List Nd} (hlx : lxP tx' = (T', 0, 0)) (hw : Win T T' (-(pos : Int)) pos q) (hl : T'.length = q - pos) (hlv : lv ≤ 4) (hp : pos ≤ T.length) (hx : ex.length ≤ pos) (hX : ExOk T ex) (h : pB tx T m lv pos ex = .ok x q e)
    (hs : Slvs T (tabM true ops) (tabM false ops) e vs) (hap : apartM kdP ops = true) (hc : cnt (fill vs x) ≤ 60000) (hd : dep (fill vs x) ≤ 400) : ∃ n, givenP lxP pBehaviour kdP ops tx' = ⟨n, 0, 0⟩ ∧ same (fill vs x) n = true := by
  have w := wfe (pB_wf tx T m lv pos ex hp hx) h
  have hi := pB_inv tx T m lv hlv pos ex hX
  rw [h] at hi
  obtain ⟨x', q', e', hb', hq', hR, hE⟩ := pB_s (cx := -(ex.length : Int)) (B := ex) (B' := []) tx tx' hw m lv (8 * T'.length + 8 - (4 - lv)) pos hlv (by omega) pos 0 ex [] x q e (Nat.le_refl _) (Nat.le_refl _) hp hx (by omega) (.base (by simp only [List.length_nil]; omega)) h (Nat.le_refl _)
  obtain rfl : q' = T'.length := by omega
  have hi' := pB_inv tx' T' (8 * T'.length + 8 - (4 - lv)) lv hlv 0 [] (fun x hx => by cases hx)
  rw [hb'] at hi'
  have h4 := lift_up (lv := lv) (by rw [tokAt_end (Nat.le_refl _)]; exact dull_no) hlv hb'
  rw [show 8 * T'.length + 8 - (4 - lv) + (4 - lv) = 8 * T'.length + 8 by omega] at h4
  obtain ⟨vs', hv', -, hsm⟩ := exr_slvs hw hE .nil hs
  have hsame := fill_s (cx := -(ex.length : Int)) (es := vs) (es' := vs') (m := e.length) (m' := e'.length) (fun i h1 h2 _ => hsm i (by omega) h1) x x' hR hi.2.2.1 hi'.2.2.1
  have hcd := same_cnt _ _ hsame
  refine ⟨_, given_of (tx := tx') (rule := pBehaviour) hap (by rw [hlx]) (by rw [hlx]; unfold pBehaviour; exact h4) (by rw [hlx]; exact Nat.le_refl _) (by rw [hlx]; exact hv') (by rw [← hcd.1]; exact hc) (by rw [← hcd.2]; exact hd), hsame⟩
end Go.Proofs.YtjcocblohiglbaaGreatDoor
/- A piece of a text from a token's begin to a token's end: its tokens. No program in sight. Conditions: none. -/
namespace Go.Proofs.YtjcocblohiglbaaGreatDoor.Lex
set_option linter.unusedVariables false
set_option linter.unusedSimpArgs false
theorem Runs.parts {l : Bytes} {p : Nat} {ts : List Tok} {cs : List (Nat × Nat)} {l' : Bytes} {p' : Nat} (h : Runs l p ts cs l' p') : ∀ (t : Tok) (ts' : List Tok), ts = t :: ts' →
    ∃ cs1 cs2 k, p ≤ t.b ∧ Runs l p [] cs1 (l.drop (t.b - p)) t.b ∧ step (l.drop (t.b - p)) = .tok t.kind t.n t.s k ∧ t.e = t.b + k ∧ Runs (l.drop (t.e - p)) t.e ts' cs2 l' p' ∧ cs = cs1 ++ cs2 := by
  induction h with
  | nil l p => intro t ts' e; cases e
  | @skip l p ts cs l' p' h r ih =>
    intro t ts' e
    obtain ⟨cs1, cs2, k, h1, h2, h3, h4, h5, h6⟩ := ih t ts' e
    have hk := step_tok h3
    rw [List.drop_drop, show 1 + (t.b - (p + 1)) = t.b - p by omega] at h2 h3
    rw [List.drop_drop, show 1 + (t.e - (p + 1)) = t.e - p by omega] at h5
    exact ⟨cs1, cs2, k, by omega, .skip h h2, h3, h4, h5, h6⟩
  | @comm l p ts cs l' p' k0 h r ih =>
    intro t ts' e
    obtain ⟨cs1, cs2, k, h1, h2, h3, h4, h5, h6⟩ := ih t ts' e
    rw [List.drop_drop, show k0 + (t.b - (p + k0)) = t.b - p by omega] at h2 h3
    rw [List.drop_drop, show k0 + (t.e - (p + k0)) = t.e - p by omega] at h5
    exact ⟨(p, p + k0) :: cs1, cs2, k, by omega, .comm h h2, h3, h4, h5, by rw [h6]; rfl⟩
  | @tok l p ts cs l' p' kd n s k0 h r ih =>
    intro t ts' e
    injection e with e1 e2
    subst e1 e2
    have e3 : p - p = 0 := by omega
    have e4 : p + k0 - p = k0 := by omega
    refine ⟨[], cs, k0, Nat.le_refl _, ?_, ?_, rfl, ?_, rfl⟩
    · show Runs l p [] [] (l.drop (p - p)) p
      rw [e3, List.drop_zero]
      exact .nil _ _
    · show step (l.drop (p - p)) = _
      rw [e3, List.drop_zero]
      exact h
    · show Runs (l.drop (p + k0 - p)) (p + k0) ts cs l' p'
      rw [e4]
      exact r
theorem Runs.from : ∀ (i : Nat) {l : Bytes} {p : Nat} {ts : List Tok} {cs : List (Nat × Nat)} {l' : Bytes} {p' : Nat}, Runs l p ts cs l' p' → ∀ t, ts[i]? = some t → ∃ cs2, p ≤ t.b ∧ Runs (l.drop (t.b - p)) t.b (ts.drop i) cs2 l' p'
  | i, l, p, [], cs, l', p', h, t, ht => by simp at ht
  | 0, l, p, t0 :: ts, cs, l', p', h, t, ht => by
    obtain rfl : t0 = t := by simpa using ht
    obtain ⟨cs1, cs2, k, h1, h2, h3, h4, h5, h6⟩ := h.parts t0 ts rfl
    have hk := step_tok h3
    have e2 : (l.drop (t0.b - p)).drop k = l.drop (t0.e - p) := by rw [List.drop_drop, show t0.b - p + k = t0.e - p by omega]
    have r : Runs (l.drop (t0.b - p)) t0.b (⟨t0.kind, t0.n, t0.s, t0.b, t0.b + k⟩ :: ts) cs2 l' p' := .tok h3 (by rw [e2, ← h4]; exact h5)
    rw [← h4] at r
    exact ⟨cs2, h1, r⟩
  | i + 1, l, p, t0 :: ts, cs, l', p', h, t, ht => by
    obtain ⟨cs1, cs2, k, h1, h2, h3, h4, h5, h6⟩ := h.parts t0 ts rfl
    obtain ⟨c, g1, g2⟩ := Runs.from i h5 t (by simpa using ht)
    rw [List.drop_drop, show t0.e - p + (t.b - t0.e) = t.b - p by omega] at g2
    exact ⟨c, by omega, g2⟩
theorem Runs.upto : ∀ (j : Nat) {l : Bytes} {p : Nat} {ts : List Tok} {cs : List (Nat × Nat)} {l' : Bytes} {p' : Nat}, Runs l p ts cs l' p' → ∀ t, ts[j]? = some t → ∃ cs1, p ≤ t.e ∧ Runs l p (ts.take (j + 1)) cs1 (l.drop (t.e - p)) t.e
  | j, l, p, [], cs, l', p', h, t, ht => by simp at ht
  | 0, l, p, t0 :: ts, cs, l', p', h, t, ht => by
    obtain rfl : t0 = t := by simpa using ht
    obtain ⟨cs1, cs2, k, h1, h2, h3, h4, h5, h6⟩ := h.parts t0 ts rfl
    have e2 : (l.drop (t0.b - p)).drop k = l.drop (t0.e - p) := by rw [List.drop_drop, show t0.b - p + k = t0.e - p by omega]
    have r : Runs (l.drop (t0.b - p)) t0.b [⟨t0.kind, t0.n, t0.s, t0.b, t0.b + k⟩] [] (l.drop (t0.e - p)) t0.e := .tok h3 (by rw [e2, ← h4]; exact .nil _ _)
    rw [← h4] at r
    exact ⟨_, by omega, h2.trans r⟩
  | j + 1, l, p, t0 :: ts, cs, l', p', h, t, ht => by
    obtain ⟨cs1, cs2, k, h1, h2, h3, h4, h5, h6⟩ := h.parts t0 ts rfl
    obtain ⟨c, g1, g2⟩ := Runs.upto j h5 t (by simpa using ht)
    have e2 : (l.drop (t0.b - p)).drop k = l.drop (t0.e - p) := by rw [List.drop_drop, show t0.b - p + k = t0.e - p by omega]
    rw [List.drop_drop, show t0.e - p + (t.e - t0.e) = t.e - p by omega] at g2
    have r : Runs (l.drop (t0.b - p)) t0.b (⟨t0.kind, t0.n, t0.s, t0.b, t0.b + k⟩ :: ts.take (j + 1)) c (l.drop (t.e - p)) t.e := .tok h3 (by rw [e2, ← h4]; exact g2)
    rw [← h4] at r
    exact ⟨_, by omega, h2.trans r⟩
def key (t : Tok) : Int × Int × Bytes := (t.kind, t.n, t.s)
theorem Runs.move {l : Bytes} {p : Nat} {ts : List Tok} {cs : List (Nat × Nat)} {l' : Bytes} {p' : Nat} (h : Runs l p ts cs l' p') : ∀ q, ∃ us cs' q', Runs l q us cs' l' q' ∧ us.map key = ts.map key := by
  induction h with
  | nil l p => exact fun q => ⟨[], [], q, .nil _ _, rfl⟩
  | skip h r ih =>
    intro q
    obtain ⟨us, cs', q', h1, h2⟩ := ih (q + 1)
    exact ⟨us, cs', q', .skip h h1, h2⟩
  | @comm l p ts cs l' p' k h r ih =>
    intro q
    obtain ⟨us, cs', q', h1, h2⟩ := ih (q + k)
    exact ⟨us, _, q', .comm h h1, h2⟩
  | @tok l p ts cs l' p' kd n s k h r ih =>
    intro q
    obtain ⟨us, cs', q', h1, h2⟩ := ih (q + k)
    exact ⟨_, cs', q', .tok h h1, by rw [List.map_cons, List.map_cons, h2]; rfl⟩
/-- A PIECE'S TOKENS. -/
theorem cut_piece {l : Bytes} {ts : List Tok} {cs : List (Nat × Nat)} (h : cutL l = .done ts cs) {i j : Nat} {t u : Tok} (hi : ts[i]? = some t) (hj : ts[j]? = some u) (hij : i ≤ j) : ∃ us cs', t.b ≤ u.e ∧ cutL ((l.drop t.b).take (u.e - t.b)) = .done us cs' ∧ us.map key = ((ts.drop i).take (j - i + 1)).map key := by
  obtain ⟨c1, h1, h2⟩ := (cut_done h).from i t hi
  obtain ⟨c2, h3, h4⟩ := h2.upto (j - i) u (by rw [List.getElem?_drop, show i + (j - i) = j by omega]; exact hj)
  obtain ⟨us, cs', q', h5, h6⟩ := (h4.cut (u.e - t.b) (by omega)).move 0
  rw [Nat.sub_zero] at h5
  exact ⟨us, cs', h3, cut_of_done h5, h6⟩
end Go.Proofs.YtjcocblohiglbaaGreatDoor.Lex
/- A piece's tokens as a window of the whole text's. Conditions: none. -/
namespace Go.Proofs.YtjcocblohiglbaaGreatDoor
open Go.Dp
set_option linter.unusedVariables false
set_option linter.unusedSimpArgs false
theorem key_like {a b : Lex.Tok} (h : Lex.key a = Lex.key b) : LikeT (toTk a) (toTk b) := by
  unfold Lex.key at h
  injection h with h1 h2
  injection h2 with h2 h3
  exact ⟨h1, h2, congrArg (fun s : Lex.Bytes => (⟨s.toArray⟩ : ByteArray)) h3⟩
theorem piece_win {ts us : List Lex.Tok} {i n : Nat} (h : us.map Lex.key = ((ts.drop i).take n).map Lex.key) (hn : i + n ≤ ts.length) : (us.map toTk).length = n ∧ Win (ts.map toTk) (us.map toTk) (-(i : Int)) i (i + n) := by
  have hl := congrArg List.length h
  simp only [List.length_map, List.length_take, List.length_drop] at hl
  have hu : us.length = n := by omega
  refine ⟨by rw [List.length_map, hu], fun p p' h1 h2 h3 => ?_, fun p' h3 => ?_, by rw [List.length_map]; omega, by omega⟩
  · obtain rfl : p = i + p' := by omega
    have hk := congrArg (fun l => l[p']?) h
    simp only [List.getElem?_map, List.getElem?_take, List.getElem?_drop] at hk
    rw [if_pos (by omega)] at hk
    have a1 : i + p' < ts.length := by omega
    have a2 : p' < us.length := by omega
    simp only [tokAt, List.getD_eq_getElem?_getD, List.getElem?_map]
    rw [List.getElem?_eq_getElem a1, List.getElem?_eq_getElem a2] at hk ⊢
    simp only [Option.map_some, Option.some.injEq] at hk
    exact key_like hk.symm
  · obtain rfl : p' = n := by omega
    rw [tokAt_end (by rw [List.length_map]; omega)]
    exact dull_no
end Go.Proofs.YtjcocblohiglbaaGreatDoor
/- What is solved at a level, and ends dull, is solved at the lowest level alike. Conditions: none. -/
namespace Go.Proofs.YtjcocblohiglbaaGreatDoor
open Go.Dp
set_option linter.unusedVariables false
set_option linter.unusedSimpArgs false
section
variable {T : List Tk} {last : Nat} {A F : List (ByteArray × Mx)} {up : Int → Nat → SRes (Nd × Int)}
theorem sFirst_zero {n : Int} (hn : 0 ≤ n) {pos : Nat} {r : Nd × Int} {q : Nat} (h : sFirst T last F up n pos = .ok r q) : sFirst T last F up 0 pos = .ok r q := by
  rw [sFirst] at h ⊢
  split at h
  · rename_i c; rw [if_pos c]; exact h
  · rename_i c
    rw [if_neg c]
    split at h
    · rename_i c; rw [if_pos c]; exact h
    · rename_i c
      rw [if_neg c]
      split at h
      · rename_i c
        rw [if_pos c]
        split at h
        · rename_i op ho
          split at h
          · cases h
          · rename_i hs
            rw [if_neg (by omega)]
            exact h
        · exact h
      · cases h
theorem sUpL_zero {n : Int} (hn : 0 ≤ n) : ∀ (k : Nat) (x : Nd) (prio : Int) (pos : Nat) (r : Nd × Int) (q : Nat), sUpL T last A up n k x prio pos = .ok r q → Dull (nxt T last q) → sUpL T last A up 0 k x prio pos = .ok r q
  | 0, x, prio, pos, r, q, h, hd => by rw [sUpL] at h; cases h
  | k + 1, x, prio, pos, r, q, h, hd => by
    rw [sUpL] at h
    split at h
    · rename_i c
      rw [sUpL, if_pos c]
      split at h
      · rename_i c; rw [if_pos c]; exact sUpL_zero hn k _ _ _ _ _ h hd
      · cases h
    · rename_i c
      split at h
      · rename_i op ho
        split at h
        · rename_i c2
          rw [sUpL, if_neg c, ho]
          dsimp only
          rw [if_pos ⟨c2.1, by omega, c2.2.2⟩]
          obtain ⟨y, q0, h1, h2⟩ := sbnd_ok h
          rw [h1]
          exact sUpL_zero hn k _ _ _ _ _ h2 hd
        · cases h
          exact sUpL_stop hd
      · cases h
        exact sUpL_stop hd
theorem sUp_zero {n : Int} (hn : 0 ≤ n) (f : Nat) (pos : Nat) (r : Nd × Int) (q : Nat) (h : sUp T last A F f n pos = .ok r q) (hd : Dull (nxt T last q)) : sUp T last A F f 0 pos = .ok r q := by
  cases f with
  | zero => rw [sUp] at h; cases h
  | succ f =>
    rw [sUp, sUpTo] at h ⊢
    obtain ⟨y, q0, h1, h2⟩ := sbnd_ok h
    rw [sFirst_zero hn h1]
    exact sUpL_zero hn _ _ _ _ _ _ h2 hd
end
end Go.Proofs.YtjcocblohiglbaaGreatDoor
/- A piece of an expression that was read at some level, solved by itself. Conditions: none. -/
namespace Go.Proofs.YtjcocblohiglbaaGreatDoor
open Go.Dp
set_option linter.unusedVariables false
set_option linter.unusedSimpArgs false
theorem first_opens {T : List Tk} {last : Nat} {F : List (ByteArray × Mx)} {up : Int → Nat → SRes (Nd × Int)} {n : Int} {pos : Nat} {r : Nd × Int} {q : Nat} (h : sFirst T last F up n pos = .ok r q) : opensT (nxt T last pos) = true := by
  rw [sFirst] at h
  split at h
  · rename_i c
    simp [opensT, c]
  · split at h
    · rename_i c
      simp [opensT, c]
    · split at h
      · rename_i c
        simp [opensT, c]
      · cases h
/-- A piece that is solved whole is an expression. -/
theorem expr_piece {ops : List Mx} {tx' : ByteArray} {T' : List Tk} {m : Nd} (hlx : lxP tx' = (T', 0, 0)) (hs : sSolve T' (tabM true ops) (tabM false ops) (0, T'.length) = .ok m T'.length) (hap : apartM kdP ops = true) (hc : cnt m ≤ 60000) (hd : dep m ≤ 400) : givenP lxP pExpr kdP ops tx' = ⟨m, 0, 0⟩ := by
  have hb := (solve_bal hs 0).2.2
  have hpos := (solve_bal hs 0).2.1
  have ho : opensT (tokAt T' 0) = true := by
    have h := hs
    rw [sSolve] at h
    dsimp only at h
    obtain ⟨x, q0, h1, -⟩ := sbnd_ok h
    rw [sUp, sUpTo] at h1
    obtain ⟨y, q1, h2, -⟩ := sbnd_ok h1
    have := first_opens h2
    rw [nxt, if_pos (by omega)] at this
    exact this
  have hrun : runD T' T'.length 0 0 = some 0 := hb.2
  have hE : exprEnd T' (T'.length + 1) 0 0 = T'.length := by
    have := exprEnd_of (T := T') T'.length (T'.length + 1) 0 0 0 (by omega) hrun (by rw [Nat.zero_add, tokAt_end (Nat.le_refl _)]; exact dull_no.step)
    omega
  have hr : pExpr tx' T' 0 [] = .ok (.mk (-1) 0 ⟨#[]⟩ [] (here tx' T' 0) (max (here tx' T' 0 : Int) (behind T' T'.length))) T'.length [(0, T'.length)] := by
    unfold pExpr
    rw [hE, if_pos ho]
    rfl
  have hfl : fill [m] (.mk (-1) 0 ⟨#[]⟩ [] (here tx' T' 0) (max (here tx' T' 0 : Int) (behind T' T'.length))) = m := by rw [fill, if_pos rfl]; rfl
  have := given_of (tx := tx') (rule := pExpr) hap (by rw [hlx]) (by rw [hlx]; exact hr) (by rw [hlx]; exact Nat.le_refl _) (es := [m]) (by rw [hlx]; exact .cons _ _ _ _ _ hs .nil) (by rw [hfl]; exact hc) (by rw [hfl]; exact hd)
  rw [hfl] at this
  exact this
end Go.Proofs.YtjcocblohiglbaaGreatDoor
/- States of the loop of solving: what is read so far is solved alike as a piece by itself. Conditions: none. -/
namespace Go.Proofs.YtjcocblohiglbaaGreatDoor
open Go.Dp
set_option linter.unusedVariables false
set_option linter.unusedSimpArgs false
/-- What the loop has read when it stands at q. -/
inductive Way (T : List Tk) (last : Nat) (A F : List (ByteArray × Mx)) (up : Int → Nat → SRes (Nd × Int)) (n : Int) (pos : Nat) : Nd → Int → Nat → Prop
  | first (x : Nd × Int) (q : Nat) (h : sFirst T last F up n pos = .ok x q) : Way T last A F up n pos x.1 x.2 q
  | of (x : Nd) (p : Int) (q : Nat) (h : Way T last A F up n pos x p q) (h1 : isT (nxt T last q) ⟨#[111, 102]⟩ = true) (h2 : (nxt T last (q + 1)).kind = 1) : Way T last A F up n pos (.mk 51 0 (nxt T last (q + 1)).s [x] x.b (nxt T last (q + 1)).e) 10 (q + 2)
  | op (x : Nd) (p : Int) (q : Nat) (o : Mx) (y : Nd) (q' : Nat) (h : Way T last A F up n pos x p q) (h1 : ¬ isT (nxt T last q) ⟨#[111, 102]⟩ = true) (h2 : look A (nxt T last q).s = some o) (h3 : partT (nxt T last q) = true ∧ ¬ o.prio < n ∧ ¬ p < o.prio ∧ ¬ (p = o.prio ∧ ¬ o.side = 1)) (h4 : sRest T last up o [x] x.b (q + 1) = .ok y q') : Way T last A F up n pos y o.prio q'
section
variable {T T' : List Tk} {last last' : Nat} {A F : List (ByteArray × Mx)} {c : Int} {hi K : Nat} {up up' : Int → Nat → SRes (Nd × Int)} {n : Int} {pos : Nat}
theorem Way.gt (hu : UpW T up) {x : Nd} {p : Int} {q : Nat} (h : Way T last A F up n pos x p q) : pos < q := by
  induction h with
  | first x q h => have := (sFirst_w hu h 0).1; omega
  | of x p q h h1 h2 ih => omega
  | op x p q o y q' h h1 h2 h3 h4 ih => have := (sRest_w hu h4 0).1; omega
/-- In a window that ends where the loop stands, the loop comes to the same. -/
theorem Way.sm (hu : UpW T up) {x : Nd} {p : Int} {q : Nat} (h : Way T last A F up n pos x p q) : ∀ {pos' : Nat}, NWin T T' last last' c pos hi → UpS c pos hi K up up' → (pos' : Int) = pos + c → hi < pos + 1 + K → q ≤ hi →
    ∃ (x0 : Nd) (p0 : Int) (q0 : Nat) (x' : Nd) (q' j : Nat), sFirst T' last' F up' n pos' = .ok (x0, p0) q0 ∧ (q' : Int) = q + c ∧ same x x' = true ∧ j + q0 ≤ q' ∧ ∀ k : Nat, sUpL T' last' A up' n (k + j) x0 p0 q0 = sUpL T' last' A up' n k x' p q' := by
  induction h with
  | first x q h =>
    intro pos' hw hs hp hK hq
    obtain ⟨x', q', h1, h2, h3, h4⟩ := sFirst_s hw hu hs (Nat.le_refl _) hp hK h hq
    exact ⟨x'.1, x'.2, q', x'.1, q', 0, h1, h2, h3, by omega, fun k => by rw [h4]; rfl⟩
  | of x p q h h1 h2 ih =>
    intro pos' hw hs hp hK hq
    obtain ⟨x0, p0, q0, x', q', j, a1, a2, a3, a4, a5⟩ := ih hw hs hp hK (by omega)
    have hg := h.gt hu
    have hk := hw.like (q + 1) (q' + 1) (by omega) (by omega) (by omega)
    refine ⟨x0, p0, q0, .mk 51 0 (nxt T' last' (q' + 1)).s [x'] x'.b (nxt T' last' (q' + 1)).e, q' + 2, j + 1, a1, by omega, ?_, by omega, fun k => ?_⟩
    · rw [← hk.2.2]
      exact same_mk (sames_one a3)
    · rw [show k + (j + 1) = (k + 1) + j by omega, a5, sUpL, if_pos (hw.sg (by omega) (by omega) a2 h1), if_pos (by rw [← hk.1]; exact h2)]
  | op x p q o y q1 h h1 h2 h3 h4 ih =>
    intro pos' hw hs hp hK hq
    have w := (sRest_w hu h4 0).1
    obtain ⟨x0, p0, q0, x', q', j, a1, a2, a3, a4, a5⟩ := ih hw hs hp hK (by omega)
    have hg := h.gt hu
    have hk := hw.like q q' (by omega) (by omega) a2
    obtain ⟨y', q1', b1, b2, b3⟩ := sRest_s hw hu hs (a0' := x'.b) (l' := [x']) (pos' := q' + 1) (by omega) (by omega) (by omega) (sames_one a3) h4 hq
    refine ⟨x0, p0, q0, y', q1', j + 1, a1, b2, b3, by omega, fun k => ?_⟩
    rw [show k + (j + 1) = (k + 1) + j by omega, a5, sUpL, if_neg (by rw [← hk.sg]; exact h1), ← hk.2.2, h2]
    dsimp only
    rw [if_pos (by rw [← hk.part]; exact h3), b1]
    rfl
end
/-- A STATE OF THE LOOP, solved by itself. -/
theorem way_solve {T T' : List Tk} {last pos q f : Nat} {n p : Int} {A F : List (ByteArray × Mx)} {x : Nd} (hw : Win T T' (-(pos : Int)) pos q) (hq : q ≤ last) (hl : T'.length = q - pos) (hn : 0 ≤ n) (h : Way T last A F (sUp T last A F f) n pos x p q) : ∃ m, sSolve T' A F (0, T'.length) = .ok m T'.length ∧ same x m = true := by
  have hg := h.gt (sUp_w f)
  have nw : NWin T T' last T'.length (-(pos : Int)) pos q := ⟨fun i i' h1 h2 h3 => by
      rw [nxt, if_pos (by omega), nxt, if_pos (by omega)]
      exact hw.like i i' h1 h2 h3, fun i' h3 => by
      rw [nxt, if_neg (by omega)]
      exact dull_no, by omega⟩
  obtain ⟨x0, p0, q0, x', q', j, a1, a2, a3, a4, a5⟩ := h.sm (pos' := 0) (sUp_w f) nw (sUp_s nw f T'.length) (by omega) (by omega) (Nat.le_refl _)
  obtain rfl : q' = T'.length := by omega
  have hd : Dull (nxt T' T'.length T'.length) := by rw [nxt, if_neg (by omega)]; exact dull_no
  have h1 : sUp T' T'.length A F (T'.length + 1) n 0 = .ok (x', p) T'.length := by
    rw [sUp, sUpTo, a1]
    dsimp only [SRes.bnd]
    rw [show T'.length + 1 = (T'.length - j + 1) + j by omega, a5]
    exact sUpL_stop hd
  have h2 := sUp_zero hn _ _ _ _ h1 hd
  refine ⟨x', ?_, a3⟩
  rw [sSolve]
  dsimp only
  rw [h2]
  dsimp only [SRes.bnd]
  rw [if_pos rfl]
end Go.Proofs.YtjcocblohiglbaaGreatDoor
