/- What the reader reads has at most ten nodes a token, whatever stands for its expressions. Printed by gen_c.py, but for loops. Conditions: none. -/
import Derived.Test.YtjcocblohiglbaaGreatDoorQ1
namespace Go.Proofs.YtjcocblohiglbaaGreatDoor
open Go.Dp
set_option linter.unusedVariables false
set_option linter.unusedSimpArgs false
mutual
/-- Nodes, with a weight for those that wait. -/
def wt (w : Nat → Nat) : Nd → Nat
  | .mk k n _ l _ _ => if k = -1 then w n.toNat else 1 + wts w l
def wts (w : Nat → Nat) : List Nd → Nat
  | [] => 0
  | x :: l => wt w x + wts w l
end
mutual
theorem cnt_fill (es : List Nd) : ∀ (x : Nd), cnt (fill es x) = wt (fun i => cnt (es.getD i default)) x
  | .mk k n s l b e => by
    rw [fill, wt]
    split
    · rfl
    · rw [cnt, cnts_fill es l]
theorem cnts_fill (es : List Nd) : ∀ (l : List Nd), cnts (fills es l) = wts (fun i => cnt (es.getD i default)) l
  | [] => rfl
  | x :: l => by rw [fills, cnts, wts, cnt_fill es x, cnts_fill es l]
end
theorem wt_mk {w : Nat → Nat} {k n : Int} {s : ByteArray} {l : List Nd} {b e : Int} (hk : k ≠ -1) : wt w (.mk k n s l b e) = 1 + wts w l := by rw [wt, if_neg hk]
theorem wts_append {w : Nat → Nat} : ∀ (l r : List Nd), wts w (l ++ r) = wts w l + wts w r
  | [], r => by rw [List.nil_append, wts]; omega
  | x :: l, r => by rw [List.cons_append, wts, wts, wts_append l r]; omega
theorem wts_nil {w : Nat → Nat} : wts w [] = 0 := by rw [wts]
theorem wt_empty {w : Nat → Nat} {b : Int} : wt w (emptyAt b) = 1 := by rw [emptyAt, wt_mk (by decide), wts]
theorem wt_list {w : Nat → Nat} {b : Int} {l : List Nd} : wt w (pList (emptyAt b) l) = 1 + wts w l := by
  cases l with
  | nil => rw [pList, wt_empty, wts]
  | cons x l => rw [pList, wt_mk (by decide)]
theorem wt_paren {w : Nat → Nat} {x : Nd} {b e : Int} : wt w (.mk x.kind x.n x.s x.l b e) = wt w x := by
  obtain ⟨k, n, s, l, b0, e0⟩ := x
  show wt w (.mk k n s l b e) = _
  rw [wt, wt]
theorem wt_gate {w : Nat → Nat} {tx : ByteArray} {T : List Tk} {pos : Nat} : wt w (gateAt tx T pos) = 1 := by rw [gateAt, wt_mk (by decide), wts]
/-- Extents, each of no less than the weight. -/
def We (w : Nat → Nat) (e : List (Nat × Nat)) : Prop := ∀ i y, e[i]? = some y → w i + y.1 ≤ y.2
theorem We.left {w : Nat → Nat} {a b : List (Nat × Nat)} (h : We w (a ++ b)) : We w a := fun i y hi => h i y (by
  have := (List.getElem?_eq_some_iff.1 hi).1
  rw [List.getElem?_append_left this]
  exact hi)
def CwF (T : List Tk) (w : Nat → Nat) (c : Nat) (f : Nat → List (Nat × Nat) → Res Nd) : Prop := ∀ pos ex x q e, pos ≤ T.length → ex.length ≤ pos → f pos ex = .ok x q e → (∃ l, e = ex ++ l) ∧ (We w e → wt w x + 10 * pos ≤ 10 * q + c)
def CwL (T : List Tk) (w : Nat → Nat) (c : Nat) (f : Nat → List (Nat × Nat) → Res (List Nd)) : Prop := ∀ pos ex x q e, pos ≤ T.length → ex.length ≤ pos → f pos ex = .ok x q e → (∃ l, e = ex ++ l) ∧ (We w e → wts w x + 10 * pos ≤ 10 * q + c)
/-- The same where there is a token. -/
def CwN (T : List Tk) (w : Nat → Nat) (c : Nat) (f : Nat → List (Nat × Nat) → Res Nd) : Prop := ∀ pos ex x q e, pos < T.length → ex.length ≤ pos → f pos ex = .ok x q e → (∃ l, e = ex ++ l) ∧ (We w e → wt w x + 10 * pos ≤ 10 * q + c)
section
variable {T : List Tk} {w : Nat → Nat} (tx : ByteArray)
theorem pName_c : CwF T w 0 (pName tx T) := by
  intro pos ex x q e hp hx h
  unfold pName at h
  split at h
  · cases h
    refine ⟨⟨[], by simp⟩, fun _ => ?_⟩
    rw [wt_mk (by decide), wts]
    omega
  · cases h
theorem pNumber_c : CwF T w 0 (pNumber tx T) := by
  intro pos ex x q e hp hx h
  unfold pNumber at h
  split at h
  · cases h
    refine ⟨⟨[], by simp⟩, fun _ => ?_⟩
    rw [wt_mk (by decide), wts]
    omega
  · cases h
theorem pExpr_c : CwF T w 0 (pExpr tx T) := by
  intro pos ex x q e hp hx h
  have h0 := wfe (pExpr_wf tx T pos ex hp hx) h
  unfold pExpr at h
  split at h
  · cases h
    refine ⟨⟨_, rfl⟩, fun hW => ?_⟩
    have := hW ex.length (pos, exprEnd T (T.length + 1) 0 pos) (by rw [List.getElem?_append_right (Nat.le_refl _), Nat.sub_self]; rfl)
    rw [wt, if_pos rfl, show ((ex.length : Nat) : Int).toNat = ex.length by omega]
    dsimp only at this
    omega
  · cases h
theorem pExpr_c2 {pos : Nat} {ex : List (Nat × Nat)} {x : Nd} {q : Nat} {e : List (Nat × Nat)} (h : pExpr tx T pos ex = .ok x q e) (hW : We w e) : wt w x + pos ≤ q := by
  unfold pExpr at h
  split at h
  · cases h
    have := hW ex.length (pos, exprEnd T (T.length + 1) 0 pos) (by rw [List.getElem?_append_right (Nat.le_refl _), Nat.sub_self]; rfl)
    rw [wt, if_pos rfl, show ((ex.length : Nat) : Int).toNat = ex.length by omega]
    exact this
  · cases h
theorem pRowsL_c {one : Nat → List (Nat × Nat) → Res Nd} (ho : CwF T w 0 one) (wone : ∀ pos ex, pos ≤ T.length → ex.length ≤ pos → (one pos ex).wf T (pos + 1)) : ∀ (n : Nat) (acc : List Nd) (pos : Nat) (ex : List (Nat × Nat)) (l : List Nd) (q : Nat) (e : List (Nat × Nat)), pos ≤ T.length → ex.length ≤ pos → pRowsL T one n acc pos ex = .ok l q e →
    (∃ l', e = ex ++ l') ∧ acc.length + pos ≤ l.length + q ∧ l.length + pos ≤ acc.length + q ∧ (We w e → wts w l + 10 * pos ≤ wts w acc + 10 * q)
  | 0, acc, pos, ex, l, q, e, hp, hx, h => by rw [pRowsL] at h; cases h
  | n + 1, acc, pos, ex, l, q, e, hp, hx, h => by
    rw [pRowsL] at h
    split at h
    · rename_i hc
      have hlt := isT_lt hc
      cases h0 : one (pos + 1) ex with
      | bad q0 => rw [h0] at h; cases h
      | ok a q0 e0 =>
        rw [h0] at h
        have w0 := wfe (wone (pos + 1) ex (by omega) (by omega)) h0
        obtain ⟨⟨l1, rfl⟩, k1⟩ := ho (pos + 1) ex a q0 e0 (by omega) (by omega) h0
        obtain ⟨⟨l2, rfl⟩, k2, k3, k4⟩ := pRowsL_c ho wone n _ q0 _ l q e (by omega) (by omega) h
        rw [List.length_append, List.length_singleton] at k2 k3
        refine ⟨⟨l1 ++ l2, by rw [List.append_assoc]⟩, by omega, by omega, fun hW => ?_⟩
        have := k1 hW.left
        have := k4 hW
        rw [wts_append, wts, wts] at this
        omega
    · cases h
      exact ⟨⟨[], by simp⟩, Nat.le_refl _, Nat.le_refl _, fun _ => Nat.le_refl _⟩
theorem pRows_c {one : Nat → List (Nat × Nat) → Res Nd} (ho : CwF T w 0 one) (wone : ∀ pos ex, pos ≤ T.length → ex.length ≤ pos → (one pos ex).wf T (pos + 1)) : ∀ pos ex x q e, pos ≤ T.length → ex.length ≤ pos → pRows T one pos ex = .ok x q e → (∃ l, e = ex ++ l) ∧ x.length + pos ≤ q ∧ (We w e → wts w x + 10 * pos ≤ 10 * q) := by
  intro pos ex x q e hp hx h
  rw [pRows] at h
  cases h0 : one pos ex with
  | bad q0 => rw [h0] at h; cases h
  | ok a q0 e0 =>
    rw [h0] at h
    have w0 := wfe (wone pos ex hp hx) h0
    obtain ⟨⟨l1, rfl⟩, k1⟩ := ho pos ex a q0 e0 hp hx h0
    obtain ⟨⟨l2, rfl⟩, k2, k3, k4⟩ := pRowsL_c ho wone _ [a] q0 _ x q e (by omega) (by omega) h
    rw [List.length_singleton] at k3
    refine ⟨⟨l1 ++ l2, by rw [List.append_assoc]⟩, by omega, fun hW => ?_⟩
    have := k1 hW.left
    have := k4 hW
    rw [wts, wts] at this
    omega
theorem rows_l {f : Nat → List (Nat × Nat) → Res (List Nd)} (h : ∀ pos ex x q e, pos ≤ T.length → ex.length ≤ pos → f pos ex = .ok x q e → (∃ l, e = ex ++ l) ∧ x.length + pos ≤ q ∧ (We w e → wts w x + 10 * pos ≤ 10 * q)) : CwL T w 0 f := fun pos ex x q e hp hx h0 => by
  obtain ⟨h1, h2, h3⟩ := h pos ex x q e hp hx h0
  exact ⟨h1, h3⟩
theorem wts_share {kind : Int} {so : Nd} (hk : kind ≠ -1) : ∀ (l : List Nd), wts w (l.map (share kind so)) = l.length * (1 + wt w so)
  | [] => by simp [wts]
  | x :: l => by
    rw [List.map_cons, wts, wts_share hk l, share, wt_mk hk, wts, wts, List.length_cons, Nat.succ_mul]
    omega
theorem pShared_c {kind : Int} (hk : kind ≠ -1) : ∀ pos ex x q e, pos ≤ T.length → ex.length ≤ pos → pShared tx T kind pos ex = .ok x q e → (∃ l, e = ex ++ l) ∧ (We w e → wts w x + 10 * pos + 10 ≤ 10 * q) := by
  intro pos ex x q e hp hx h
  unfold pShared at h
  obtain ⟨l, q1, e1, h1, h⟩ := rbnd h
  have w1 := wfe (pRows_wf (fun pos ex hp hx => pName_wf tx T pos ex hp hx) pos ex hp hx) h1
  obtain ⟨⟨l1, rfl⟩, k1, k2⟩ := pRows_c (w := w) (pName_c tx) (fun pos ex hp hx => pName_wf tx T pos ex hp hx) _ _ _ _ _ hp hx h1
  split at h
  · rename_i c2
    have g2 := isT_lt c2
    obtain ⟨so, q2, e2, h3, h⟩ := rbnd h
    have w3 := wfe (pName_wf tx T (q1 + 1) _ (by omega) (by omega)) h3
    have h4 := h3
    obtain ⟨⟨l3, rfl⟩, k3⟩ := pName_c (w := w) tx _ _ _ _ _ (by omega) (by omega) h3
    cases h
    refine ⟨⟨l1 ++ l3, by rw [List.append_assoc]⟩, fun hW => ?_⟩
    have hso : wt w so = 1 := by
      unfold pName at h4
      split at h4
      · injection h4 with e1 _ _
        rw [← e1, wt_mk (by decide), wts]
      · cases h4
    rw [wts_share hk, hso]
    omega
  · cases h
theorem pDeclsL_c : ∀ (n : Nat) (acc : List Nd) (pos : Nat) (ex : List (Nat × Nat)) (l : List Nd) (q : Nat) (e : List (Nat × Nat)), pos ≤ T.length → ex.length ≤ pos → pDeclsL tx T n acc pos ex = .ok l q e → (∃ l', e = ex ++ l') ∧ (We w e → wts w l + 10 * pos ≤ wts w acc + 10 * q)
  | 0, acc, pos, ex, l, q, e, hp, hx, h => by rw [pDeclsL] at h; cases h
  | n + 1, acc, pos, ex, l, q, e, hp, hx, h => by
    rw [pDeclsL] at h
    split at h
    · rename_i hc
      have hlt := isT_lt hc
      obtain ⟨a, q0, e0, h0, h⟩ := rbnd h
      have w0 := wfe (pShared_wf tx T 9 (pos + 1) ex (by omega) (by omega)) h0
      obtain ⟨⟨l1, rfl⟩, k1⟩ := pShared_c (w := w) tx (by decide) _ _ _ _ _ (by omega) (by omega) h0
      obtain ⟨⟨l2, rfl⟩, k4⟩ := pDeclsL_c n _ q0 _ l q e (by omega) (by omega) h
      refine ⟨⟨l1 ++ l2, by rw [List.append_assoc]⟩, fun hW => ?_⟩
      have := k1 hW.left
      have := k4 hW
      rw [wts_append] at this
      omega
    · cases h
      exact ⟨⟨[], by simp⟩, fun _ => Nat.le_refl _⟩
theorem pDecls_c : CwF T w 0 (pDecls tx T) := by
  intro pos ex x q e hp hx h
  unfold pDecls at h
  obtain ⟨l, q1, e1, h1, h⟩ := rbnd h
  have w1 := wfe (pShared_wf tx T 9 pos ex hp hx) h1
  obtain ⟨⟨l1, rfl⟩, k1⟩ := pShared_c (w := w) tx (by decide) _ _ _ _ _ hp hx h1
  obtain ⟨l2, q2, e2, h2, h⟩ := rbnd h
  obtain ⟨⟨l3, rfl⟩, k2⟩ := pDeclsL_c (w := w) tx _ _ _ _ _ _ _ (by omega) (by omega) h2
  cases h
  refine ⟨⟨l1 ++ l3, by rw [List.append_assoc]⟩, fun hW => ?_⟩
  have := k1 hW.left
  have := k2 hW
  rw [wt_mk (by decide)]
  omega
theorem pNames_c : CwF T w 1 (pNames tx T) := by
  intro pos ex x q e hp hx h
  unfold pNames at h
  obtain ⟨A1, q11, e1, h1, h⟩ := rbnd h
  have w1 := wfe (pRows_wf (fun pos ex hp hx => pName_wf tx T pos ex hp hx) pos _ (by omega) (by omega)) h1
  obtain ⟨⟨l1, rfl⟩, k1⟩ := rows_l (pRows_c (w := w) (pName_c (w := w) tx) (fun pos ex hp hx => pName_wf tx T pos ex hp hx)) _ _ _ _ _ (by omega) (by omega) h1
  cases h
  refine ⟨⟨l1, rfl⟩, fun hW => ?_⟩
  have m1 := k1 hW
  try have := j1 hW
  try rw [wts_nil] at m1
  first | omega | (simp [wt_mk, wts, wt_empty, wt_list, wt_paren, gateAt] <;> omega)
theorem pGates_c : CwF T w 1 (pGates tx T) := by
  intro pos ex x q e hp hx h
  unfold pGates at h
  split at h
  · rename_i c1
    have g1 := isT_lt c1
    obtain ⟨A2, q12, e2, h2, h⟩ := rbnd h
    have w2 := wfe (pRows_wf (fun pos ex hp hx => pName_wf tx T pos ex hp hx) (pos + 1) _ (by omega) (by omega)) h2
    obtain ⟨⟨l2, rfl⟩, k2⟩ := rows_l (pRows_c (w := w) (pName_c (w := w) tx) (fun pos ex hp hx => pName_wf tx T pos ex hp hx)) _ _ _ _ _ (by omega) (by omega) h2
    split at h
    · rename_i c3
      have g3 := isT_lt c3
      cases h
      refine ⟨⟨l2, rfl⟩, fun hW => ?_⟩
      have m2 := k2 hW
      try have := j2 hW
      try rw [wts_nil] at m1
      first | omega | (simp [wt_mk, wts, wt_empty, wt_list, wt_paren, gateAt] <;> omega)
    · rename_i c4
      cases h
  · rename_i c5
    cases h
    refine ⟨⟨[], by simp [List.append_assoc]⟩, fun hW => ?_⟩
    try rw [wts_nil] at m1
    first | omega | (simp [wt_mk, wts, wt_empty, wt_list, wt_paren, gateAt] <;> omega)
theorem pEq_c : CwF T w 0 (pEq tx T) := by
  intro pos ex x q e hp hx h
  unfold pEq at h
  obtain ⟨A3, q13, e1, h1, h⟩ := rbnd h
  have w1 := wfe (pExpr_wf tx T pos _ (by omega) (by omega)) h1
  have j1 := fun hW => pExpr_c2 (w := w) tx h1 hW
  obtain ⟨⟨l1, rfl⟩, k1⟩ := pExpr_c (w := w) tx _ _ _ _ _ (by omega) (by omega) h1
  split at h
  · rename_i c2
    have g2 := isT_lt c2
    obtain ⟨A4, q14, e3, h3, h⟩ := rbnd h
    have w3 := wfe (pExpr_wf tx T (q13 + 1) _ (by omega) (by omega)) h3
    have j3 := fun hW => pExpr_c2 (w := w) tx h3 hW
    obtain ⟨⟨l3, rfl⟩, k3⟩ := pExpr_c (w := w) tx _ _ _ _ _ (by omega) (by omega) h3
    cases h
    refine ⟨⟨(l1 ++ l3), by simp [List.append_assoc]⟩, fun hW => ?_⟩
    have m1 := k1 hW.left
    try have := j1 hW.left
    have m3 := k3 hW
    try have := j3 hW
    try rw [wts_nil] at m1
    first | omega | (simp [wt_mk, wts, wt_empty, wt_list, wt_paren, gateAt] <;> omega)
  · rename_i c4
    cases h
theorem pBind_c : CwF T w 0 (pBind tx T) := by
  intro pos ex x q e hp hx h
  unfold pBind at h
  obtain ⟨A5, q15, e1, h1, h⟩ := rbnd h
  have w1 := wfe (pName_wf tx T pos _ (by omega) (by omega)) h1
  obtain ⟨⟨l1, rfl⟩, k1⟩ := pName_c (w := w) tx _ _ _ _ _ (by omega) (by omega) h1
  split at h
  · rename_i c2
    have g2 := isT_lt c2
    obtain ⟨A6, q16, e3, h3, h⟩ := rbnd h
    have w3 := wfe (pName_wf tx T (q15 + 1) _ (by omega) (by omega)) h3
    obtain ⟨⟨l3, rfl⟩, k3⟩ := pName_c (w := w) tx _ _ _ _ _ (by omega) (by omega) h3
    split at h
    · rename_i c4
      have g4 := isT_lt c4
      obtain ⟨A7, q17, e5, h5, h⟩ := rbnd h
      have w5 := wfe (pExpr_wf tx T (q16 + 1) _ (by omega) (by omega)) h5
      have j5 := fun hW => pExpr_c2 (w := w) tx h5 hW
      obtain ⟨⟨l5, rfl⟩, k5⟩ := pExpr_c (w := w) tx _ _ _ _ _ (by omega) (by omega) h5
      cases h
      refine ⟨⟨(l1 ++ l3 ++ l5), by simp [List.append_assoc]⟩, fun hW => ?_⟩
      have m1 := k1 hW.left.left
      try have := j1 hW.left.left
      have m3 := k3 hW.left
      try have := j3 hW.left
      have m5 := k5 hW
      try have := j5 hW
      try rw [wts_nil] at m1
      first | omega | (simp [wt_mk, wts, wt_empty, wt_list, wt_paren, gateAt] <;> omega)
    · rename_i c6
      cases h
  · rename_i c7
    cases h
theorem pGate_c : CwF T w 0 (pGate tx T) := by
  intro pos ex x q e hp hx h
  unfold pGate at h
  obtain ⟨A8, q18, e1, h1, h⟩ := rbnd h
  have w1 := wfe (pName_wf tx T pos _ (by omega) (by omega)) h1
  obtain ⟨⟨l1, rfl⟩, k1⟩ := pName_c (w := w) tx _ _ _ _ _ (by omega) (by omega) h1
  split at h
  · rename_i c2
    have g2 := isT_lt c2
    split at h
    · rename_i c3
      have g3 := isT_lt c3
      obtain ⟨A9, q19, e4, h4, h⟩ := rbnd h
      have w4 := wfe (pNames_wf tx T ((q18 + 1) + 1) _ (by omega) (by omega)) h4
      obtain ⟨⟨l4, rfl⟩, k4⟩ := pNames_c (w := w) tx _ _ _ _ _ (by omega) (by omega) h4
      split at h
      · rename_i c5
        have g5 := isT_lt c5
        cases h
        refine ⟨⟨(l1 ++ l4), by simp [List.append_assoc]⟩, fun hW => ?_⟩
        have m1 := k1 hW.left
        try have := j1 hW.left
        have m4 := k4 hW
        try have := j4 hW
        try rw [wts_nil] at m1
        first | omega | (simp [wt_mk, wts, wt_empty, wt_list, wt_paren, gateAt] <;> omega)
      · rename_i c6
        cases h
    · rename_i c7
      cases h
  · rename_i c8
    cases h
theorem pGive_c : CwF T w 0 (pGive tx T) := by
  intro pos ex x q e hp hx h
  unfold pGive at h
  split at h
  · rename_i c1
    have g1 := isT_lt c1
    obtain ⟨A10, q20, e2, h2, h⟩ := rbnd h
    have w2 := wfe (pName_wf tx T (pos + 1) _ (by omega) (by omega)) h2
    obtain ⟨⟨l2, rfl⟩, k2⟩ := pName_c (w := w) tx _ _ _ _ _ (by omega) (by omega) h2
    cases h
    refine ⟨⟨l2, rfl⟩, fun hW => ?_⟩
    have m2 := k2 hW
    try have := j2 hW
    try rw [wts_nil] at m1
    first | omega | (simp [wt_mk, wts, wt_empty, wt_list, wt_paren, gateAt] <;> omega)
  · rename_i c3
    obtain ⟨A11, q21, e4, h4, h⟩ := rbnd h
    have w4 := wfe (pExpr_wf tx T pos _ (by omega) (by omega)) h4
    have j4 := fun hW => pExpr_c2 (w := w) tx h4 hW
    obtain ⟨⟨l4, rfl⟩, k4⟩ := pExpr_c (w := w) tx _ _ _ _ _ (by omega) (by omega) h4
    cases h
    refine ⟨⟨l4, rfl⟩, fun hW => ?_⟩
    have m4 := k4 hW
    try have := j4 hW
    try rw [wts_nil] at m1
    first | omega | (simp [wt_mk, wts, wt_empty, wt_list, wt_paren, gateAt] <;> omega)
theorem pWindow_c : CwF T w 0 (pWindow tx T) := by
  intro pos ex x q e hp hx h
  unfold pWindow at h
  split at h
  · rename_i c1
    have g1 := isT_lt c1
    obtain ⟨A12, q22, e2, h2, h⟩ := rbnd h
    have w2 := wfe (pNumber_wf tx T (pos + 1) _ (by omega) (by omega)) h2
    obtain ⟨⟨l2, rfl⟩, k2⟩ := pNumber_c (w := w) tx _ _ _ _ _ (by omega) (by omega) h2
    split at h
    · rename_i c3
      have g3 := isT_lt c3
      split at h
      · rename_i c4
        have g4 := tokAt_lt (T := T) (pos := (q22 + 1)) (by omega)
        obtain ⟨A13, q23, e5, h5, h⟩ := rbnd h
        have w5 := wfe (pNumber_wf tx T (q22 + 1) _ (by omega) (by omega)) h5
        obtain ⟨⟨l5, rfl⟩, k5⟩ := pNumber_c (w := w) tx _ _ _ _ _ (by omega) (by omega) h5
        split at h
        · rename_i c6
          have g6 := isT_lt c6
          cases h
          refine ⟨⟨(l2 ++ l5), by simp [List.append_assoc]⟩, fun hW => ?_⟩
          have m2 := k2 hW.left
          try have := j2 hW.left
          have m5 := k5 hW
          try have := j5 hW
          try rw [wts_nil] at m1
          first | omega | (simp [wt_mk, wts, wt_empty, wt_list, wt_paren, gateAt] <;> omega)
        · rename_i c7
          cases h
      · rename_i c8
        split at h
        · rename_i c9
          have g9 := isT_lt c9
          cases h
          refine ⟨⟨l2, rfl⟩, fun hW => ?_⟩
          have m2 := k2 hW
          try have := j2 hW
          try rw [wts_nil] at m1
          first | omega | (simp [wt_mk, wts, wt_empty, wt_list, wt_paren, gateAt] <;> omega)
        · rename_i c10
          cases h
    · rename_i c11
      split at h
      · rename_i c12
        have g12 := isT_lt c12
        cases h
        refine ⟨⟨l2, rfl⟩, fun hW => ?_⟩
        have m2 := k2 hW
        try have := j2 hW
        try rw [wts_nil] at m1
        first | omega | (simp [wt_mk, wts, wt_empty, wt_list, wt_paren, gateAt] <;> omega)
      · rename_i c13
        cases h
  · rename_i c14
    cases h
theorem pExit_c (b : Int) : CwF T w 1 (pExit tx T b) := by
  intro pos ex x q e hp hx h
  unfold pExit at h
  split at h
  · rename_i c1
    have g1 := isT_lt c1
    obtain ⟨A15, q25, e2, h2, h⟩ := rbnd h
    have w2 := wfe (pRows_wf (fun pos ex hp hx => pGive_wf tx T pos ex hp hx) (pos + 1) _ (by omega) (by omega)) h2
    obtain ⟨⟨l2, rfl⟩, k2⟩ := rows_l (pRows_c (w := w) (pGive_c (w := w) tx) (fun pos ex hp hx => pGive_wf tx T pos ex hp hx)) _ _ _ _ _ (by omega) (by omega) h2
    split at h
    · rename_i c3
      have g3 := isT_lt c3
      cases h
      refine ⟨⟨l2, rfl⟩, fun hW => ?_⟩
      have m2 := k2 hW
      try have := j2 hW
      try rw [wts_nil] at m1
      first | omega | (simp [wt_mk, wts, wt_empty, wt_list, wt_paren, gateAt] <;> omega)
    · rename_i c4
      cases h
  · rename_i c5
    cases h
    refine ⟨⟨[], by simp [List.append_assoc]⟩, fun hW => ?_⟩
    try rw [wts_nil] at m1
    first | omega | (simp [wt_mk, wts, wt_empty, wt_list, wt_paren, gateAt] <;> omega)
theorem pCall_c (b : Int) : CwF T w 0 (pCall tx T b) := by
  intro pos ex x q e hp hx h
  unfold pCall at h
  obtain ⟨A16, q26, e1, h1, h⟩ := rbnd h
  have w1 := wfe (pName_wf tx T pos _ (by omega) (by omega)) h1
  obtain ⟨⟨l1, rfl⟩, k1⟩ := pName_c (w := w) tx _ _ _ _ _ (by omega) (by omega) h1
  obtain ⟨A17, q27, e2, h2, h⟩ := rbnd h
  have w2 := wfe (pGates_wf tx T q26 _ (by omega) (by omega)) h2
  obtain ⟨⟨l2, rfl⟩, k2⟩ := pGates_c (w := w) tx _ _ _ _ _ (by omega) (by omega) h2
  split at h
  · rename_i c3
    have g3 := isT_lt c3
    obtain ⟨A18, q28, e4, h4, h⟩ := rbnd h
    have w4 := wfe (pRows_wf (fun pos ex hp hx => pExpr_wf tx T pos ex hp hx) (q27 + 1) _ (by omega) (by omega)) h4
    obtain ⟨⟨l4, rfl⟩, k4⟩ := rows_l (pRows_c (w := w) (pExpr_c (w := w) tx) (fun pos ex hp hx => pExpr_wf tx T pos ex hp hx)) _ _ _ _ _ (by omega) (by omega) h4
    split at h
    · rename_i c5
      have g5 := isT_lt c5
      cases h
      refine ⟨⟨(l1 ++ l2 ++ l4), by simp [List.append_assoc]⟩, fun hW => ?_⟩
      have m1 := k1 hW.left.left
      try have := j1 hW.left.left
      have m2 := k2 hW.left
      try have := j2 hW.left
      have m4 := k4 hW
      try have := j4 hW
      try rw [wts_nil] at m1
      first | omega | (simp [wt_mk, wts, wt_empty, wt_list, wt_paren, gateAt] <;> omega)
    · rename_i c6
      cases h
  · rename_i c7
    cases h
    refine ⟨⟨(l1 ++ l2), by simp [List.append_assoc]⟩, fun hW => ?_⟩
    have m1 := k1 hW.left
    try have := j1 hW.left
    have m2 := k2 hW
    try have := j2 hW
    try rw [wts_nil] at m1
    first | omega | (simp [wt_mk, wts, wt_empty, wt_list, wt_paren, gateAt] <;> omega)
theorem pOffers_c : ∀ (n : Nat) (acc : List Nd) (pos : Nat) (ex : List (Nat × Nat)) (l : List Nd) (q : Nat) (e : List (Nat × Nat)), pos ≤ T.length → ex.length ≤ pos → pOffers tx T n acc pos ex = .ok l q e → (∃ l', e = ex ++ l') ∧ (We w e → wts w l + 10 * pos ≤ wts w acc + 10 * q)
  | 0, acc, pos, ex, l, q, e, hp, hx, h => by rw [pOffers] at h; cases h
  | n + 1, acc, pos, ex, l, q, e, hp, hx, h => by
    rw [pOffers] at h
    split at h
    · rename_i hc
      have hlt := isT_lt hc
      obtain ⟨a, q0, e0, h0, h⟩ := rbnd h
      have w0 := wfe (pExpr_wf tx T (pos + 1) ex (by omega) (by omega)) h0
      obtain ⟨⟨l1, rfl⟩, k1⟩ := pExpr_c (w := w) tx _ _ _ _ _ (by omega) (by omega) h0
      obtain ⟨⟨l2, rfl⟩, k4⟩ := pOffers_c n _ q0 _ l q e (by omega) (by omega) h
      refine ⟨⟨l1 ++ l2, by rw [List.append_assoc]⟩, fun hW => ?_⟩
      have := k1 hW.left
      have := k4 hW
      rw [wts_append, wts, wts, wt_mk (by decide), wts, wts] at this
      omega
    · split at h
      · rename_i hc
        have hlt := isT_lt hc
        obtain ⟨a, q0, e0, h0, h⟩ := rbnd h
        have w0 := wfe (pShared_wf tx T 41 (pos + 1) ex (by omega) (by omega)) h0
        obtain ⟨⟨l1, rfl⟩, k1⟩ := pShared_c (w := w) tx (by decide) _ _ _ _ _ (by omega) (by omega) h0
        obtain ⟨⟨l2, rfl⟩, k4⟩ := pOffers_c n _ q0 _ l q e (by omega) (by omega) h
        refine ⟨⟨l1 ++ l2, by rw [List.append_assoc]⟩, fun hW => ?_⟩
        have := k1 hW.left
        have := k4 hW
        rw [wts_append] at this
        omega
      · cases h
        exact ⟨⟨[], by simp⟩, fun _ => Nat.le_refl _⟩
theorem pConds_c (n : Nat) : CwF T w 1 (pConds tx T n) := by
  intro pos ex x q e hp hx h
  unfold pConds at h
  split at h
  · split at h
    · rename_i c2
      have g2 := isT_lt c2
      obtain ⟨l, q1, e1, h1, h⟩ := rbnd h
      have w1 := wfe (pRows_wf (fun pos ex hp hx => pEq_wf tx T pos ex hp hx) (pos + 1) ex (by omega) (by omega)) h1
      obtain ⟨⟨l1, rfl⟩, k0, k1⟩ := pRows_c (w := w) (pEq_c tx) (fun pos ex hp hx => pEq_wf tx T pos ex hp hx) _ _ _ _ _ (by omega) (by omega) h1
      split at h
      · cases h
        refine ⟨⟨l1, rfl⟩, fun hW => ?_⟩
        have := k1 hW
        rw [wt_list]
        omega
      · cases h
    · cases h
      exact ⟨⟨[], by simp⟩, fun _ => by rw [wt_empty]; omega⟩
  · cases h
    exact ⟨⟨[], by simp⟩, fun _ => by rw [wt_empty]; omega⟩
theorem pWins_c : CwF T w 1 (pWins tx T) := by
  intro pos ex x q e hp hx h
  unfold pWins at h
  split at h
  · rename_i c1
    have g1 := isT_lt c1
    obtain ⟨A14, q24, e2, h2, h⟩ := rbnd h
    have w2 := wfe (pWindow_wf tx T pos _ (by omega) (by omega)) h2
    obtain ⟨⟨l2, rfl⟩, k2⟩ := pWindow_c (w := w) tx _ _ _ _ _ (by omega) (by omega) h2
    cases h
    refine ⟨⟨l2, rfl⟩, fun hW => ?_⟩
    have m2 := k2 hW
    try have := j2 hW
    try rw [wts_nil] at m1
    first | omega | (simp [wt_mk, wts, wt_empty, wt_list, wt_paren, gateAt] <;> omega)
  · rename_i c3
    cases h
    refine ⟨⟨[], by simp [List.append_assoc]⟩, fun hW => ?_⟩
    try rw [wts_nil] at m1
    first | omega | (simp [wt_mk, wts, wt_empty, wt_list, wt_paren, gateAt] <;> omega)
theorem pAction_c {pre : Nat → List (Nat × Nat) → Res Nd} (wpre : ∀ pos ex, pos ≤ T.length → ex.length ≤ pos → (pre pos ex).wf T (pos + 1)) (cpre : CwF T w 0 pre) (b : Int) : CwN T w 0 (pAction tx T pre b) := by
  intro pos ex x q e hp hx h
  unfold pAction at h
  obtain ⟨A23, q33, e1, h1, h⟩ := rbnd h
  have w1 := wfe (pOffers_wf tx T _ _ (pos + 1) _ (by omega) (by omega)) h1
  obtain ⟨⟨l1, rfl⟩, k1⟩ := pOffers_c (w := w) tx _ _ _ _ _ _ _ (by omega) (by omega) h1
  obtain ⟨A24, q34, e2, h2, h⟩ := rbnd h
  have w2 := wfe (pConds_wf tx T _ q33 _ (by omega) (by omega)) h2
  obtain ⟨⟨l2, rfl⟩, k2⟩ := pConds_c (w := w) tx _ _ _ _ _ _ (by omega) (by omega) h2
  obtain ⟨A25, q35, e3, h3, h⟩ := rbnd h
  have w3 := wfe (pWins_wf tx T q34 _ (by omega) (by omega)) h3
  obtain ⟨⟨l3, rfl⟩, k3⟩ := pWins_c (w := w) tx _ _ _ _ _ (by omega) (by omega) h3
  split at h
  · rename_i c4
    have g4 := isT_lt c4
    obtain ⟨A26, q36, e5, h5, h⟩ := rbnd h
    have w5 := wfe (wpre (q35 + 1) _ (by omega) (by omega)) h5
    obtain ⟨⟨l5, rfl⟩, k5⟩ := cpre _ _ _ _ _ (by omega) (by omega) h5
    cases h
    refine ⟨⟨(l1 ++ l2 ++ l3 ++ l5), by simp [List.append_assoc]⟩, fun hW => ?_⟩
    have m1 := k1 hW.left.left.left
    try have := j1 hW.left.left.left
    have m2 := k2 hW.left.left
    try have := j2 hW.left.left
    have m3 := k3 hW.left
    try have := j3 hW.left
    have m5 := k5 hW
    try have := j5 hW
    try rw [wts_nil] at m1
    first | omega | (simp [wt_mk, wts, wt_empty, wt_list, wt_paren, gateAt] <;> omega)
  · rename_i c6
    cases h
theorem pPick_c {beh : Nat → List (Nat × Nat) → Res Nd} (wbeh : ∀ pos ex, pos ≤ T.length → ex.length ≤ pos → (beh pos ex).wf T (pos + 1)) (cbeh : CwF T w 0 beh) (b : Int) : CwF T w 0 (pPick tx T beh b) := by
  intro pos ex x q e hp hx h
  unfold pPick at h
  obtain ⟨A19, q29, e1, h1, h⟩ := rbnd h
  have w1 := wfe (pRows_wf (fun pos ex hp hx => pGate_wf tx T pos ex hp hx) pos _ (by omega) (by omega)) h1
  obtain ⟨⟨l1, rfl⟩, k1⟩ := rows_l (pRows_c (w := w) (pGate_c (w := w) tx) (fun pos ex hp hx => pGate_wf tx T pos ex hp hx)) _ _ _ _ _ (by omega) (by omega) h1
  split at h
  · rename_i c2
    have g2 := isT_lt c2
    obtain ⟨A20, q30, e3, h3, h⟩ := rbnd h
    have w3 := wfe (wbeh (q29 + 1) _ (by omega) (by omega)) h3
    obtain ⟨⟨l3, rfl⟩, k3⟩ := cbeh _ _ _ _ _ (by omega) (by omega) h3
    cases h
    refine ⟨⟨(l1 ++ l3), by simp [List.append_assoc]⟩, fun hW => ?_⟩
    have m1 := k1 hW.left
    try have := j1 hW.left
    have m3 := k3 hW
    try have := j3 hW
    try rw [wts_nil] at m1
    first | omega | (simp [wt_mk, wts, wt_empty, wt_list, wt_paren, gateAt] <;> omega)
  · rename_i c4
    cases h
theorem pSome_c {beh : Nat → List (Nat × Nat) → Res Nd} (wbeh : ∀ pos ex, pos ≤ T.length → ex.length ≤ pos → (beh pos ex).wf T (pos + 1)) (cbeh : CwF T w 0 beh) (b : Int) : CwF T w 0 (pSome tx T beh b) := by
  intro pos ex x q e hp hx h
  unfold pSome at h
  obtain ⟨A21, q31, e1, h1, h⟩ := rbnd h
  have w1 := wfe (pDecls_wf tx T pos _ (by omega) (by omega)) h1
  obtain ⟨⟨l1, rfl⟩, k1⟩ := pDecls_c (w := w) tx _ _ _ _ _ (by omega) (by omega) h1
  split at h
  · rename_i c2
    have g2 := isT_lt c2
    obtain ⟨A22, q32, e3, h3, h⟩ := rbnd h
    have w3 := wfe (wbeh (q31 + 1) _ (by omega) (by omega)) h3
    obtain ⟨⟨l3, rfl⟩, k3⟩ := cbeh _ _ _ _ _ (by omega) (by omega) h3
    cases h
    refine ⟨⟨(l1 ++ l3), by simp [List.append_assoc]⟩, fun hW => ?_⟩
    have m1 := k1 hW.left
    try have := j1 hW.left
    have m3 := k3 hW
    try have := j3 hW
    try rw [wts_nil] at m1
    first | omega | (simp [wt_mk, wts, wt_empty, wt_list, wt_paren, gateAt] <;> omega)
  · rename_i c4
    cases h
theorem pChoice_c {beh : Nat → List (Nat × Nat) → Res Nd} (wbeh : ∀ pos ex, pos ≤ T.length → ex.length ≤ pos → (beh pos ex).wf T (pos + 1)) (cbeh : CwF T w 0 beh) (b : Int) : CwF T w 0 (pChoice tx T beh b) := by
  intro pos ex x q e hp hx h
  unfold pChoice at h
  split at h
  · split at h
    · exact pPick_c tx wbeh cbeh b pos ex x q e hp hx h
    · exact pSome_c tx wbeh cbeh b pos ex x q e hp hx h
  · exact pSome_c tx wbeh cbeh b pos ex x q e hp hx h
theorem pGuard_c {pre : Nat → List (Nat × Nat) → Res Nd} (wpre : ∀ pos ex, pos ≤ T.length → ex.length ≤ pos → (pre pos ex).wf T (pos + 1)) (cpre : CwF T w 0 pre) : CwN T w 0 (pGuard tx T pre) := by
  intro pos ex x q e hp hx h
  unfold pGuard at h
  obtain ⟨A27, q37, e1, h1, h⟩ := rbnd h
  have w1 := wfe (pRows_wf (fun pos ex hp hx => pEq_wf tx T pos ex hp hx) (pos + 1) _ (by omega) (by omega)) h1
  obtain ⟨⟨l1, rfl⟩, k1⟩ := rows_l (pRows_c (w := w) (pEq_c (w := w) tx) (fun pos ex hp hx => pEq_wf tx T pos ex hp hx)) _ _ _ _ _ (by omega) (by omega) h1
  split at h
  · rename_i c2
    have g2 := isT_lt c2
    split at h
    · rename_i c3
      have g3 := isT_lt c3
      obtain ⟨A28, q38, e4, h4, h⟩ := rbnd h
      have w4 := wfe (wpre ((q37 + 1) + 1) _ (by omega) (by omega)) h4
      obtain ⟨⟨l4, rfl⟩, k4⟩ := cpre _ _ _ _ _ (by omega) (by omega) h4
      cases h
      refine ⟨⟨(l1 ++ l4), by simp [List.append_assoc]⟩, fun hW => ?_⟩
      have m1 := k1 hW.left
      try have := j1 hW.left
      have m4 := k4 hW
      try have := j4 hW
      try rw [wts_nil] at m1
      first | omega | (simp [wt_mk, wts, wt_empty, wt_list, wt_paren, gateAt] <;> omega)
    · rename_i c5
      cases h
  · rename_i c6
    cases h
theorem pParen_c {beh : Nat → List (Nat × Nat) → Res Nd} (wbeh : ∀ pos ex, pos ≤ T.length → ex.length ≤ pos → (beh pos ex).wf T (pos + 1)) (cbeh : CwF T w 0 beh) : CwN T w 0 (pParen tx T beh) := by
  intro pos ex x q e hp hx h
  unfold pParen at h
  obtain ⟨A29, q39, e1, h1, h⟩ := rbnd h
  have w1 := wfe (wbeh (pos + 1) _ (by omega) (by omega)) h1
  obtain ⟨⟨l1, rfl⟩, k1⟩ := cbeh _ _ _ _ _ (by omega) (by omega) h1
  split at h
  · rename_i c2
    have g2 := isT_lt c2
    cases h
    refine ⟨⟨l1, rfl⟩, fun hW => ?_⟩
    have m1 := k1 hW
    try have := j1 hW
    try rw [wts_nil] at m1
    first | omega | (simp [wt_mk, wts, wt_empty, wt_list, wt_paren, gateAt] <;> omega)
  · rename_i c3
    cases h
theorem pWait_c {pre : Nat → List (Nat × Nat) → Res Nd} (wpre : ∀ pos ex, pos ≤ T.length → ex.length ≤ pos → (pre pos ex).wf T (pos + 1)) (cpre : CwF T w 0 pre) : CwN T w 0 (pWait tx T pre) := by
  intro pos ex x q e hp hx h
  unfold pWait at h
  split at h
  · rename_i c1
    have g1 := tokAt_lt (T := T) (pos := (pos + 1)) (by omega)
    split at h
    · rename_i c2
      have g2 := isT_lt c2
      obtain ⟨A30, q40, e3, h3, h⟩ := rbnd h
      have w3 := wfe (wpre (((pos + 1) + 1) + 1) _ (by omega) (by omega)) h3
      obtain ⟨⟨l3, rfl⟩, k3⟩ := cpre _ _ _ _ _ (by omega) (by omega) h3
      cases h
      refine ⟨⟨l3, rfl⟩, fun hW => ?_⟩
      have m3 := k3 hW
      try have := j3 hW
      try rw [wts_nil] at m1
      first | omega | (simp [wt_mk, wts, wt_empty, wt_list, wt_paren, gateAt] <;> omega)
    · rename_i c4
      cases h
  · rename_i c5
    cases h
theorem pHide_c {beh : Nat → List (Nat × Nat) → Res Nd} (wbeh : ∀ pos ex, pos ≤ T.length → ex.length ≤ pos → (beh pos ex).wf T (pos + 1)) (cbeh : CwF T w 0 beh) : CwN T w 0 (pHide tx T beh) := by
  intro pos ex x q e hp hx h
  unfold pHide at h
  obtain ⟨A31, q41, e1, h1, h⟩ := rbnd h
  have w1 := wfe (pNames_wf tx T (pos + 1) _ (by omega) (by omega)) h1
  obtain ⟨⟨l1, rfl⟩, k1⟩ := pNames_c (w := w) tx _ _ _ _ _ (by omega) (by omega) h1
  split at h
  · rename_i c2
    have g2 := isT_lt c2
    obtain ⟨A32, q42, e3, h3, h⟩ := rbnd h
    have w3 := wfe (wbeh (q41 + 1) _ (by omega) (by omega)) h3
    obtain ⟨⟨l3, rfl⟩, k3⟩ := cbeh _ _ _ _ _ (by omega) (by omega) h3
    cases h
    refine ⟨⟨(l1 ++ l3), by simp [List.append_assoc]⟩, fun hW => ?_⟩
    have m1 := k1 hW.left
    try have := j1 hW.left
    have m3 := k3 hW
    try have := j3 hW
    try rw [wts_nil] at m1
    first | omega | (simp [wt_mk, wts, wt_empty, wt_list, wt_paren, gateAt] <;> omega)
  · rename_i c4
    cases h
theorem pLet_c {beh : Nat → List (Nat × Nat) → Res Nd} (wbeh : ∀ pos ex, pos ≤ T.length → ex.length ≤ pos → (beh pos ex).wf T (pos + 1)) (cbeh : CwF T w 0 beh) : CwN T w 0 (pLet tx T beh) := by
  intro pos ex x q e hp hx h
  unfold pLet at h
  obtain ⟨A33, q43, e1, h1, h⟩ := rbnd h
  have w1 := wfe (pRows_wf (fun pos ex hp hx => pBind_wf tx T pos ex hp hx) (pos + 1) _ (by omega) (by omega)) h1
  obtain ⟨⟨l1, rfl⟩, k1⟩ := rows_l (pRows_c (w := w) (pBind_c (w := w) tx) (fun pos ex hp hx => pBind_wf tx T pos ex hp hx)) _ _ _ _ _ (by omega) (by omega) h1
  split at h
  · rename_i c2
    have g2 := isT_lt c2
    obtain ⟨A34, q44, e3, h3, h⟩ := rbnd h
    have w3 := wfe (wbeh (q43 + 1) _ (by omega) (by omega)) h3
    obtain ⟨⟨l3, rfl⟩, k3⟩ := cbeh _ _ _ _ _ (by omega) (by omega) h3
    cases h
    refine ⟨⟨(l1 ++ l3), by simp [List.append_assoc]⟩, fun hW => ?_⟩
    have m1 := k1 hW.left
    try have := j1 hW.left
    have m3 := k3 hW
    try have := j3 hW
    try rw [wts_nil] at m1
    first | omega | (simp [wt_mk, wts, wt_empty, wt_list, wt_paren, gateAt] <;> omega)
  · rename_i c4
    cases h
theorem pChoose_c {beh : Nat → List (Nat × Nat) → Res Nd} (wbeh : ∀ pos ex, pos ≤ T.length → ex.length ≤ pos → (beh pos ex).wf T (pos + 1)) (cbeh : CwF T w 0 beh) : CwN T w 0 (pChoose tx T beh) := by
  intro pos ex x q e hp hx h
  unfold pChoose at h
  obtain ⟨A35, q45, e1, h1, h⟩ := rbnd h
  have w1 := wfe (pChoice_wf tx T beh _ wbeh (pos + 1) _ (by omega) (by omega)) h1
  obtain ⟨⟨l1, rfl⟩, k1⟩ := pChoice_c (w := w) tx wbeh cbeh _ _ _ _ _ _ (by omega) (by omega) h1
  cases h
  refine ⟨⟨l1, rfl⟩, fun hW => ?_⟩
  have m1 := k1 hW
  try have := j1 hW
  try rw [wts_nil] at m1
  first | omega | (simp [wt_mk, wts, wt_empty, wt_list, wt_paren, gateAt] <;> omega)
theorem pStop_c : CwN T w 0 (pStop tx T) := by
  intro pos ex x q e hp hx h
  unfold pStop at h
  cases h
  refine ⟨⟨[], by simp [List.append_assoc]⟩, fun hW => ?_⟩
  try rw [wts_nil] at m1
  first | omega | (simp [wt_mk, wts, wt_empty, wt_list, wt_paren, gateAt] <;> omega)
theorem pExits_c : CwN T w 0 (pExits tx T) := by
  intro pos ex x q e hp hx h
  unfold pExits at h
  obtain ⟨A36, q46, e1, h1, h⟩ := rbnd h
  have w1 := wfe (pExit_wf tx T _ (pos + 1) _ (by omega) (by omega)) h1
  obtain ⟨⟨l1, rfl⟩, k1⟩ := pExit_c (w := w) tx _ _ _ _ _ _ (by omega) (by omega) h1
  cases h
  refine ⟨⟨l1, rfl⟩, fun hW => ?_⟩
  have m1 := k1 hW
  try have := j1 hW
  try rw [wts_nil] at m1
  first | omega | (simp [wt_mk, wts, wt_empty, wt_list, wt_paren, gateAt] <;> omega)
theorem pAct_c {pre : Nat → List (Nat × Nat) → Res Nd} (wpre : ∀ pos ex, pos ≤ T.length → ex.length ≤ pos → (pre pos ex).wf T (pos + 1)) (cpre : CwF T w 0 pre) : CwN T w 0 (pAct tx T pre) := by
  intro pos ex x q e hp hx h
  unfold pAct at h
  obtain ⟨A37, q47, e1, h1, h⟩ := rbnd h
  have w1 := wfe (pAction_wf tx T pre _ wpre pos _ (by omega) (by omega)) h1
  obtain ⟨⟨l1, rfl⟩, k1⟩ := pAction_c (w := w) tx wpre cpre _ _ _ _ _ _ (by omega) (by omega) h1
  cases h
  refine ⟨⟨l1, rfl⟩, fun hW => ?_⟩
  have m1 := k1 hW
  try have := j1 hW
  try rw [wts_nil] at m1
  first | omega | (simp [wt_mk, wts, wt_empty, wt_list, wt_paren, gateAt] <;> omega)
theorem pCalls_c : CwN T w 0 (pCalls tx T) := by
  intro pos ex x q e hp hx h
  unfold pCalls at h
  obtain ⟨A38, q48, e1, h1, h⟩ := rbnd h
  have w1 := wfe (pCall_wf tx T _ pos _ (by omega) (by omega)) h1
  obtain ⟨⟨l1, rfl⟩, k1⟩ := pCall_c (w := w) tx _ _ _ _ _ _ (by omega) (by omega) h1
  cases h
  refine ⟨⟨l1, rfl⟩, fun hW => ?_⟩
  have m1 := k1 hW
  try have := j1 hW
  try rw [wts_nil] at m1
  first | omega | (simp [wt_mk, wts, wt_empty, wt_list, wt_paren, gateAt] <;> omega)
set_option maxRecDepth 20000 in set_option maxHeartbeats 4000000 in
theorem pPre_c {pre : Nat → List (Nat × Nat) → Res Nd} (wpre : ∀ pos ex, pos ≤ T.length → ex.length ≤ pos → (pre pos ex).wf T (pos + 1)) (cpre : CwF T w 0 pre) {beh : Nat → List (Nat × Nat) → Res Nd} (wbeh : ∀ pos ex, pos ≤ T.length → ex.length ≤ pos → (beh pos ex).wf T (pos + 1)) (cbeh : CwF T w 0 beh) : CwF T w 0 (pPre tx T pre beh) := by
  intro pos ex x q e hp hx h
  unfold pPre at h
  split at h
  · rename_i c; exact pGuard_c tx wpre cpre pos ex x q e (isT_lt c) hx h
  split at h
  · rename_i c; exact pParen_c tx wbeh cbeh pos ex x q e (isT_lt c) hx h
  split at h
  · rename_i c; exact pWait_c tx wpre cpre pos ex x q e (isT_lt c) hx h
  split at h
  · rename_i c; exact pHide_c tx wbeh cbeh pos ex x q e (isT_lt c) hx h
  split at h
  · rename_i c; exact pLet_c tx wbeh cbeh pos ex x q e (isT_lt c) hx h
  split at h
  · rename_i c; exact pChoose_c tx wbeh cbeh pos ex x q e (isT_lt c) hx h
  split at h
  · rename_i c; exact pStop_c tx pos ex x q e (isT_lt c) hx h
  split at h
  · rename_i c; exact pExits_c tx pos ex x q e (isT_lt c) hx h
  split at h
  · rename_i c; exact pAct_c tx wpre cpre pos ex x q e (isT_lt c) hx h
  split at h
  · rename_i c
    have hlt : pos < T.length := tokAt_lt (T := T) (by omega)
    split at h
    · exact pAct_c tx wpre cpre pos ex x q e hlt hx h
    · exact pCalls_c tx pos ex x q e hlt hx h
  · cases h
theorem pSum_c {sub : Nat → List (Nat × Nat) → Res Nd} (wsub : ∀ pos ex, pos ≤ T.length → ex.length ≤ pos → (sub pos ex).wf T (pos + 1)) (csub : CwF T w 0 sub) {rec : Nat → List (Nat × Nat) → Res Nd} (wrec : ∀ pos ex, pos ≤ T.length → ex.length ≤ pos → (rec pos ex).wf T (pos + 1)) (crec : CwF T w 0 rec) : CwF T w 0 (pSum tx T sub rec) := by
  intro pos ex x q e hp hx h
  unfold pSum at h
  obtain ⟨A39, q49, e1, h1, h⟩ := rbnd h
  have w1 := wfe (wsub pos _ (by omega) (by omega)) h1
  obtain ⟨⟨l1, rfl⟩, k1⟩ := csub _ _ _ _ _ (by omega) (by omega) h1
  split at h
  · rename_i c2
    have g2 := isT_lt c2
    obtain ⟨A40, q50, e3, h3, h⟩ := rbnd h
    have w3 := wfe (wrec (q49 + 1) _ (by omega) (by omega)) h3
    obtain ⟨⟨l3, rfl⟩, k3⟩ := crec _ _ _ _ _ (by omega) (by omega) h3
    cases h
    refine ⟨⟨(l1 ++ l3), by simp [List.append_assoc]⟩, fun hW => ?_⟩
    have m1 := k1 hW.left
    try have := j1 hW.left
    have m3 := k3 hW
    try have := j3 hW
    try rw [wts_nil] at m1
    first | omega | (simp [wt_mk, wts, wt_empty, wt_list, wt_paren, gateAt] <;> omega)
  · rename_i c4
    cases h
    refine ⟨⟨l1, rfl⟩, fun hW => ?_⟩
    have m1 := k1 hW
    try have := j1 hW
    try rw [wts_nil] at m1
    first | omega | (simp [wt_mk, wts, wt_empty, wt_list, wt_paren, gateAt] <;> omega)
theorem pParts_c {sub : Nat → List (Nat × Nat) → Res Nd} (wsub : ∀ pos ex, pos ≤ T.length → ex.length ≤ pos → (sub pos ex).wf T (pos + 1)) (csub : CwF T w 0 sub) {rec : Nat → List (Nat × Nat) → Res Nd} (wrec : ∀ pos ex, pos ≤ T.length → ex.length ≤ pos → (rec pos ex).wf T (pos + 1)) (crec : CwF T w 0 rec) : CwF T w 0 (pParts tx T sub rec) := by
  intro pos ex x q e hp hx h
  unfold pParts at h
  obtain ⟨A41, q51, e1, h1, h⟩ := rbnd h
  have w1 := wfe (wsub pos _ (by omega) (by omega)) h1
  obtain ⟨⟨l1, rfl⟩, k1⟩ := csub _ _ _ _ _ (by omega) (by omega) h1
  split at h
  · rename_i c2
    have g2 := isT_lt c2
    obtain ⟨A42, q52, e3, h3, h⟩ := rbnd h
    have w3 := wfe (wrec (q51 + 1) _ (by omega) (by omega)) h3
    obtain ⟨⟨l3, rfl⟩, k3⟩ := crec _ _ _ _ _ (by omega) (by omega) h3
    cases h
    refine ⟨⟨(l1 ++ l3), by simp [List.append_assoc]⟩, fun hW => ?_⟩
    have m1 := k1 hW.left
    try have := j1 hW.left
    have m3 := k3 hW
    try have := j3 hW
    try rw [wts_nil] at m1
    first | omega | (simp [wt_mk, wts, wt_empty, wt_list, wt_paren, gateAt] <;> omega)
  · rename_i c4
    split at h
    · rename_i c5
      have g5 := isT_lt c5
      obtain ⟨A43, q53, e6, h6, h⟩ := rbnd h
      have w6 := wfe (wrec (q51 + 1) _ (by omega) (by omega)) h6
      obtain ⟨⟨l6, rfl⟩, k6⟩ := crec _ _ _ _ _ (by omega) (by omega) h6
      cases h
      refine ⟨⟨(l1 ++ l6), by simp [List.append_assoc]⟩, fun hW => ?_⟩
      have m1 := k1 hW.left
      try have := j1 hW.left
      have m6 := k6 hW
      try have := j6 hW
      try rw [wts_nil] at m1
      first | omega | (simp [wt_mk, wts, wt_empty, wt_list, wt_paren, gateAt] <;> omega)
    · rename_i c7
      split at h
      · rename_i c8
        have g8 := isT_lt c8
        obtain ⟨A44, q54, e9, h9, h⟩ := rbnd h
        have w9 := wfe (pNames_wf tx T (q51 + 1) _ (by omega) (by omega)) h9
        obtain ⟨⟨l9, rfl⟩, k9⟩ := pNames_c (w := w) tx _ _ _ _ _ (by omega) (by omega) h9
        split at h
        · rename_i c10
          have g10 := isT_lt c10
          obtain ⟨A45, q55, e11, h11, h⟩ := rbnd h
          have w11 := wfe (wrec (q54 + 1) _ (by omega) (by omega)) h11
          obtain ⟨⟨l11, rfl⟩, k11⟩ := crec _ _ _ _ _ (by omega) (by omega) h11
          cases h
          refine ⟨⟨(l1 ++ l9 ++ l11), by simp [List.append_assoc]⟩, fun hW => ?_⟩
          have m1 := k1 hW.left.left
          try have := j1 hW.left.left
          have m9 := k9 hW.left
          try have := j9 hW.left
          have m11 := k11 hW
          try have := j11 hW
          try rw [wts_nil] at m1
          first | omega | (simp [wt_mk, wts, wt_empty, wt_list, wt_paren, gateAt] <;> omega)
        · rename_i c12
          cases h
      · rename_i c13
        cases h
        refine ⟨⟨l1, rfl⟩, fun hW => ?_⟩
        have m1 := k1 hW
        try have := j1 hW
        try rw [wts_nil] at m1
        first | omega | (simp [wt_mk, wts, wt_empty, wt_list, wt_paren, gateAt] <;> omega)
theorem pDis_c {sub : Nat → List (Nat × Nat) → Res Nd} (wsub : ∀ pos ex, pos ≤ T.length → ex.length ≤ pos → (sub pos ex).wf T (pos + 1)) (csub : CwF T w 0 sub) {rec : Nat → List (Nat × Nat) → Res Nd} (wrec : ∀ pos ex, pos ≤ T.length → ex.length ≤ pos → (rec pos ex).wf T (pos + 1)) (crec : CwF T w 0 rec) : CwF T w 0 (pDis tx T sub rec) := by
  intro pos ex x q e hp hx h
  unfold pDis at h
  obtain ⟨A46, q56, e1, h1, h⟩ := rbnd h
  have w1 := wfe (wsub pos _ (by omega) (by omega)) h1
  obtain ⟨⟨l1, rfl⟩, k1⟩ := csub _ _ _ _ _ (by omega) (by omega) h1
  split at h
  · rename_i c2
    have g2 := isT_lt c2
    obtain ⟨A47, q57, e3, h3, h⟩ := rbnd h
    have w3 := wfe (wrec (q56 + 1) _ (by omega) (by omega)) h3
    obtain ⟨⟨l3, rfl⟩, k3⟩ := crec _ _ _ _ _ (by omega) (by omega) h3
    cases h
    refine ⟨⟨(l1 ++ l3), by simp [List.append_assoc]⟩, fun hW => ?_⟩
    have m1 := k1 hW.left
    try have := j1 hW.left
    have m3 := k3 hW
    try have := j3 hW
    try rw [wts_nil] at m1
    first | omega | (simp [wt_mk, wts, wt_empty, wt_list, wt_paren, gateAt] <;> omega)
  · rename_i c4
    cases h
    refine ⟨⟨l1, rfl⟩, fun hW => ?_⟩
    have m1 := k1 hW
    try have := j1 hW
    try rw [wts_nil] at m1
    first | omega | (simp [wt_mk, wts, wt_empty, wt_list, wt_paren, gateAt] <;> omega)
theorem pBeh_c {sub : Nat → List (Nat × Nat) → Res Nd} (wsub : ∀ pos ex, pos ≤ T.length → ex.length ≤ pos → (sub pos ex).wf T (pos + 1)) (csub : CwF T w 0 sub) {rec : Nat → List (Nat × Nat) → Res Nd} (wrec : ∀ pos ex, pos ≤ T.length → ex.length ≤ pos → (rec pos ex).wf T (pos + 1)) (crec : CwF T w 0 rec) : CwF T w 0 (pBeh tx T sub rec) := by
  intro pos ex x q e hp hx h
  unfold pBeh at h
  obtain ⟨A48, q58, e1, h1, h⟩ := rbnd h
  have w1 := wfe (wsub pos _ (by omega) (by omega)) h1
  obtain ⟨⟨l1, rfl⟩, k1⟩ := csub _ _ _ _ _ (by omega) (by omega) h1
  split at h
  · rename_i c2
    have g2 := isT_lt c2
    split at h
    · rename_i c3
      have g3 := isT_lt c3
      obtain ⟨A49, q59, e4, h4, h⟩ := rbnd h
      have w4 := wfe (pDecls_wf tx T ((q58 + 1) + 1) _ (by omega) (by omega)) h4
      obtain ⟨⟨l4, rfl⟩, k4⟩ := pDecls_c (w := w) tx _ _ _ _ _ (by omega) (by omega) h4
      split at h
      · rename_i c5
        have g5 := isT_lt c5
        obtain ⟨A50, q60, e6, h6, h⟩ := rbnd h
        have w6 := wfe (wrec (q59 + 1) _ (by omega) (by omega)) h6
        obtain ⟨⟨l6, rfl⟩, k6⟩ := crec _ _ _ _ _ (by omega) (by omega) h6
        cases h
        refine ⟨⟨(l1 ++ l4 ++ l6), by simp [List.append_assoc]⟩, fun hW => ?_⟩
        have m1 := k1 hW.left.left
        try have := j1 hW.left.left
        have m4 := k4 hW.left
        try have := j4 hW.left
        have m6 := k6 hW
        try have := j6 hW
        try rw [wts_nil] at m1
        first | omega | (simp [wt_mk, wts, wt_empty, wt_list, wt_paren, gateAt] <;> omega)
      · rename_i c7
        cases h
    · rename_i c8
      obtain ⟨A51, q61, e9, h9, h⟩ := rbnd h
      have w9 := wfe (wrec (q58 + 1) _ (by omega) (by omega)) h9
      obtain ⟨⟨l9, rfl⟩, k9⟩ := crec _ _ _ _ _ (by omega) (by omega) h9
      cases h
      refine ⟨⟨(l1 ++ l9), by simp [List.append_assoc]⟩, fun hW => ?_⟩
      have m1 := k1 hW.left
      try have := j1 hW.left
      have m9 := k9 hW
      try have := j9 hW
      try rw [wts_nil] at m1
      first | omega | (simp [wt_mk, wts, wt_empty, wt_list, wt_paren, gateAt] <;> omega)
  · rename_i c10
    cases h
    refine ⟨⟨l1, rfl⟩, fun hW => ?_⟩
    have m1 := k1 hW
    try have := j1 hW
    try rw [wts_nil] at m1
    first | omega | (simp [wt_mk, wts, wt_empty, wt_list, wt_paren, gateAt] <;> omega)
theorem pB_c : ∀ (n lv : Nat), lv ≤ 4 → CwF T w 0 (pB tx T n lv)
  | 0, lv, _ => fun pos ex x q e hp hx h => by rw [pB] at h; cases h
  | n + 1, 0, _ => by rw [pB]; exact pPre_c tx (fun pos ex hp hx => pB_wf tx T n 0 pos ex hp hx) (pB_c n 0 (by omega)) (fun pos ex hp hx => pB_wf tx T n 4 pos ex hp hx) (pB_c n 4 (by omega))
  | n + 1, 1, _ => by rw [pB]; exact pSum_c tx (fun pos ex hp hx => pB_wf tx T n 0 pos ex hp hx) (pB_c n 0 (by omega)) (fun pos ex hp hx => pB_wf tx T n 1 pos ex hp hx) (pB_c n 1 (by omega))
  | n + 1, 2, _ => by rw [pB]; exact pParts_c tx (fun pos ex hp hx => pB_wf tx T n 1 pos ex hp hx) (pB_c n 1 (by omega)) (fun pos ex hp hx => pB_wf tx T n 2 pos ex hp hx) (pB_c n 2 (by omega))
  | n + 1, 3, _ => by rw [pB]; exact pDis_c tx (fun pos ex hp hx => pB_wf tx T n 2 pos ex hp hx) (pB_c n 2 (by omega)) (fun pos ex hp hx => pB_wf tx T n 3 pos ex hp hx) (pB_c n 3 (by omega))
  | n + 1, 4, _ => by rw [pB]; exact pBeh_c tx (fun pos ex hp hx => pB_wf tx T n 3 pos ex hp hx) (pB_c n 3 (by omega)) (fun pos ex hp hx => pB_wf tx T n 4 pos ex hp hx) (pB_c n 4 (by omega))
end
end Go.Proofs.YtjcocblohiglbaaGreatDoor
