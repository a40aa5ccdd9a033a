/- The reader of specifications: where readings end; equations, bindings, gates. Conditions: none. -/
import Derived.Test.YtjcocblohiglbaaGreatDoorA2
namespace Go.Proofs.YtjcocblohiglbaaGreatDoor
open Go.Dp
set_option linter.unusedVariables false
set_option linter.unusedSimpArgs false
section
variable (I : World → Prop) (p : Nat) (tx : ByteArray) (T : List Tk) (k : Nat)
/-- Where a reading ends. -/
def Res.wf {α : Type} (r : Res α) (T : List Tk) (lo : Nat) : Prop := match r with
  | .ok _ q e => lo ≤ q ∧ q ≤ T.length ∧ e.length ≤ q
  | .bad _ => True
theorem wf_ok {α : Type} {T : List Tk} {lo q : Nat} {e : List (Nat × Nat)} {a : α} (h1 : lo ≤ q) (h2 : q ≤ T.length) (h3 : e.length ≤ q) : (Res.ok a q e).wf T lo := ⟨h1, h2, h3⟩
theorem wf_bad {α : Type} {T : List Tk} {lo : Nat} (q : Nat) : (Res.bad q : Res α).wf T lo := trivial
theorem wf_bnd {α β : Type} {T : List Tk} {lo lo' : Nat} {r : Res α} {f : α → Nat → List (Nat × Nat) → Res β} (h : r.wf T lo) (hf : ∀ a q e, lo ≤ q → q ≤ T.length → e.length ≤ q → (f a q e).wf T lo') : (r.bnd f).wf T lo' := by
  cases r with
  | ok a q e => exact hf a q e h.1 h.2.1 h.2.2
  | bad q => trivial
theorem wf_isT {α : Type} {T : List Tk} {lo pos : Nat} {s : ByteArray} {x y : Res α} (hx : pos < T.length → x.wf T lo) (hy : y.wf T lo) : (if isT (tokAt T pos) s = true then x else y).wf T lo := by
  by_cases c : isT (tokAt T pos) s = true
  · rw [if_pos c]; exact hx (isT_lt c)
  · rw [if_neg c]; exact hy
theorem wf_if {α : Type} {T : List Tk} {lo : Nat} {c : Prop} [Decidable c] {x y : Res α} (hx : x.wf T lo) (hy : y.wf T lo) : (if c then x else y).wf T lo := by
  by_cases h : c
  · rw [if_pos h]; exact hx
  · rw [if_neg h]; exact hy
theorem wf_le {α : Type} {T : List Tk} {lo lo' : Nat} {r : Res α} (h : r.wf T lo) (hl : lo' ≤ lo) : r.wf T lo' := by
  cases r with
  | ok a q e => exact ⟨Nat.le_trans hl h.1, h.2.1, h.2.2⟩
  | bad q => trivial
theorem pRowsL_wf {T : List Tk} {one : Nat → List (Nat × Nat) → Res Nd} (hone : ∀ pos ex, pos ≤ T.length → ex.length ≤ pos → (one pos ex).wf T (pos + 1)) : ∀ (n : Nat) (acc : List Nd) (pos : Nat) (ex : List (Nat × Nat)), pos ≤ T.length → ex.length ≤ pos → (pRowsL T one n acc pos ex).wf T pos
  | 0, acc, pos, ex, _, _ => wf_bad _
  | n + 1, acc, pos, ex, hp, hx => by
    rw [pRowsL]
    refine wf_isT (fun hlt => ?_) (wf_ok (Nat.le_refl _) hp hx)
    have h1 := hone (pos + 1) ex (by omega) (by omega)
    cases h : one (pos + 1) ex with
    | bad q => exact wf_bad _
    | ok a q e =>
      rw [h] at h1
      obtain ⟨a1, a2, a3⟩ := h1
      exact wf_le (pRowsL_wf hone n _ q e a2 a3) (by omega)
theorem pRows_wf {T : List Tk} {one : Nat → List (Nat × Nat) → Res Nd} (hone : ∀ pos ex, pos ≤ T.length → ex.length ≤ pos → (one pos ex).wf T (pos + 1)) (pos : Nat) (ex : List (Nat × Nat)) (hp : pos ≤ T.length) (hx : ex.length ≤ pos) : (pRows T one pos ex).wf T (pos + 1) := by
  rw [pRows]
  have h1 := hone pos ex hp hx
  cases h : one pos ex with
  | bad q => exact wf_bad _
  | ok a q e =>
    rw [h] at h1
    obtain ⟨a1, a2, a3⟩ := h1
    exact wf_le (pRowsL_wf hone _ _ q e a2 a3) (by omega)
theorem pName_wf (pos : Nat) (ex : List (Nat × Nat)) (hp : pos ≤ T.length) (hx : ex.length ≤ pos) : (pName tx T pos ex).wf T (pos + 1) := by
  rw [pName]
  split
  · rename_i h
    have := tokAt_lt (T := T) (pos := pos) (by omega)
    exact wf_ok (by omega) (by omega) (by omega)
  · exact wf_bad _
theorem pNames_wf (pos : Nat) (ex : List (Nat × Nat)) (hp : pos ≤ T.length) (hx : ex.length ≤ pos) : (pNames tx T pos ex).wf T (pos + 1) := by
  rw [pNames]
  repeat (any_goals (first | with_reducible refine wf_ok (by omega) (by omega) (by first | omega | (simp only [List.length_append, List.length_cons, List.length_nil]; omega)) | with_reducible refine wf_bnd (pRows_wf (fun pos ex hp hx => pName_wf tx T pos ex hp hx) _ _ (by omega) (by omega)) (fun a q e hq1 hq2 hq3 => ?_)))
theorem pGates_wf (pos : Nat) (ex : List (Nat × Nat)) (hp : pos ≤ T.length) (hx : ex.length ≤ pos) : (pGates tx T pos ex).wf T pos := by
  rw [pGates]
  repeat (any_goals (first | with_reducible refine wf_isT (fun hlt => ?_) ?_ | with_reducible refine wf_ok (by omega) (by omega) (by first | omega | (simp only [List.length_append, List.length_cons, List.length_nil]; omega)) | with_reducible exact wf_bad _ | with_reducible refine wf_bnd (pRows_wf (fun pos ex hp hx => pName_wf tx T pos ex hp hx) _ _ (by omega) (by omega)) (fun a q e hq1 hq2 hq3 => ?_)))
theorem pShared_wf (kind : Int) (pos : Nat) (ex : List (Nat × Nat)) (hp : pos ≤ T.length) (hx : ex.length ≤ pos) : (pShared tx T kind pos ex).wf T (pos + 1) := by
  rw [pShared]
  repeat (any_goals (first | with_reducible refine wf_isT (fun hlt => ?_) ?_ | with_reducible refine wf_ok (by omega) (by omega) (by first | omega | (simp only [List.length_append, List.length_cons, List.length_nil]; omega)) | with_reducible exact wf_bad _ | with_reducible refine wf_bnd (pName_wf tx T _ _ (by omega) (by omega)) (fun a q e hq1 hq2 hq3 => ?_) | with_reducible refine wf_bnd (pRows_wf (fun pos ex hp hx => pName_wf tx T pos ex hp hx) _ _ (by omega) (by omega)) (fun a q e hq1 hq2 hq3 => ?_)))
theorem pDeclsL_wf : ∀ (n : Nat) (acc : List Nd) (pos : Nat) (ex : List (Nat × Nat)), pos ≤ T.length → ex.length ≤ pos → (pDeclsL tx T n acc pos ex).wf T pos
  | 0, acc, pos, ex, _, _ => wf_bad _
  | n + 1, acc, pos, ex, hp, hx => by
    rw [pDeclsL]
    refine wf_isT (fun hlt => ?_) (wf_ok (Nat.le_refl _) hp hx)
    refine wf_bnd (pShared_wf tx T _ _ _ (by omega) (by omega)) (fun a q e h1 h2 h3 => ?_)
    exact wf_le (pDeclsL_wf n _ q e h2 h3) (by omega)
theorem pDecls_wf (pos : Nat) (ex : List (Nat × Nat)) (hp : pos ≤ T.length) (hx : ex.length ≤ pos) : (pDecls tx T pos ex).wf T (pos + 1) := by
  rw [pDecls]
  refine wf_bnd (pShared_wf tx T _ _ _ hp hx) (fun a q e h1 h2 h3 => ?_)
  refine wf_bnd (pDeclsL_wf tx T _ _ q e h2 h3) (fun a q e h4 h5 h6 => ?_)
  exact wf_ok (by omega) h5 h6
theorem exprEnd_len : ∀ (n deep pos : Nat), pos ≤ T.length → exprEnd T n deep pos ≤ T.length
  | 0, _, pos, h => h
  | n + 1, deep, pos, h => by
    rw [exprEnd]
    split
    · rename_i d hd
      have := exprStep_lt T hd
      exact exprEnd_len n _ _ (by omega)
    · exact h
theorem pExpr_wf (pos : Nat) (ex : List (Nat × Nat)) (hp : pos ≤ T.length) (hx : ex.length ≤ pos) : (pExpr tx T pos ex).wf T (pos + 1) := by
  rw [pExpr]
  split
  · rename_i h
    obtain ⟨d, hd⟩ := opens_step h 0
    have h1 : pos + 1 ≤ exprEnd T (T.length + 1) 0 pos := by
      rw [exprEnd, hd]
      exact exprEnd_ge T T.length d (pos + 1)
    have h2 := exprEnd_len T (T.length + 1) 0 pos hp
    exact wf_ok h1 h2 (by simp only [List.length_append, List.length_cons, List.length_nil]; omega)
  · exact wf_bad _
/-- An equation. -/
def pEq (pos : Nat) (ex : List (Nat × Nat)) : Res Nd :=
  (pExpr tx T pos ex).bnd fun a q0 e0 =>
  if isT (tokAt T q0) ⟨#[61]⟩ = true then
  (pExpr tx T (q0 + 1) e0).bnd fun b q1 e1 =>
    .ok (.mk 14 0 ⟨#[]⟩ [a, b] (here tx T pos) (max (here tx T pos : Int) (behind T q1))) q1 e1
else .bad q0
theorem pEq_wf (pos : Nat) (ex : List (Nat × Nat)) (hp : pos ≤ T.length) (hx : ex.length ≤ pos) : (pEq tx T pos ex).wf T (pos + 1) := by
  rw [pEq]
  repeat (any_goals (first | with_reducible refine wf_isT (fun hlt => ?_) ?_ | with_reducible refine wf_ok (by omega) (by omega) (by first | omega | (simp only [List.length_append, List.length_cons, List.length_nil]; omega)) | with_reducible exact wf_bad _ | with_reducible refine wf_bnd (pExpr_wf tx T _ _ (by omega) (by omega)) (fun a q e hq1 hq2 hq3 => ?_)))
set_option maxRecDepth 20000 in set_option maxHeartbeats 4000000 in
theorem sim_eq (hT : Fit T) (pos : Nat) (ex : List (Nat × Nat)) (hp : pos ≤ T.length) : SimP I p tx T k 103 [ptr p] enc (pEq tx T) pos ex := by
  have hT' : T.length ≤ 1000000 := hT
  unfold SimP Rdr
  intro hxl
  rw [pEq]
  have g1 := sim_expr I p tx T k hT pos ex (by omega)
  unfold SimP Rdr at g1
  have w1 := pExpr_wf tx T pos ex (by omega) (by omega)
  cases h1 : pExpr tx T pos ex with
  | bad q0 =>
    rw [h1] at g1
    dsimp only [Res.bnd] at g1 ⊢
    refine sim_body' Tryz.func103 rfl rfl rfl ?_
    repeat (any_goals (first | refine s_at ?_ | refine s_move ?_ | refine s_nil ?_ | refine aw_seq ?_ | refine aw_seqr ?_ | refine s_alloc (fun _ => ?_) | refine s_store' ?_ | refine c_nd ?_ | (refine s_call (g1 ?_) (fun x τ' h => by cases h.1) (fun c τ' h env' => ?_); omega; obtain ⟨h1, _, _, rfl⟩ := h; cases h1)))
    (repeat (first | refine then_pan ?_)); exact post_pan ⟨_, .pan _, rfl, _, _, rfl⟩ pks
  | ok a q0 e0 =>
    rw [h1] at g1 w1
    dsimp only [Res.bnd] at g1 ⊢
    obtain ⟨_, _, _⟩ := w1
    rw [enc_ag] at g1
    by_cases c2 : isT (tokAt T q0) ⟨#[61]⟩ = true
    · rw [if_pos c2]; have hlt2 := isT_lt c2; try dsimp only [Res.bnd]
      have g3 := sim_expr I p tx T k hT (q0 + 1) e0 (by omega)
      unfold SimP Rdr at g3
      have w3 := pExpr_wf tx T (q0 + 1) e0 (by omega) (by omega)
      cases h3 : pExpr tx T (q0 + 1) e0 with
      | bad q1 =>
        rw [h3] at g3
        dsimp only [Res.bnd] at g3 ⊢
        refine sim_body' Tryz.func103 rfl rfl rfl ?_
        repeat (any_goals (first | refine s_at ?_ | refine s_move ?_ | refine s_loadd ?_ | refine s_nil ?_ | refine aw_seq ?_ | refine aw_seqr ?_ | refine s_alloc (fun _ => ?_) | refine s_store' ?_ | refine c_nd ?_ | refine c_uy ?_ | (refine s_call (g1 ?_) (fun x τ' h => ?_) (fun c τ' h => by cases h.1); omega; obtain ⟨h1, rfl, _, _⟩ := h; cases h1) | (refine s_call (g3 ?_) (fun x τ' h => by cases h.1) (fun c τ' h env' => ?_); omega; obtain ⟨h1, _, _, rfl⟩ := h; cases h1) | refine s_drawn 6 [2, 5] ?_))
        (repeat (first | refine then_pan ?_)); exact post_pan ⟨_, .pan _, rfl, _, _, rfl⟩ pks
      | ok b q1 e1 =>
        rw [h3] at g3 w3
        dsimp only [Res.bnd] at g3 ⊢
        obtain ⟨_, _, _⟩ := w3
        rw [enc_ag] at g3
        try dsimp only
        refine sim_body' Tryz.func103 rfl rfl rfl ?_
        repeat (any_goals (first | refine s_at ?_ | refine s_move ?_ | refine s_load ?_ | refine s_loadd ?_ | refine s_pure ?_ | refine s_nil ?_ | refine aw_seq ?_ | refine aw_seqr ?_ | refine s_alloc (fun _ => ?_) | refine s_store' ?_ | refine c_nd ?_ | refine c_dn ?_ | refine c_uy ?_ | (refine s_call (g1 ?_) (fun x τ' h => ?_) (fun c τ' h => by cases h.1); omega; obtain ⟨h1, rfl, _, _⟩ := h; cases h1) | (refine s_call (g3 ?_) (fun x τ' h => ?_) (fun c τ' h => by cases h.1); omega; obtain ⟨h1, rfl, _, _⟩ := h; cases h1) | refine s_drawn 6 [2, 5] ?_ | refine s_litq ?_))
        refine aw_ret ?_; (repeat (first | refine then_ret ?_)); refine post_of ⟨_, .ret _ _ ?_, rfl, rfl, by omega, by omega⟩ rvs pks
        refine sub_enc ?_
        simp only [encs, enc_ag]
        exact .refl _
    · rw [if_neg c2]; rw [Bool.not_eq_true] at c2; try dsimp only [Res.bnd]
      try dsimp only
      refine sim_body' Tryz.func103 rfl rfl rfl ?_
      repeat (any_goals (first | refine s_at ?_ | refine s_move ?_ | refine s_nil ?_ | refine aw_seq ?_ | refine aw_seqr ?_ | refine s_alloc (fun _ => ?_) | refine s_store' ?_ | refine c_nd ?_ | refine c_un (fun env' => ?_) | (refine s_call (g1 ?_) (fun x τ' h => ?_) (fun c τ' h => by cases h.1); omega; obtain ⟨h1, rfl, _, _⟩ := h; cases h1)))
      (repeat (first | refine then_pan ?_)); exact post_pan ⟨_, .pan _, rfl, _, _, rfl⟩ pks
/-- A variable with a value. -/
def pBind (pos : Nat) (ex : List (Nat × Nat)) : Res Nd :=
  (pName tx T pos ex).bnd fun a q0 e0 =>
  if isT (tokAt T q0) ⟨#[58]⟩ = true then
  (pName tx T (q0 + 1) e0).bnd fun so q1 e1 =>
    if isT (tokAt T q1) ⟨#[61]⟩ = true then
    (pExpr tx T (q1 + 1) e1).bnd fun x q2 e2 =>
      .ok (.mk 44 0 a.s [so, x] (here tx T pos) (max (here tx T pos : Int) (behind T q2))) q2 e2
  else .bad q1
else .bad q0
theorem pBind_wf (pos : Nat) (ex : List (Nat × Nat)) (hp : pos ≤ T.length) (hx : ex.length ≤ pos) : (pBind tx T pos ex).wf T (pos + 1) := by
  rw [pBind]
  repeat (any_goals (first | with_reducible refine wf_isT (fun hlt => ?_) ?_ | with_reducible refine wf_ok (by omega) (by omega) (by first | omega | (simp only [List.length_append, List.length_cons, List.length_nil]; omega)) | with_reducible exact wf_bad _ | with_reducible refine wf_bnd (pName_wf tx T _ _ (by omega) (by omega)) (fun a q e hq1 hq2 hq3 => ?_) | with_reducible refine wf_bnd (pExpr_wf tx T _ _ (by omega) (by omega)) (fun a q e hq1 hq2 hq3 => ?_)))
set_option maxRecDepth 20000 in set_option maxHeartbeats 4000000 in
theorem sim_bind (hT : Fit T) (pos : Nat) (ex : List (Nat × Nat)) (hp : pos ≤ T.length) : SimP I p tx T k 104 [ptr p] enc (pBind tx T) pos ex := by
  have hT' : T.length ≤ 1000000 := hT
  unfold SimP Rdr
  intro hxl
  rw [pBind]
  have g1 := sim_name I p tx T k hT pos ex (by omega)
  unfold SimP Rdr at g1
  have w1 := pName_wf tx T pos ex (by omega) (by omega)
  cases h1 : pName tx T pos ex with
  | bad q0 =>
    rw [h1] at g1
    dsimp only [Res.bnd] at g1 ⊢
    refine sim_body' Tryz.func104 rfl rfl rfl ?_
    repeat (any_goals (first | refine s_at ?_ | refine s_move ?_ | refine s_nil ?_ | refine aw_seq ?_ | refine aw_seqr ?_ | refine s_alloc (fun _ => ?_) | refine s_store' ?_ | refine c_nd ?_ | (refine s_call (g1 ?_) (fun x τ' h => by cases h.1) (fun c τ' h env' => ?_); omega; obtain ⟨h1, _, _, rfl⟩ := h; cases h1)))
    (repeat (first | refine then_pan ?_)); exact post_pan ⟨_, .pan _, rfl, _, _, rfl⟩ pks
  | ok a q0 e0 =>
    rw [h1] at g1 w1
    dsimp only [Res.bnd] at g1 ⊢
    obtain ⟨_, _, _⟩ := w1
    rw [enc_ag] at g1
    by_cases c2 : isT (tokAt T q0) ⟨#[58]⟩ = true
    · rw [if_pos c2]; have hlt2 := isT_lt c2; try dsimp only [Res.bnd]
      have g3 := sim_name I p tx T k hT (q0 + 1) e0 (by omega)
      unfold SimP Rdr at g3
      have w3 := pName_wf tx T (q0 + 1) e0 (by omega) (by omega)
      cases h3 : pName tx T (q0 + 1) e0 with
      | bad q1 =>
        rw [h3] at g3
        dsimp only [Res.bnd] at g3 ⊢
        refine sim_body' Tryz.func104 rfl rfl rfl ?_
        repeat (any_goals (first | refine s_at ?_ | refine s_move ?_ | refine s_pure ?_ | refine s_nil ?_ | refine aw_seq ?_ | refine aw_seqr ?_ | refine s_alloc (fun _ => ?_) | refine s_store' ?_ | refine c_nd ?_ | refine c_uy ?_ | (refine s_call (g1 ?_) (fun x τ' h => ?_) (fun c τ' h => by cases h.1); omega; obtain ⟨h1, rfl, _, _⟩ := h; cases h1) | (refine s_call (g3 ?_) (fun x τ' h => by cases h.1) (fun c τ' h env' => ?_); omega; obtain ⟨h1, _, _, rfl⟩ := h; cases h1)))
        (repeat (first | refine then_pan ?_)); exact post_pan ⟨_, .pan _, rfl, _, _, rfl⟩ pks
      | ok so q1 e1 =>
        rw [h3] at g3 w3
        dsimp only [Res.bnd] at g3 ⊢
        obtain ⟨_, _, _⟩ := w3
        rw [enc_ag] at g3
        by_cases c4 : isT (tokAt T q1) ⟨#[61]⟩ = true
        · rw [if_pos c4]; have hlt4 := isT_lt c4; try dsimp only [Res.bnd]
          have g5 := sim_expr I p tx T k hT (q1 + 1) e1 (by omega)
          unfold SimP Rdr at g5
          have w5 := pExpr_wf tx T (q1 + 1) e1 (by omega) (by omega)
          cases h5 : pExpr tx T (q1 + 1) e1 with
          | bad q2 =>
            rw [h5] at g5
            dsimp only [Res.bnd] at g5 ⊢
            refine sim_body' Tryz.func104 rfl rfl rfl ?_
            repeat (any_goals (first | refine s_at ?_ | refine s_move ?_ | refine s_loadd ?_ | refine s_pure ?_ | refine s_nil ?_ | refine aw_seq ?_ | refine aw_seqr ?_ | refine s_alloc (fun _ => ?_) | refine s_store' ?_ | refine c_nd ?_ | refine c_uy ?_ | (refine s_call (g1 ?_) (fun x τ' h => ?_) (fun c τ' h => by cases h.1); omega; obtain ⟨h1, rfl, _, _⟩ := h; cases h1) | (refine s_call (g3 ?_) (fun x τ' h => ?_) (fun c τ' h => by cases h.1); omega; obtain ⟨h1, rfl, _, _⟩ := h; cases h1) | (refine s_call (g5 ?_) (fun x τ' h => by cases h.1) (fun c τ' h env' => ?_); omega; obtain ⟨h1, _, _, rfl⟩ := h; cases h1) | refine s_drawn 6 [2, 5] ?_))
            (repeat (first | refine then_pan ?_)); exact post_pan ⟨_, .pan _, rfl, _, _, rfl⟩ pks
          | ok x q2 e2 =>
            rw [h5] at g5 w5
            dsimp only [Res.bnd] at g5 ⊢
            obtain ⟨_, _, _⟩ := w5
            rw [enc_ag] at g5
            try dsimp only
            refine sim_body' Tryz.func104 rfl rfl rfl ?_
            repeat (any_goals (first | refine s_at ?_ | refine s_move ?_ | refine s_load ?_ | refine s_loadd ?_ | refine s_pure ?_ | refine s_nil ?_ | refine aw_seq ?_ | refine aw_seqr ?_ | refine s_alloc (fun _ => ?_) | refine s_store' ?_ | refine c_nd ?_ | refine c_dn ?_ | refine c_uy ?_ | (refine s_call (g1 ?_) (fun x τ' h => ?_) (fun c τ' h => by cases h.1); omega; obtain ⟨h1, rfl, _, _⟩ := h; cases h1) | (refine s_call (g3 ?_) (fun x τ' h => ?_) (fun c τ' h => by cases h.1); omega; obtain ⟨h1, rfl, _, _⟩ := h; cases h1) | (refine s_call (g5 ?_) (fun x τ' h => ?_) (fun c τ' h => by cases h.1); omega; obtain ⟨h1, rfl, _, _⟩ := h; cases h1) | refine s_drawn 6 [2, 5] ?_ | refine s_litq ?_))
            refine aw_ret ?_; (repeat (first | refine then_ret ?_)); refine post_of ⟨_, .ret _ _ ?_, rfl, rfl, by omega, by omega⟩ rvs pks
            refine sub_enc ?_
            simp only [encs, enc_ag]
            exact .refl _
        · rw [if_neg c4]; rw [Bool.not_eq_true] at c4; try dsimp only [Res.bnd]
          try dsimp only
          refine sim_body' Tryz.func104 rfl rfl rfl ?_
          repeat (any_goals (first | refine s_at ?_ | refine s_move ?_ | refine s_pure ?_ | refine s_nil ?_ | refine aw_seq ?_ | refine aw_seqr ?_ | refine s_alloc (fun _ => ?_) | refine s_store' ?_ | refine c_nd ?_ | refine c_uy ?_ | refine c_un (fun env' => ?_) | (refine s_call (g1 ?_) (fun x τ' h => ?_) (fun c τ' h => by cases h.1); omega; obtain ⟨h1, rfl, _, _⟩ := h; cases h1) | (refine s_call (g3 ?_) (fun x τ' h => ?_) (fun c τ' h => by cases h.1); omega; obtain ⟨h1, rfl, _, _⟩ := h; cases h1)))
          (repeat (first | refine then_pan ?_)); exact post_pan ⟨_, .pan _, rfl, _, _, rfl⟩ pks
    · rw [if_neg c2]; rw [Bool.not_eq_true] at c2; try dsimp only [Res.bnd]
      try dsimp only
      refine sim_body' Tryz.func104 rfl rfl rfl ?_
      repeat (any_goals (first | refine s_at ?_ | refine s_move ?_ | refine s_pure ?_ | refine s_nil ?_ | refine aw_seq ?_ | refine aw_seqr ?_ | refine s_alloc (fun _ => ?_) | refine s_store' ?_ | refine c_nd ?_ | refine c_un (fun env' => ?_) | (refine s_call (g1 ?_) (fun x τ' h => ?_) (fun c τ' h => by cases h.1); omega; obtain ⟨h1, rfl, _, _⟩ := h; cases h1)))
      (repeat (first | refine then_pan ?_)); exact post_pan ⟨_, .pan _, rfl, _, _, rfl⟩ pks
/-- A name that stands for one of some gates. -/
def pGate (pos : Nat) (ex : List (Nat × Nat)) : Res Nd :=
  (pName tx T pos ex).bnd fun a q0 e0 =>
  if isT (tokAt T q0) ⟨#[105, 110]⟩ = true then
  if isT (tokAt T (q0 + 1)) ⟨#[91]⟩ = true then
    (pNames tx T ((q0 + 1) + 1) e0).bnd fun l q1 e1 =>
      if isT (tokAt T q1) ⟨#[93]⟩ = true then
      .ok (.mk 45 0 a.s [l] (here tx T pos) (max (here tx T pos : Int) (behind T (q1 + 1)))) (q1 + 1) e1
    else .bad q1
  else .bad (q0 + 1)
else .bad q0
theorem pGate_wf (pos : Nat) (ex : List (Nat × Nat)) (hp : pos ≤ T.length) (hx : ex.length ≤ pos) : (pGate tx T pos ex).wf T (pos + 1) := by
  rw [pGate]
  repeat (any_goals (first | with_reducible refine wf_isT (fun hlt => ?_) ?_ | with_reducible refine wf_ok (by omega) (by omega) (by first | omega | (simp only [List.length_append, List.length_cons, List.length_nil]; omega)) | with_reducible exact wf_bad _ | with_reducible refine wf_bnd (pName_wf tx T _ _ (by omega) (by omega)) (fun a q e hq1 hq2 hq3 => ?_) | with_reducible refine wf_bnd (pNames_wf tx T _ _ (by omega) (by omega)) (fun a q e hq1 hq2 hq3 => ?_)))
set_option maxRecDepth 20000 in set_option maxHeartbeats 4000000 in
theorem sim_gate (hT : Fit T) (pos : Nat) (ex : List (Nat × Nat)) (hp : pos ≤ T.length) : SimP I p tx T k 122 [ptr p] enc (pGate tx T) pos ex := by
  have hT' : T.length ≤ 1000000 := hT
  unfold SimP Rdr
  intro hxl
  rw [pGate]
  have g1 := sim_name I p tx T k hT pos ex (by omega)
  unfold SimP Rdr at g1
  have w1 := pName_wf tx T pos ex (by omega) (by omega)
  cases h1 : pName tx T pos ex with
  | bad q0 =>
    rw [h1] at g1
    dsimp only [Res.bnd] at g1 ⊢
    refine sim_body' Tryz.func122 rfl rfl rfl ?_
    repeat (any_goals (first | refine s_at ?_ | refine s_move ?_ | refine s_nil ?_ | refine aw_seq ?_ | refine aw_seqr ?_ | refine s_alloc (fun _ => ?_) | refine s_store' ?_ | refine c_nd ?_ | (refine s_call (g1 ?_) (fun x τ' h => by cases h.1) (fun c τ' h env' => ?_); omega; obtain ⟨h1, _, _, rfl⟩ := h; cases h1)))
    (repeat (first | refine then_pan ?_)); exact post_pan ⟨_, .pan _, rfl, _, _, rfl⟩ pks
  | ok a q0 e0 =>
    rw [h1] at g1 w1
    dsimp only [Res.bnd] at g1 ⊢
    obtain ⟨_, _, _⟩ := w1
    rw [enc_ag] at g1
    by_cases c2 : isT (tokAt T q0) ⟨#[105, 110]⟩ = true
    · rw [if_pos c2]; have hlt2 := isT_lt c2; try dsimp only [Res.bnd]
      by_cases c3 : isT (tokAt T (q0 + 1)) ⟨#[91]⟩ = true
      · rw [if_pos c3]; have hlt3 := isT_lt c3; try dsimp only [Res.bnd]
        have g4 := sim_names I p tx T k hT ((q0 + 1) + 1) e0 (by omega)
        unfold SimP Rdr at g4
        have w4 := pNames_wf tx T ((q0 + 1) + 1) e0 (by omega) (by omega)
        cases h4 : pNames tx T ((q0 + 1) + 1) e0 with
        | bad q1 =>
          rw [h4] at g4
          dsimp only [Res.bnd] at g4 ⊢
          refine sim_body' Tryz.func122 rfl rfl rfl ?_
          repeat (any_goals (first | refine s_at ?_ | refine s_move ?_ | refine s_pure ?_ | refine s_nil ?_ | refine aw_seq ?_ | refine aw_seqr ?_ | refine s_alloc (fun _ => ?_) | refine s_store' ?_ | refine c_nd ?_ | refine c_uy ?_ | (refine s_call (g1 ?_) (fun x τ' h => ?_) (fun c τ' h => by cases h.1); omega; obtain ⟨h1, rfl, _, _⟩ := h; cases h1) | (refine s_call (g4 ?_) (fun x τ' h => by cases h.1) (fun c τ' h env' => ?_); omega; obtain ⟨h1, _, _, rfl⟩ := h; cases h1)))
          (repeat (first | refine then_pan ?_)); exact post_pan ⟨_, .pan _, rfl, _, _, rfl⟩ pks
        | ok l q1 e1 =>
          rw [h4] at g4 w4
          dsimp only [Res.bnd] at g4 ⊢
          obtain ⟨_, _, _⟩ := w4
          rw [enc_ag] at g4
          by_cases c5 : isT (tokAt T q1) ⟨#[93]⟩ = true
          · rw [if_pos c5]; have hlt5 := isT_lt c5; try dsimp only [Res.bnd]
            try dsimp only
            refine sim_body' Tryz.func122 rfl rfl rfl ?_
            repeat (any_goals (first | refine s_at ?_ | refine s_move ?_ | refine s_load ?_ | refine s_pure ?_ | refine s_nil ?_ | refine aw_seq ?_ | refine aw_seqr ?_ | refine s_alloc (fun _ => ?_) | refine s_store' ?_ | refine c_nd ?_ | refine c_dn ?_ | refine c_uy ?_ | (refine s_call (g1 ?_) (fun x τ' h => ?_) (fun c τ' h => by cases h.1); omega; obtain ⟨h1, rfl, _, _⟩ := h; cases h1) | (refine s_call (g4 ?_) (fun x τ' h => ?_) (fun c τ' h => by cases h.1); omega; obtain ⟨h1, rfl, _, _⟩ := h; cases h1) | refine s_litq ?_))
            refine aw_ret ?_; (repeat (first | refine then_ret ?_)); refine post_of ⟨_, .ret _ _ ?_, rfl, rfl, by omega, by omega⟩ rvs pks
            refine sub_enc ?_
            simp only [encs, enc_ag]
            exact .refl _
          · rw [if_neg c5]; rw [Bool.not_eq_true] at c5; try dsimp only [Res.bnd]
            try dsimp only
            refine sim_body' Tryz.func122 rfl rfl rfl ?_
            repeat (any_goals (first | refine s_at ?_ | refine s_move ?_ | refine s_pure ?_ | refine s_nil ?_ | refine aw_seq ?_ | refine aw_seqr ?_ | refine s_alloc (fun _ => ?_) | refine s_store' ?_ | refine c_nd ?_ | refine c_uy ?_ | refine c_un (fun env' => ?_) | (refine s_call (g1 ?_) (fun x τ' h => ?_) (fun c τ' h => by cases h.1); omega; obtain ⟨h1, rfl, _, _⟩ := h; cases h1) | (refine s_call (g4 ?_) (fun x τ' h => ?_) (fun c τ' h => by cases h.1); omega; obtain ⟨h1, rfl, _, _⟩ := h; cases h1) | refine s_litq ?_))
            (repeat (first | refine then_pan ?_)); exact post_pan ⟨_, .pan _, rfl, _, _, rfl⟩ pks
      · rw [if_neg c3]; rw [Bool.not_eq_true] at c3; try dsimp only [Res.bnd]
        try dsimp only
        refine sim_body' Tryz.func122 rfl rfl rfl ?_
        repeat (any_goals (first | refine s_at ?_ | refine s_move ?_ | refine s_pure ?_ | refine s_nil ?_ | refine aw_seq ?_ | refine aw_seqr ?_ | refine s_alloc (fun _ => ?_) | refine s_store' ?_ | refine c_nd ?_ | refine c_uy ?_ | refine c_un (fun env' => ?_) | (refine s_call (g1 ?_) (fun x τ' h => ?_) (fun c τ' h => by cases h.1); omega; obtain ⟨h1, rfl, _, _⟩ := h; cases h1)))
        (repeat (first | refine then_pan ?_)); exact post_pan ⟨_, .pan _, rfl, _, _, rfl⟩ pks
    · rw [if_neg c2]; rw [Bool.not_eq_true] at c2; try dsimp only [Res.bnd]
      try dsimp only
      refine sim_body' Tryz.func122 rfl rfl rfl ?_
      repeat (any_goals (first | refine s_at ?_ | refine s_move ?_ | refine s_pure ?_ | refine s_nil ?_ | refine aw_seq ?_ | refine aw_seqr ?_ | refine s_alloc (fun _ => ?_) | refine s_store' ?_ | refine c_nd ?_ | refine c_un (fun env' => ?_) | (refine s_call (g1 ?_) (fun x τ' h => ?_) (fun c τ' h => by cases h.1); omega; obtain ⟨h1, rfl, _, _⟩ := h; cases h1)))
      (repeat (first | refine then_pan ?_)); exact post_pan ⟨_, .pan _, rfl, _, _, rfl⟩ pks
end
end Go.Proofs.YtjcocblohiglbaaGreatDoor
