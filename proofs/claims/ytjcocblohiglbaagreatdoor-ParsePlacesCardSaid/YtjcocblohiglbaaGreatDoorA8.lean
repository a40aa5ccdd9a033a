/- The reader of specifications: behaviours. Conditions: none. -/
import Derived.Test.YtjcocblohiglbaaGreatDoorA7
namespace Go.Proofs.YtjcocblohiglbaaGreatDoor
open Go.Dp
set_option linter.unusedVariables false
set_option linter.unusedSimpArgs false
section
variable (I : World → Prop) (p : Nat) (tx : ByteArray) (T : List Tk) (k : Nat)
/-- Choices. -/
def pSum (sub rec : Nat → List (Nat × Nat) → Res Nd) (pos : Nat) (ex : List (Nat × Nat)) : Res Nd :=
  (sub pos ex).bnd fun left q0 e0 =>
  if isT (tokAt T q0) ⟨#[91, 93]⟩ = true then
  (rec (q0 + 1) e0).bnd fun x q1 e1 =>
    .ok (.mk 23 0 ⟨#[]⟩ [left, x] (here tx T pos) (max (here tx T pos : Int) (behind T q1))) q1 e1
else
  .ok (left) q0 e0
theorem pSum_wf (sub rec : Nat → List (Nat × Nat) → Res Nd) (wsub : ∀ pos ex, pos ≤ T.length → ex.length ≤ pos → (sub pos ex).wf T (pos + 1)) (wrec : ∀ pos ex, pos ≤ T.length → ex.length ≤ pos → (rec pos ex).wf T (pos + 1)) (pos : Nat) (ex : List (Nat × Nat)) (hp : pos ≤ T.length) (hx : ex.length ≤ pos) : (pSum tx T sub rec pos ex).wf T (pos + 1) := by
  rw [pSum]
  repeat (any_goals (first | with_reducible refine wf_isT (fun hlt => ?_) ?_ | with_reducible refine wf_ok (by omega) (by omega) (by first | omega | (simp only [List.length_append, List.length_cons, List.length_nil]; omega)) | with_reducible refine wf_bnd (wsub _ _ (by omega) (by omega)) (fun a q e hq1 hq2 hq3 => ?_) | with_reducible refine wf_bnd (wrec _ _ (by omega) (by omega)) (fun a q e hq1 hq2 hq3 => ?_)))
set_option maxRecDepth 20000 in set_option maxHeartbeats 4000000 in
theorem sim_sum (hT : Fit T) (sub rec : Nat → List (Nat × Nat) → Res Nd) (wsub : ∀ pos ex, pos ≤ T.length → ex.length ≤ pos → (sub pos ex).wf T (pos + 1)) (wrec : ∀ pos ex, pos ≤ T.length → ex.length ≤ pos → (rec pos ex).wf T (pos + 1)) (pos : Nat) (ex : List (Nat × Nat)) (hp : pos ≤ T.length) (hsub : ∀ q ex, pos ≤ q → q ≤ T.length → SimP I p tx T k 88 [ptr p] enc sub q ex) (hrec : ∀ q ex, pos < q → q ≤ T.length → SimP I p tx T k 77 [ptr p] enc rec q ex) : SimP I p tx T k 77 [ptr p] enc (pSum tx T sub rec) pos ex := by
  have hT' : T.length ≤ 1000000 := hT
  unfold SimP Rdr
  intro hxl
  rw [pSum]
  have g1 := hsub pos ex (by omega) (by omega)
  unfold SimP Rdr at g1
  have w1 := wsub pos ex (by omega) (by omega)
  cases h1 : sub pos ex with
  | bad q0 =>
    rw [h1] at g1
    dsimp only [Res.bnd] at g1 ⊢
    refine sim_body' Tryz.func77 rfl rfl rfl ?_
    repeat (any_goals (first | refine s_at ?_ | refine s_move ?_ | refine s_nil ?_ | refine aw_seq ?_ | refine aw_seqr ?_ | refine s_alloc (fun _ => ?_) | refine s_store' ?_ | refine c_nd ?_ | (refine s_call (g1 ?_) (fun x τ' h => by cases h.1) (fun c τ' h env' => ?_); omega; obtain ⟨h1, _, _, rfl⟩ := h; cases h1)))
    (repeat (first | refine then_pan ?_)); exact post_pan ⟨_, .pan _, rfl, _, _, rfl⟩ pks
  | ok left q0 e0 =>
    rw [h1] at g1 w1
    dsimp only [Res.bnd] at g1 ⊢
    obtain ⟨_, _, _⟩ := w1
    rw [enc_ag] at g1
    by_cases c2 : isT (tokAt T q0) ⟨#[91, 93]⟩ = true
    · rw [if_pos c2]; have hlt2 := isT_lt c2; try dsimp only [Res.bnd]
      have g3 := hrec (q0 + 1) e0 (by omega) (by omega)
      unfold SimP Rdr at g3
      have w3 := wrec (q0 + 1) e0 (by omega) (by omega)
      cases h3 : rec (q0 + 1) e0 with
      | bad q1 =>
        rw [h3] at g3
        dsimp only [Res.bnd] at g3 ⊢
        refine sim_body' Tryz.func77 rfl rfl rfl ?_
        repeat (any_goals (first | refine s_at ?_ | refine s_skip ?_ | refine s_move ?_ | refine s_loadd ?_ | refine s_pure ?_ | refine s_nil ?_ | refine aw_seq ?_ | refine aw_seqr ?_ | refine aw_false ?_ | refine s_alloc (fun _ => ?_) | refine s_store' ?_ | refine c_nd ?_ | refine c_my ?_ | (refine s_call (g1 ?_) (fun x τ' h => ?_) (fun c τ' h => by cases h.1); omega; obtain ⟨h1, rfl, _, _⟩ := h; cases h1) | (refine s_call (g3 ?_) (fun x τ' h => by cases h.1) (fun c τ' h env' => ?_); omega; obtain ⟨h1, _, _, rfl⟩ := h; cases h1) | refine s_drawn 6 [2, 5] ?_))
        (repeat (first | refine then_pan ?_)); exact post_pan ⟨_, .pan _, rfl, _, _, rfl⟩ pks
      | ok x q1 e1 =>
        rw [h3] at g3 w3
        dsimp only [Res.bnd] at g3 ⊢
        obtain ⟨_, _, _⟩ := w3
        rw [enc_ag] at g3
        try dsimp only
        refine sim_body' Tryz.func77 rfl rfl rfl ?_
        repeat (any_goals (first | refine s_at ?_ | refine s_skip ?_ | refine s_move ?_ | refine s_load ?_ | refine s_loadd ?_ | refine s_pure ?_ | refine s_nil ?_ | refine aw_seq ?_ | refine aw_seqr ?_ | refine aw_false ?_ | refine s_alloc (fun _ => ?_) | refine s_store' ?_ | refine c_nd ?_ | refine c_dn ?_ | refine c_my ?_ | (refine s_call (g1 ?_) (fun x τ' h => ?_) (fun c τ' h => by cases h.1); omega; obtain ⟨h1, rfl, _, _⟩ := h; cases h1) | (refine s_call (g3 ?_) (fun x τ' h => ?_) (fun c τ' h => by cases h.1); omega; obtain ⟨h1, rfl, _, _⟩ := h; cases h1) | refine s_drawn 6 [2, 5] ?_ | refine s_litq ?_))
        refine aw_ret ?_; (repeat (first | refine then_ret ?_)); refine post_of ⟨_, .ret _ _ ?_, rfl, rfl, by omega, by omega⟩ rvs pks
        refine sub_enc ?_; (first | exact .nil 6 | exact .refl _ | (simp only [encs]; (first | refine .sl _ _ _ ?_ | refine .os _ _ _ _ ?_); (repeat (first | exact Subs.nil | (refine Subs.cons _ _ _ _ ?_ ?_; (first | exact sub_nil _ | exact sub_enc (.nil 6) | exact sub_enc (.refl _) | (rw [enc_ag]; exact .refl _))))))) 
    · rw [if_neg c2]; rw [Bool.not_eq_true] at c2; try dsimp only [Res.bnd]
      try dsimp only
      refine sim_body' Tryz.func77 rfl rfl rfl ?_
      repeat (any_goals (first | refine s_at ?_ | refine s_move ?_ | refine s_load ?_ | refine s_pure ?_ | refine s_nil ?_ | refine aw_seq ?_ | refine aw_seqr ?_ | refine aw_true ?_ | refine s_alloc (fun _ => ?_) | refine s_store' ?_ | refine c_nd ?_ | refine c_mn ?_ | (refine s_call (g1 ?_) (fun x τ' h => ?_) (fun c τ' h => by cases h.1); omega; obtain ⟨h1, rfl, _, _⟩ := h; cases h1)))
      refine aw_ret ?_; (repeat (first | refine then_ret ?_)); refine post_of ⟨_, .ret _ _ ?_, rfl, rfl, by omega, by omega⟩ rvs pks
      rw [enc_ag]
      exact .refl _
/-- Parallel compositions. -/
def pParts (sub rec : Nat → List (Nat × Nat) → Res Nd) (pos : Nat) (ex : List (Nat × Nat)) : Res Nd :=
  (sub pos ex).bnd fun left q0 e0 =>
  if isT (tokAt T q0) ⟨#[124, 124, 124]⟩ = true then
  (rec (q0 + 1) e0).bnd fun x q1 e1 =>
    .ok (.mk 24 0 (tokAt T q0).s [emptyAt (here tx T (q0 + 1)), left, x] (here tx T pos) (max (here tx T pos : Int) (behind T q1))) q1 e1
else
  if isT (tokAt T q0) ⟨#[124, 124]⟩ = true then
    (rec (q0 + 1) e0).bnd fun x q1 e1 =>
      .ok (.mk 24 0 (tokAt T q0).s [emptyAt (here tx T (q0 + 1)), left, x] (here tx T pos) (max (here tx T pos : Int) (behind T q1))) q1 e1
  else
    if isT (tokAt T q0) ⟨#[124, 91]⟩ = true then
      (pNames tx T (q0 + 1) e0).bnd fun l q1 e1 =>
        if isT (tokAt T q1) ⟨#[93, 124]⟩ = true then
        (rec (q1 + 1) e1).bnd fun x q2 e2 =>
          .ok (.mk 24 0 (tokAt T q0).s [l, left, x] (here tx T pos) (max (here tx T pos : Int) (behind T q2))) q2 e2
      else .bad q1
    else
      .ok (left) q0 e0
theorem pParts_wf (sub rec : Nat → List (Nat × Nat) → Res Nd) (wsub : ∀ pos ex, pos ≤ T.length → ex.length ≤ pos → (sub pos ex).wf T (pos + 1)) (wrec : ∀ pos ex, pos ≤ T.length → ex.length ≤ pos → (rec pos ex).wf T (pos + 1)) (pos : Nat) (ex : List (Nat × Nat)) (hp : pos ≤ T.length) (hx : ex.length ≤ pos) : (pParts tx T sub rec pos ex).wf T (pos + 1) := by
  rw [pParts]
  repeat (any_goals (first | with_reducible refine wf_isT (fun hlt => ?_) ?_ | with_reducible refine wf_ok (by omega) (by omega) (by first | omega | (simp only [List.length_append, List.length_cons, List.length_nil]; omega)) | with_reducible exact wf_bad _ | with_reducible refine wf_bnd (pNames_wf tx T _ _ (by omega) (by omega)) (fun a q e hq1 hq2 hq3 => ?_) | with_reducible refine wf_bnd (wsub _ _ (by omega) (by omega)) (fun a q e hq1 hq2 hq3 => ?_) | with_reducible refine wf_bnd (wrec _ _ (by omega) (by omega)) (fun a q e hq1 hq2 hq3 => ?_)))
set_option maxRecDepth 20000 in set_option maxHeartbeats 4000000 in
theorem sim_parts (hT : Fit T) (sub rec : Nat → List (Nat × Nat) → Res Nd) (wsub : ∀ pos ex, pos ≤ T.length → ex.length ≤ pos → (sub pos ex).wf T (pos + 1)) (wrec : ∀ pos ex, pos ≤ T.length → ex.length ≤ pos → (rec pos ex).wf T (pos + 1)) (pos : Nat) (ex : List (Nat × Nat)) (hp : pos ≤ T.length) (hsub : ∀ q ex, pos ≤ q → q ≤ T.length → SimP I p tx T k 77 [ptr p] enc sub q ex) (hrec : ∀ q ex, pos < q → q ≤ T.length → SimP I p tx T k 61 [ptr p] enc rec q ex) : SimP I p tx T k 61 [ptr p] enc (pParts tx T sub rec) pos ex := by
  have hT' : T.length ≤ 1000000 := hT
  unfold SimP Rdr
  intro hxl
  rw [pParts]
  have g1 := hsub pos ex (by omega) (by omega)
  unfold SimP Rdr at g1
  have w1 := wsub pos ex (by omega) (by omega)
  cases h1 : sub pos ex with
  | bad q0 =>
    rw [h1] at g1
    dsimp only [Res.bnd] at g1 ⊢
    refine sim_body' Tryz.func61 rfl rfl rfl ?_
    repeat (any_goals (first | refine s_at ?_ | refine s_move ?_ | refine s_nil ?_ | refine aw_seq ?_ | refine aw_seqr ?_ | refine s_alloc (fun _ => ?_) | refine s_store' ?_ | refine c_nd ?_ | (refine s_call (g1 ?_) (fun x τ' h => by cases h.1) (fun c τ' h env' => ?_); omega; obtain ⟨h1, _, _, rfl⟩ := h; cases h1)))
    (repeat (first | refine then_pan ?_)); exact post_pan ⟨_, .pan _, rfl, _, _, rfl⟩ pks
  | ok left q0 e0 =>
    rw [h1] at g1 w1
    dsimp only [Res.bnd] at g1 ⊢
    obtain ⟨_, _, _⟩ := w1
    rw [enc_ag] at g1
    by_cases c2 : isT (tokAt T q0) ⟨#[124, 124, 124]⟩ = true
    · rw [if_pos c2]; have hlt2 := isT_lt c2; try dsimp only [Res.bnd]
      have g3 := hrec (q0 + 1) e0 (by omega) (by omega)
      unfold SimP Rdr at g3
      have w3 := wrec (q0 + 1) e0 (by omega) (by omega)
      cases h3 : rec (q0 + 1) e0 with
      | bad q1 =>
        rw [h3] at g3
        dsimp only [Res.bnd] at g3 ⊢
        refine sim_body' Tryz.func61 rfl rfl rfl ?_
        repeat (any_goals (first | refine s_at ?_ | refine s_skip ?_ | refine s_move ?_ | refine s_assign ?_ | refine s_load ?_ | refine s_loadd ?_ | refine s_pure ?_ | refine s_nil ?_ | refine aw_seq ?_ | refine aw_seqr ?_ | refine aw_block ?_ | refine aw_true ?_ | refine s_alloc (fun _ => ?_) | refine s_store' ?_ | refine c_nd ?_ | refine c_em ?_ | refine c_nx ?_ | refine c_my ?_ | (refine s_call (g1 ?_) (fun x τ' h => ?_) (fun c τ' h => by cases h.1); omega; obtain ⟨h1, rfl, _, _⟩ := h; cases h1) | (refine s_call (g3 ?_) (fun x τ' h => by cases h.1) (fun c τ' h env' => ?_); omega; obtain ⟨h1, _, _, rfl⟩ := h; cases h1) | refine s_drawn 7 [3, 6] ?_))
        (repeat (first | refine then_pan ?_ | refine inb_pan ?_)); exact post_pan ⟨_, .pan _, rfl, _, _, rfl⟩ pks
      | ok x q1 e1 =>
        rw [h3] at g3 w3
        dsimp only [Res.bnd] at g3 ⊢
        obtain ⟨_, _, _⟩ := w3
        rw [enc_ag] at g3
        try dsimp only
        refine sim_body' Tryz.func61 rfl rfl rfl ?_
        repeat (any_goals (first | refine s_at ?_ | refine s_skip ?_ | refine s_move ?_ | refine s_assign ?_ | refine s_load ?_ | refine s_loadd ?_ | refine s_pure ?_ | refine s_nil ?_ | refine aw_seq ?_ | refine aw_seqr ?_ | refine aw_block ?_ | refine aw_true ?_ | refine s_alloc (fun _ => ?_) | refine s_store' ?_ | refine c_nd ?_ | refine c_em ?_ | refine c_nx ?_ | refine c_dn ?_ | refine c_my ?_ | (refine s_call (g1 ?_) (fun x τ' h => ?_) (fun c τ' h => by cases h.1); omega; obtain ⟨h1, rfl, _, _⟩ := h; cases h1) | (refine s_call (g3 ?_) (fun x τ' h => ?_) (fun c τ' h => by cases h.1); omega; obtain ⟨h1, rfl, _, _⟩ := h; cases h1) | refine s_drawn 7 [3, 6] ?_ | refine s_litq ?_))
        refine aw_ret ?_; (repeat (first | refine then_ret ?_)); refine post_of ⟨_, .ret _ _ ?_, rfl, rfl, by omega, by omega⟩ rvs pks
        refine sub_enc ?_; (first | exact .nil 6 | exact .refl _ | (simp only [encs]; (first | refine .sl _ _ _ ?_ | refine .os _ _ _ _ ?_); (repeat (first | exact Subs.nil | (refine Subs.cons _ _ _ _ ?_ ?_; (first | exact sub_nil _ | exact sub_enc (.nil 6) | exact sub_enc (.refl _) | (rw [enc_ag]; exact .refl _))))))) 
    · rw [if_neg c2]; rw [Bool.not_eq_true] at c2; try dsimp only [Res.bnd]
      by_cases c3 : isT (tokAt T q0) ⟨#[124, 124]⟩ = true
      · rw [if_pos c3]; have hlt3 := isT_lt c3; try dsimp only [Res.bnd]
        have g4 := hrec (q0 + 1) e0 (by omega) (by omega)
        unfold SimP Rdr at g4
        have w4 := wrec (q0 + 1) e0 (by omega) (by omega)
        cases h4 : rec (q0 + 1) e0 with
        | bad q1 =>
          rw [h4] at g4
          dsimp only [Res.bnd] at g4 ⊢
          refine sim_body' Tryz.func61 rfl rfl rfl ?_
          repeat (any_goals (first | refine s_at ?_ | refine s_move ?_ | refine s_assign ?_ | refine s_load ?_ | refine s_loadd ?_ | refine s_pure ?_ | refine s_nil ?_ | refine aw_seq ?_ | refine aw_seqr ?_ | refine aw_block ?_ | refine aw_true ?_ | refine aw_false ?_ | refine s_alloc (fun _ => ?_) | refine s_store' ?_ | refine c_nd ?_ | refine c_em ?_ | refine c_nx ?_ | refine c_my ?_ | refine c_mn ?_ | (refine s_call (g1 ?_) (fun x τ' h => ?_) (fun c τ' h => by cases h.1); omega; obtain ⟨h1, rfl, _, _⟩ := h; cases h1) | (refine s_call (g4 ?_) (fun x τ' h => by cases h.1) (fun c τ' h env' => ?_); omega; obtain ⟨h1, _, _, rfl⟩ := h; cases h1) | refine s_drawn 7 [3, 6] ?_))
          (repeat (first | refine then_pan ?_ | refine inb_pan ?_)); exact post_pan ⟨_, .pan _, rfl, _, _, rfl⟩ pks
        | ok x q1 e1 =>
          rw [h4] at g4 w4
          dsimp only [Res.bnd] at g4 ⊢
          obtain ⟨_, _, _⟩ := w4
          rw [enc_ag] at g4
          try dsimp only
          refine sim_body' Tryz.func61 rfl rfl rfl ?_
          repeat (any_goals (first | refine s_at ?_ | refine s_move ?_ | refine s_assign ?_ | refine s_load ?_ | refine s_loadd ?_ | refine s_pure ?_ | refine s_nil ?_ | refine aw_seq ?_ | refine aw_seqr ?_ | refine aw_block ?_ | refine aw_true ?_ | refine aw_false ?_ | refine s_alloc (fun _ => ?_) | refine s_store' ?_ | refine c_nd ?_ | refine c_em ?_ | refine c_nx ?_ | refine c_dn ?_ | refine c_my ?_ | refine c_mn ?_ | (refine s_call (g1 ?_) (fun x τ' h => ?_) (fun c τ' h => by cases h.1); omega; obtain ⟨h1, rfl, _, _⟩ := h; cases h1) | (refine s_call (g4 ?_) (fun x τ' h => ?_) (fun c τ' h => by cases h.1); omega; obtain ⟨h1, rfl, _, _⟩ := h; cases h1) | refine s_drawn 7 [3, 6] ?_ | refine s_litq ?_))
          refine aw_ret ?_; (repeat (first | refine then_ret ?_)); refine post_of ⟨_, .ret _ _ ?_, rfl, rfl, by omega, by omega⟩ rvs pks
          refine sub_enc ?_; (first | exact .nil 6 | exact .refl _ | (simp only [encs]; (first | refine .sl _ _ _ ?_ | refine .os _ _ _ _ ?_); (repeat (first | exact Subs.nil | (refine Subs.cons _ _ _ _ ?_ ?_; (first | exact sub_nil _ | exact sub_enc (.nil 6) | exact sub_enc (.refl _) | (rw [enc_ag]; exact .refl _))))))) 
      · rw [if_neg c3]; rw [Bool.not_eq_true] at c3; try dsimp only [Res.bnd]
        by_cases c4 : isT (tokAt T q0) ⟨#[124, 91]⟩ = true
        · rw [if_pos c4]; have hlt4 := isT_lt c4; try dsimp only [Res.bnd]
          have g5 := sim_names I p tx T k hT (q0 + 1) e0 (by omega)
          unfold SimP Rdr at g5
          have w5 := pNames_wf tx T (q0 + 1) e0 (by omega) (by omega)
          cases h5 : pNames tx T (q0 + 1) e0 with
          | bad q1 =>
            rw [h5] at g5
            dsimp only [Res.bnd] at g5 ⊢
            refine sim_body' Tryz.func61 rfl rfl rfl ?_
            repeat (any_goals (first | refine s_at ?_ | refine s_move ?_ | refine s_assign ?_ | refine s_load ?_ | refine s_pure ?_ | refine s_nil ?_ | refine aw_seq ?_ | refine aw_seqr ?_ | refine aw_block ?_ | refine aw_true ?_ | refine aw_false ?_ | refine s_alloc (fun _ => ?_) | refine s_store' ?_ | refine c_nd ?_ | refine c_nx ?_ | refine c_my ?_ | refine c_mn ?_ | (refine s_call (g1 ?_) (fun x τ' h => ?_) (fun c τ' h => by cases h.1); omega; obtain ⟨h1, rfl, _, _⟩ := h; cases h1) | (refine s_call (g5 ?_) (fun x τ' h => by cases h.1) (fun c τ' h env' => ?_); omega; obtain ⟨h1, _, _, rfl⟩ := h; cases h1)))
            (repeat (first | refine then_pan ?_ | refine inb_pan ?_)); exact post_pan ⟨_, .pan _, rfl, _, _, rfl⟩ pks
          | ok l q1 e1 =>
            rw [h5] at g5 w5
            dsimp only [Res.bnd] at g5 ⊢
            obtain ⟨_, _, _⟩ := w5
            rw [enc_ag] at g5
            by_cases c6 : isT (tokAt T q1) ⟨#[93, 124]⟩ = true
            · rw [if_pos c6]; have hlt6 := isT_lt c6; try dsimp only [Res.bnd]
              have g7 := hrec (q1 + 1) e1 (by omega) (by omega)
              unfold SimP Rdr at g7
              have w7 := wrec (q1 + 1) e1 (by omega) (by omega)
              cases h7 : rec (q1 + 1) e1 with
              | bad q2 =>
                rw [h7] at g7
                dsimp only [Res.bnd] at g7 ⊢
                refine sim_body' Tryz.func61 rfl rfl rfl ?_
                repeat (any_goals (first | refine s_at ?_ | refine s_move ?_ | refine s_assign ?_ | refine s_load ?_ | refine s_loadd ?_ | refine s_pure ?_ | refine s_nil ?_ | refine aw_seq ?_ | refine aw_seqr ?_ | refine aw_block ?_ | refine aw_true ?_ | refine aw_false ?_ | refine s_alloc (fun _ => ?_) | refine s_store' ?_ | refine c_nd ?_ | refine c_nx ?_ | refine c_my ?_ | refine c_mn ?_ | refine c_uy ?_ | (refine s_call (g1 ?_) (fun x τ' h => ?_) (fun c τ' h => by cases h.1); omega; obtain ⟨h1, rfl, _, _⟩ := h; cases h1) | (refine s_call (g5 ?_) (fun x τ' h => ?_) (fun c τ' h => by cases h.1); omega; obtain ⟨h1, rfl, _, _⟩ := h; cases h1) | (refine s_call (g7 ?_) (fun x τ' h => by cases h.1) (fun c τ' h env' => ?_); omega; obtain ⟨h1, _, _, rfl⟩ := h; cases h1) | refine s_drawn 7 [3, 6] ?_))
                (repeat (first | refine then_pan ?_ | refine inb_pan ?_)); exact post_pan ⟨_, .pan _, rfl, _, _, rfl⟩ pks
              | ok x q2 e2 =>
                rw [h7] at g7 w7
                dsimp only [Res.bnd] at g7 ⊢
                obtain ⟨_, _, _⟩ := w7
                rw [enc_ag] at g7
                try dsimp only
                refine sim_body' Tryz.func61 rfl rfl rfl ?_
                repeat (any_goals (first | refine s_at ?_ | refine s_move ?_ | refine s_assign ?_ | refine s_load ?_ | refine s_loadd ?_ | refine s_pure ?_ | refine s_nil ?_ | refine aw_seq ?_ | refine aw_seqr ?_ | refine aw_block ?_ | refine aw_true ?_ | refine aw_false ?_ | refine s_alloc (fun _ => ?_) | refine s_store' ?_ | refine c_nd ?_ | refine c_nx ?_ | refine c_dn ?_ | refine c_my ?_ | refine c_mn ?_ | refine c_uy ?_ | (refine s_call (g1 ?_) (fun x τ' h => ?_) (fun c τ' h => by cases h.1); omega; obtain ⟨h1, rfl, _, _⟩ := h; cases h1) | (refine s_call (g5 ?_) (fun x τ' h => ?_) (fun c τ' h => by cases h.1); omega; obtain ⟨h1, rfl, _, _⟩ := h; cases h1) | (refine s_call (g7 ?_) (fun x τ' h => ?_) (fun c τ' h => by cases h.1); omega; obtain ⟨h1, rfl, _, _⟩ := h; cases h1) | refine s_drawn 7 [3, 6] ?_ | refine s_litq ?_))
                refine aw_ret ?_; (repeat (first | refine then_ret ?_)); refine post_of ⟨_, .ret _ _ ?_, rfl, rfl, by omega, by omega⟩ rvs pks
                refine sub_enc ?_; (first | exact .nil 6 | exact .refl _ | (simp only [encs]; (first | refine .sl _ _ _ ?_ | refine .os _ _ _ _ ?_); (repeat (first | exact Subs.nil | (refine Subs.cons _ _ _ _ ?_ ?_; (first | exact sub_nil _ | exact sub_enc (.nil 6) | exact sub_enc (.refl _) | (rw [enc_ag]; exact .refl _))))))) 
            · rw [if_neg c6]; rw [Bool.not_eq_true] at c6; try dsimp only [Res.bnd]
              try dsimp only
              refine sim_body' Tryz.func61 rfl rfl rfl ?_
              repeat (any_goals (first | refine s_at ?_ | refine s_move ?_ | refine s_assign ?_ | refine s_load ?_ | refine s_pure ?_ | refine s_nil ?_ | refine aw_seq ?_ | refine aw_seqr ?_ | refine aw_block ?_ | refine aw_true ?_ | refine aw_false ?_ | refine s_alloc (fun _ => ?_) | refine s_store' ?_ | refine c_nd ?_ | refine c_nx ?_ | refine c_my ?_ | refine c_mn ?_ | refine c_un (fun env' => ?_) | (refine s_call (g1 ?_) (fun x τ' h => ?_) (fun c τ' h => by cases h.1); omega; obtain ⟨h1, rfl, _, _⟩ := h; cases h1) | (refine s_call (g5 ?_) (fun x τ' h => ?_) (fun c τ' h => by cases h.1); omega; obtain ⟨h1, rfl, _, _⟩ := h; cases h1)))
              (repeat (first | refine then_pan ?_ | refine inb_pan ?_)); exact post_pan ⟨_, .pan _, rfl, _, _, rfl⟩ pks
        · rw [if_neg c4]; rw [Bool.not_eq_true] at c4; try dsimp only [Res.bnd]
          try dsimp only
          refine sim_body' Tryz.func61 rfl rfl rfl ?_
          repeat (any_goals (first | refine s_at ?_ | refine s_move ?_ | refine s_assign ?_ | refine s_load ?_ | refine s_nil ?_ | refine aw_seq ?_ | refine aw_seqr ?_ | refine aw_block ?_ | refine aw_false ?_ | refine s_alloc (fun _ => ?_) | refine s_store' ?_ | refine c_nd ?_ | refine c_nx ?_ | refine c_mn ?_ | (refine s_call (g1 ?_) (fun x τ' h => ?_) (fun c τ' h => by cases h.1); omega; obtain ⟨h1, rfl, _, _⟩ := h; cases h1)))
          refine aw_ret ?_; (repeat (first | refine then_ret ?_ | refine inb_ret ?_)); refine post_of ⟨_, .ret _ _ ?_, rfl, rfl, by omega, by omega⟩ rvs pks
          rw [enc_ag]
          exact .refl _
/-- Disablings. -/
def pDis (sub rec : Nat → List (Nat × Nat) → Res Nd) (pos : Nat) (ex : List (Nat × Nat)) : Res Nd :=
  (sub pos ex).bnd fun left q0 e0 =>
  if isT (tokAt T q0) ⟨#[91, 62]⟩ = true then
  (rec (q0 + 1) e0).bnd fun x q1 e1 =>
    .ok (.mk 27 0 ⟨#[]⟩ [left, x] (here tx T pos) (max (here tx T pos : Int) (behind T q1))) q1 e1
else
  .ok (left) q0 e0
theorem pDis_wf (sub rec : Nat → List (Nat × Nat) → Res Nd) (wsub : ∀ pos ex, pos ≤ T.length → ex.length ≤ pos → (sub pos ex).wf T (pos + 1)) (wrec : ∀ pos ex, pos ≤ T.length → ex.length ≤ pos → (rec pos ex).wf T (pos + 1)) (pos : Nat) (ex : List (Nat × Nat)) (hp : pos ≤ T.length) (hx : ex.length ≤ pos) : (pDis tx T sub rec pos ex).wf T (pos + 1) := by
  rw [pDis]
  repeat (any_goals (first | with_reducible refine wf_isT (fun hlt => ?_) ?_ | with_reducible refine wf_ok (by omega) (by omega) (by first | omega | (simp only [List.length_append, List.length_cons, List.length_nil]; omega)) | with_reducible refine wf_bnd (wsub _ _ (by omega) (by omega)) (fun a q e hq1 hq2 hq3 => ?_) | with_reducible refine wf_bnd (wrec _ _ (by omega) (by omega)) (fun a q e hq1 hq2 hq3 => ?_)))
set_option maxRecDepth 20000 in set_option maxHeartbeats 4000000 in
theorem sim_dis (hT : Fit T) (sub rec : Nat → List (Nat × Nat) → Res Nd) (wsub : ∀ pos ex, pos ≤ T.length → ex.length ≤ pos → (sub pos ex).wf T (pos + 1)) (wrec : ∀ pos ex, pos ≤ T.length → ex.length ≤ pos → (rec pos ex).wf T (pos + 1)) (pos : Nat) (ex : List (Nat × Nat)) (hp : pos ≤ T.length) (hsub : ∀ q ex, pos ≤ q → q ≤ T.length → SimP I p tx T k 61 [ptr p] enc sub q ex) (hrec : ∀ q ex, pos < q → q ≤ T.length → SimP I p tx T k 37 [ptr p] enc rec q ex) : SimP I p tx T k 37 [ptr p] enc (pDis tx T sub rec) pos ex := by
  have hT' : T.length ≤ 1000000 := hT
  unfold SimP Rdr
  intro hxl
  rw [pDis]
  have g1 := hsub pos ex (by omega) (by omega)
  unfold SimP Rdr at g1
  have w1 := wsub pos ex (by omega) (by omega)
  cases h1 : sub pos ex with
  | bad q0 =>
    rw [h1] at g1
    dsimp only [Res.bnd] at g1 ⊢
    refine sim_body' Tryz.func37 rfl rfl rfl ?_
    repeat (any_goals (first | refine s_at ?_ | refine s_move ?_ | refine s_nil ?_ | refine aw_seq ?_ | refine aw_seqr ?_ | refine s_alloc (fun _ => ?_) | refine s_store' ?_ | refine c_nd ?_ | (refine s_call (g1 ?_) (fun x τ' h => by cases h.1) (fun c τ' h env' => ?_); omega; obtain ⟨h1, _, _, rfl⟩ := h; cases h1)))
    (repeat (first | refine then_pan ?_)); exact post_pan ⟨_, .pan _, rfl, _, _, rfl⟩ pks
  | ok left q0 e0 =>
    rw [h1] at g1 w1
    dsimp only [Res.bnd] at g1 ⊢
    obtain ⟨_, _, _⟩ := w1
    rw [enc_ag] at g1
    by_cases c2 : isT (tokAt T q0) ⟨#[91, 62]⟩ = true
    · rw [if_pos c2]; have hlt2 := isT_lt c2; try dsimp only [Res.bnd]
      have g3 := hrec (q0 + 1) e0 (by omega) (by omega)
      unfold SimP Rdr at g3
      have w3 := wrec (q0 + 1) e0 (by omega) (by omega)
      cases h3 : rec (q0 + 1) e0 with
      | bad q1 =>
        rw [h3] at g3
        dsimp only [Res.bnd] at g3 ⊢
        refine sim_body' Tryz.func37 rfl rfl rfl ?_
        repeat (any_goals (first | refine s_at ?_ | refine s_skip ?_ | refine s_move ?_ | refine s_loadd ?_ | refine s_pure ?_ | refine s_nil ?_ | refine aw_seq ?_ | refine aw_seqr ?_ | refine aw_false ?_ | refine s_alloc (fun _ => ?_) | refine s_store' ?_ | refine c_nd ?_ | refine c_my ?_ | (refine s_call (g1 ?_) (fun x τ' h => ?_) (fun c τ' h => by cases h.1); omega; obtain ⟨h1, rfl, _, _⟩ := h; cases h1) | (refine s_call (g3 ?_) (fun x τ' h => by cases h.1) (fun c τ' h env' => ?_); omega; obtain ⟨h1, _, _, rfl⟩ := h; cases h1) | refine s_drawn 6 [2, 5] ?_))
        (repeat (first | refine then_pan ?_)); exact post_pan ⟨_, .pan _, rfl, _, _, rfl⟩ pks
      | ok x q1 e1 =>
        rw [h3] at g3 w3
        dsimp only [Res.bnd] at g3 ⊢
        obtain ⟨_, _, _⟩ := w3
        rw [enc_ag] at g3
        try dsimp only
        refine sim_body' Tryz.func37 rfl rfl rfl ?_
        repeat (any_goals (first | refine s_at ?_ | refine s_skip ?_ | refine s_move ?_ | refine s_load ?_ | refine s_loadd ?_ | refine s_pure ?_ | refine s_nil ?_ | refine aw_seq ?_ | refine aw_seqr ?_ | refine aw_false ?_ | refine s_alloc (fun _ => ?_) | refine s_store' ?_ | refine c_nd ?_ | refine c_dn ?_ | refine c_my ?_ | (refine s_call (g1 ?_) (fun x τ' h => ?_) (fun c τ' h => by cases h.1); omega; obtain ⟨h1, rfl, _, _⟩ := h; cases h1) | (refine s_call (g3 ?_) (fun x τ' h => ?_) (fun c τ' h => by cases h.1); omega; obtain ⟨h1, rfl, _, _⟩ := h; cases h1) | refine s_drawn 6 [2, 5] ?_ | refine s_litq ?_))
        refine aw_ret ?_; (repeat (first | refine then_ret ?_)); refine post_of ⟨_, .ret _ _ ?_, rfl, rfl, by omega, by omega⟩ rvs pks
        refine sub_enc ?_; (first | exact .nil 6 | exact .refl _ | (simp only [encs]; (first | refine .sl _ _ _ ?_ | refine .os _ _ _ _ ?_); (repeat (first | exact Subs.nil | (refine Subs.cons _ _ _ _ ?_ ?_; (first | exact sub_nil _ | exact sub_enc (.nil 6) | exact sub_enc (.refl _) | (rw [enc_ag]; exact .refl _))))))) 
    · rw [if_neg c2]; rw [Bool.not_eq_true] at c2; try dsimp only [Res.bnd]
      try dsimp only
      refine sim_body' Tryz.func37 rfl rfl rfl ?_
      repeat (any_goals (first | refine s_at ?_ | refine s_move ?_ | refine s_load ?_ | refine s_pure ?_ | refine s_nil ?_ | refine aw_seq ?_ | refine aw_seqr ?_ | refine aw_true ?_ | refine s_alloc (fun _ => ?_) | refine s_store' ?_ | refine c_nd ?_ | refine c_mn ?_ | (refine s_call (g1 ?_) (fun x τ' h => ?_) (fun c τ' h => by cases h.1); omega; obtain ⟨h1, rfl, _, _⟩ := h; cases h1)))
      refine aw_ret ?_; (repeat (first | refine then_ret ?_)); refine post_of ⟨_, .ret _ _ ?_, rfl, rfl, by omega, by omega⟩ rvs pks
      rw [enc_ag]
      exact .refl _
/-- Behaviours. -/
def pBeh (sub rec : Nat → List (Nat × Nat) → Res Nd) (pos : Nat) (ex : List (Nat × Nat)) : Res Nd :=
  (sub pos ex).bnd fun left q0 e0 =>
  if isT (tokAt T q0) ⟨#[62, 62]⟩ = true then
  if isT (tokAt T (q0 + 1)) ⟨#[97, 99, 99, 101, 112, 116]⟩ = true then
    (pDecls tx T ((q0 + 1) + 1) e0).bnd fun d q1 e1 =>
      if isT (tokAt T q1) ⟨#[105, 110]⟩ = true then
      (rec (q1 + 1) e1).bnd fun x q2 e2 =>
        .ok (.mk 26 0 ⟨#[]⟩ [d, left, x] (here tx T pos) (max (here tx T pos : Int) (behind T q2))) q2 e2
    else .bad q1
  else
    (rec (q0 + 1) e0).bnd fun x q1 e1 =>
      .ok (.mk 26 0 ⟨#[]⟩ [emptyAt (here tx T (q0 + 1)), left, x] (here tx T pos) (max (here tx T pos : Int) (behind T q1))) q1 e1
else
  .ok (left) q0 e0
theorem pBeh_wf (sub rec : Nat → List (Nat × Nat) → Res Nd) (wsub : ∀ pos ex, pos ≤ T.length → ex.length ≤ pos → (sub pos ex).wf T (pos + 1)) (wrec : ∀ pos ex, pos ≤ T.length → ex.length ≤ pos → (rec pos ex).wf T (pos + 1)) (pos : Nat) (ex : List (Nat × Nat)) (hp : pos ≤ T.length) (hx : ex.length ≤ pos) : (pBeh tx T sub rec pos ex).wf T (pos + 1) := by
  rw [pBeh]
  repeat (any_goals (first | with_reducible refine wf_isT (fun hlt => ?_) ?_ | with_reducible refine wf_ok (by omega) (by omega) (by first | omega | (simp only [List.length_append, List.length_cons, List.length_nil]; omega)) | with_reducible exact wf_bad _ | with_reducible refine wf_bnd (pDecls_wf tx T _ _ (by omega) (by omega)) (fun a q e hq1 hq2 hq3 => ?_) | with_reducible refine wf_bnd (wsub _ _ (by omega) (by omega)) (fun a q e hq1 hq2 hq3 => ?_) | with_reducible refine wf_bnd (wrec _ _ (by omega) (by omega)) (fun a q e hq1 hq2 hq3 => ?_)))
set_option maxRecDepth 20000 in set_option maxHeartbeats 4000000 in
theorem sim_beh (hT : Fit T) (sub rec : Nat → List (Nat × Nat) → Res Nd) (wsub : ∀ pos ex, pos ≤ T.length → ex.length ≤ pos → (sub pos ex).wf T (pos + 1)) (wrec : ∀ pos ex, pos ≤ T.length → ex.length ≤ pos → (rec pos ex).wf T (pos + 1)) (pos : Nat) (ex : List (Nat × Nat)) (hp : pos ≤ T.length) (hsub : ∀ q ex, pos ≤ q → q ≤ T.length → SimP I p tx T k 37 [ptr p] enc sub q ex) (hrec : ∀ q ex, pos < q → q ≤ T.length → SimP I p tx T k 23 [ptr p] enc rec q ex) : SimP I p tx T k 23 [ptr p] enc (pBeh tx T sub rec) pos ex := by
  have hT' : T.length ≤ 1000000 := hT
  unfold SimP Rdr
  intro hxl
  rw [pBeh]
  have g1 := hsub pos ex (by omega) (by omega)
  unfold SimP Rdr at g1
  have w1 := wsub pos ex (by omega) (by omega)
  cases h1 : sub pos ex with
  | bad q0 =>
    rw [h1] at g1
    dsimp only [Res.bnd] at g1 ⊢
    refine sim_body' Tryz.func23 rfl rfl rfl ?_
    repeat (any_goals (first | refine s_at ?_ | refine s_move ?_ | refine s_nil ?_ | refine aw_seq ?_ | refine aw_seqr ?_ | refine s_alloc (fun _ => ?_) | refine s_store' ?_ | refine c_nd ?_ | (refine s_call (g1 ?_) (fun x τ' h => by cases h.1) (fun c τ' h env' => ?_); omega; obtain ⟨h1, _, _, rfl⟩ := h; cases h1)))
    (repeat (first | refine then_pan ?_)); exact post_pan ⟨_, .pan _, rfl, _, _, rfl⟩ pks
  | ok left q0 e0 =>
    rw [h1] at g1 w1
    dsimp only [Res.bnd] at g1 ⊢
    obtain ⟨_, _, _⟩ := w1
    rw [enc_ag] at g1
    by_cases c2 : isT (tokAt T q0) ⟨#[62, 62]⟩ = true
    · rw [if_pos c2]; have hlt2 := isT_lt c2; try dsimp only [Res.bnd]
      by_cases c3 : isT (tokAt T (q0 + 1)) ⟨#[97, 99, 99, 101, 112, 116]⟩ = true
      · rw [if_pos c3]; have hlt3 := isT_lt c3; try dsimp only [Res.bnd]
        have g4 := sim_decls I p tx T k hT ((q0 + 1) + 1) e0 (by omega)
        unfold SimP Rdr at g4
        have w4 := pDecls_wf tx T ((q0 + 1) + 1) e0 (by omega) (by omega)
        cases h4 : pDecls tx T ((q0 + 1) + 1) e0 with
        | bad q1 =>
          rw [h4] at g4
          dsimp only [Res.bnd] at g4 ⊢
          refine sim_body' Tryz.func23 rfl rfl rfl ?_
          repeat (any_goals (first | refine s_at ?_ | refine s_skip ?_ | refine s_move ?_ | refine s_pure ?_ | refine s_nil ?_ | refine aw_seq ?_ | refine aw_seqr ?_ | refine aw_true ?_ | refine aw_false ?_ | refine s_alloc (fun _ => ?_) | refine s_store' ?_ | refine c_nd ?_ | refine c_em ?_ | refine c_my ?_ | (refine s_call (g1 ?_) (fun x τ' h => ?_) (fun c τ' h => by cases h.1); omega; obtain ⟨h1, rfl, _, _⟩ := h; cases h1) | (refine s_call (g4 ?_) (fun x τ' h => by cases h.1) (fun c τ' h env' => ?_); omega; obtain ⟨h1, _, _, rfl⟩ := h; cases h1)))
          (repeat (first | refine then_pan ?_)); exact post_pan ⟨_, .pan _, rfl, _, _, rfl⟩ pks
        | ok d q1 e1 =>
          rw [h4] at g4 w4
          dsimp only [Res.bnd] at g4 ⊢
          obtain ⟨_, _, _⟩ := w4
          rw [enc_ag] at g4
          by_cases c5 : isT (tokAt T q1) ⟨#[105, 110]⟩ = true
          · rw [if_pos c5]; have hlt5 := isT_lt c5; try dsimp only [Res.bnd]
            have g6 := hrec (q1 + 1) e1 (by omega) (by omega)
            unfold SimP Rdr at g6
            have w6 := wrec (q1 + 1) e1 (by omega) (by omega)
            cases h6 : rec (q1 + 1) e1 with
            | bad q2 =>
              rw [h6] at g6
              dsimp only [Res.bnd] at g6 ⊢
              refine sim_body' Tryz.func23 rfl rfl rfl ?_
              repeat (any_goals (first | refine s_at ?_ | refine s_skip ?_ | refine s_move ?_ | refine s_loadd ?_ | refine s_pure ?_ | refine s_nil ?_ | refine aw_seq ?_ | refine aw_seqr ?_ | refine aw_true ?_ | refine aw_false ?_ | refine s_alloc (fun _ => ?_) | refine s_store' ?_ | refine c_nd ?_ | refine c_em ?_ | refine c_my ?_ | refine c_uy ?_ | (refine s_call (g1 ?_) (fun x τ' h => ?_) (fun c τ' h => by cases h.1); omega; obtain ⟨h1, rfl, _, _⟩ := h; cases h1) | (refine s_call (g4 ?_) (fun x τ' h => ?_) (fun c τ' h => by cases h.1); omega; obtain ⟨h1, rfl, _, _⟩ := h; cases h1) | (refine s_call (g6 ?_) (fun x τ' h => by cases h.1) (fun c τ' h env' => ?_); omega; obtain ⟨h1, _, _, rfl⟩ := h; cases h1) | refine s_drawn 7 [3, 6] ?_))
              (repeat (first | refine then_pan ?_)); exact post_pan ⟨_, .pan _, rfl, _, _, rfl⟩ pks
            | ok x q2 e2 =>
              rw [h6] at g6 w6
              dsimp only [Res.bnd] at g6 ⊢
              obtain ⟨_, _, _⟩ := w6
              rw [enc_ag] at g6
              try dsimp only
              refine sim_body' Tryz.func23 rfl rfl rfl ?_
              repeat (any_goals (first | refine s_at ?_ | refine s_skip ?_ | refine s_move ?_ | refine s_load ?_ | refine s_loadd ?_ | refine s_pure ?_ | refine s_nil ?_ | refine aw_seq ?_ | refine aw_seqr ?_ | refine aw_true ?_ | refine aw_false ?_ | refine s_alloc (fun _ => ?_) | refine s_store' ?_ | refine c_nd ?_ | refine c_em ?_ | refine c_dn ?_ | refine c_my ?_ | refine c_uy ?_ | (refine s_call (g1 ?_) (fun x τ' h => ?_) (fun c τ' h => by cases h.1); omega; obtain ⟨h1, rfl, _, _⟩ := h; cases h1) | (refine s_call (g4 ?_) (fun x τ' h => ?_) (fun c τ' h => by cases h.1); omega; obtain ⟨h1, rfl, _, _⟩ := h; cases h1) | (refine s_call (g6 ?_) (fun x τ' h => ?_) (fun c τ' h => by cases h.1); omega; obtain ⟨h1, rfl, _, _⟩ := h; cases h1) | refine s_drawn 7 [3, 6] ?_ | refine s_litq ?_))
              refine aw_ret ?_; (repeat (first | refine then_ret ?_)); refine post_of ⟨_, .ret _ _ ?_, rfl, rfl, by omega, by omega⟩ rvs pks
              refine sub_enc ?_; (first | exact .nil 6 | exact .refl _ | (simp only [encs]; (first | refine .sl _ _ _ ?_ | refine .os _ _ _ _ ?_); (repeat (first | exact Subs.nil | (refine Subs.cons _ _ _ _ ?_ ?_; (first | exact sub_nil _ | exact sub_enc (.nil 6) | exact sub_enc (.refl _) | (rw [enc_ag]; exact .refl _))))))) 
          · rw [if_neg c5]; rw [Bool.not_eq_true] at c5; try dsimp only [Res.bnd]
            try dsimp only
            refine sim_body' Tryz.func23 rfl rfl rfl ?_
            repeat (any_goals (first | refine s_at ?_ | refine s_skip ?_ | refine s_move ?_ | refine s_pure ?_ | refine s_nil ?_ | refine aw_seq ?_ | refine aw_seqr ?_ | refine aw_true ?_ | refine aw_false ?_ | refine s_alloc (fun _ => ?_) | refine s_store' ?_ | refine c_nd ?_ | refine c_em ?_ | refine c_my ?_ | refine c_un (fun env' => ?_) | (refine s_call (g1 ?_) (fun x τ' h => ?_) (fun c τ' h => by cases h.1); omega; obtain ⟨h1, rfl, _, _⟩ := h; cases h1) | (refine s_call (g4 ?_) (fun x τ' h => ?_) (fun c τ' h => by cases h.1); omega; obtain ⟨h1, rfl, _, _⟩ := h; cases h1)))
            (repeat (first | refine then_pan ?_)); exact post_pan ⟨_, .pan _, rfl, _, _, rfl⟩ pks
      · rw [if_neg c3]; rw [Bool.not_eq_true] at c3; try dsimp only [Res.bnd]
        have g4 := hrec (q0 + 1) e0 (by omega) (by omega)
        unfold SimP Rdr at g4
        have w4 := wrec (q0 + 1) e0 (by omega) (by omega)
        cases h4 : rec (q0 + 1) e0 with
        | bad q1 =>
          rw [h4] at g4
          dsimp only [Res.bnd] at g4 ⊢
          refine sim_body' Tryz.func23 rfl rfl rfl ?_
          repeat (any_goals (first | refine s_at ?_ | refine s_skip ?_ | refine s_move ?_ | refine s_loadd ?_ | refine s_pure ?_ | refine s_nil ?_ | refine aw_seq ?_ | refine aw_seqr ?_ | refine aw_false ?_ | refine s_alloc (fun _ => ?_) | refine s_store' ?_ | refine c_nd ?_ | refine c_em ?_ | refine c_my ?_ | refine c_mn ?_ | (refine s_call (g1 ?_) (fun x τ' h => ?_) (fun c τ' h => by cases h.1); omega; obtain ⟨h1, rfl, _, _⟩ := h; cases h1) | (refine s_call (g4 ?_) (fun x τ' h => by cases h.1) (fun c τ' h env' => ?_); omega; obtain ⟨h1, _, _, rfl⟩ := h; cases h1) | refine s_drawn 7 [3, 6] ?_))
          (repeat (first | refine then_pan ?_)); exact post_pan ⟨_, .pan _, rfl, _, _, rfl⟩ pks
        | ok x q1 e1 =>
          rw [h4] at g4 w4
          dsimp only [Res.bnd] at g4 ⊢
          obtain ⟨_, _, _⟩ := w4
          rw [enc_ag] at g4
          try dsimp only
          refine sim_body' Tryz.func23 rfl rfl rfl ?_
          repeat (any_goals (first | refine s_at ?_ | refine s_skip ?_ | refine s_move ?_ | refine s_load ?_ | refine s_loadd ?_ | refine s_pure ?_ | refine s_nil ?_ | refine aw_seq ?_ | refine aw_seqr ?_ | refine aw_false ?_ | refine s_alloc (fun _ => ?_) | refine s_store' ?_ | refine c_nd ?_ | refine c_em ?_ | refine c_dn ?_ | refine c_my ?_ | refine c_mn ?_ | (refine s_call (g1 ?_) (fun x τ' h => ?_) (fun c τ' h => by cases h.1); omega; obtain ⟨h1, rfl, _, _⟩ := h; cases h1) | (refine s_call (g4 ?_) (fun x τ' h => ?_) (fun c τ' h => by cases h.1); omega; obtain ⟨h1, rfl, _, _⟩ := h; cases h1) | refine s_drawn 7 [3, 6] ?_ | refine s_litq ?_))
          refine aw_ret ?_; (repeat (first | refine then_ret ?_)); refine post_of ⟨_, .ret _ _ ?_, rfl, rfl, by omega, by omega⟩ rvs pks
          refine sub_enc ?_; (first | exact .nil 6 | exact .refl _ | (simp only [encs]; (first | refine .sl _ _ _ ?_ | refine .os _ _ _ _ ?_); (repeat (first | exact Subs.nil | (refine Subs.cons _ _ _ _ ?_ ?_; (first | exact sub_nil _ | exact sub_enc (.nil 6) | exact sub_enc (.refl _) | (rw [enc_ag]; exact .refl _))))))) 
    · rw [if_neg c2]; rw [Bool.not_eq_true] at c2; try dsimp only [Res.bnd]
      try dsimp only
      refine sim_body' Tryz.func23 rfl rfl rfl ?_
      repeat (any_goals (first | refine s_at ?_ | refine s_move ?_ | refine s_load ?_ | refine s_pure ?_ | refine s_nil ?_ | refine aw_seq ?_ | refine aw_seqr ?_ | refine aw_true ?_ | refine s_alloc (fun _ => ?_) | refine s_store' ?_ | refine c_nd ?_ | refine c_mn ?_ | (refine s_call (g1 ?_) (fun x τ' h => ?_) (fun c τ' h => by cases h.1); omega; obtain ⟨h1, rfl, _, _⟩ := h; cases h1)))
      refine aw_ret ?_; (repeat (first | refine then_ret ?_)); refine post_of ⟨_, .ret _ _ ?_, rfl, rfl, by omega, by omega⟩ rvs pks
      rw [enc_ag]
      exact .refl _
/-- All behaviours: the first number is the fuel; levels: 0 what no operator divides, 1 choices, 2 parallel compositions, 3 disablings, 4 behaviours. -/
def pB : Nat → Nat → Nat → List (Nat × Nat) → Res Nd
  | 0, _ => fun pos _ => .bad pos
  | n + 1, 0 => pPre tx T (pB n 0) (pB n 4)
  | n + 1, 1 => pSum tx T (pB n 0) (pB n 1)
  | n + 1, 2 => pParts tx T (pB n 1) (pB n 2)
  | n + 1, 3 => pDis tx T (pB n 2) (pB n 3)
  | n + 1, _ + 4 => pBeh tx T (pB n 3) (pB n 4)
theorem pB_wf : ∀ (n lv pos : Nat) (ex : List (Nat × Nat)), pos ≤ T.length → ex.length ≤ pos → (pB tx T n lv pos ex).wf T (pos + 1)
  | 0, _, pos, ex, _, _ => by rw [pB]; exact wf_bad _
  | n + 1, 0, pos, ex, hp, hx => by rw [pB]; exact pPre_wf tx T _ _ (pB_wf n 0) (pB_wf n 4) pos ex hp hx
  | n + 1, 1, pos, ex, hp, hx => by rw [pB]; exact pSum_wf tx T _ _ (pB_wf n 0) (pB_wf n 1) pos ex hp hx
  | n + 1, 2, pos, ex, hp, hx => by rw [pB]; exact pParts_wf tx T _ _ (pB_wf n 1) (pB_wf n 2) pos ex hp hx
  | n + 1, 3, pos, ex, hp, hx => by rw [pB]; exact pDis_wf tx T _ _ (pB_wf n 2) (pB_wf n 3) pos ex hp hx
  | n + 1, m + 4, pos, ex, hp, hx => by rw [pB]; exact pBeh_wf tx T _ _ (pB_wf n 3) (pB_wf n 4) pos ex hp hx
def lvGo : Nat → FuncId
  | 0 => 88
  | 1 => 77
  | 2 => 61
  | 3 => 37
  | _ => 23
theorem sim_pB (hT : Fit T) (hN : Nums T) (hi : ItoaOk I) : ∀ (n lv pos : Nat) (ex : List (Nat × Nat)), lv ≤ 4 → pos ≤ T.length → 8 * (T.length - pos) + lv < n → SimP I p tx T k (lvGo lv) [ptr p] enc (pB tx T n lv) pos ex := by
  intro n
  induction n with
  | zero => intro lv pos ex _ _ h; omega
  | succ n ih =>
    intro lv pos ex hl hp hn
    match lv, hl with
    | 0, _ => exact SimP.of (m' := pPre tx T (pB tx T n 0) (pB tx T n 4)) (by rw [pB]) (sim_pre I p tx T k hT hN hi _ _ (pB_wf tx T n 0) (pB_wf tx T n 4) pos ex hp (fun q ex h1 h2 => ih 0 q ex (by omega) h2 (by omega)) (fun q ex h1 h2 => ih 4 q ex (by omega) h2 (by omega)))
    | 1, _ => exact SimP.of (m' := pSum tx T (pB tx T n 0) (pB tx T n 1)) (by rw [pB]) (sim_sum I p tx T k hT _ _ (pB_wf tx T n 0) (pB_wf tx T n 1) pos ex hp (fun q ex h1 h2 => ih 0 q ex (by omega) h2 (by omega)) (fun q ex h1 h2 => ih 1 q ex (by omega) h2 (by omega)))
    | 2, _ => exact SimP.of (m' := pParts tx T (pB tx T n 1) (pB tx T n 2)) (by rw [pB]) (sim_parts I p tx T k hT _ _ (pB_wf tx T n 1) (pB_wf tx T n 2) pos ex hp (fun q ex h1 h2 => ih 1 q ex (by omega) h2 (by omega)) (fun q ex h1 h2 => ih 2 q ex (by omega) h2 (by omega)))
    | 3, _ => exact SimP.of (m' := pDis tx T (pB tx T n 2) (pB tx T n 3)) (by rw [pB]) (sim_dis I p tx T k hT _ _ (pB_wf tx T n 2) (pB_wf tx T n 3) pos ex hp (fun q ex h1 h2 => ih 2 q ex (by omega) h2 (by omega)) (fun q ex h1 h2 => ih 3 q ex (by omega) h2 (by omega)))
    | 4, _ => exact SimP.of (m' := pBeh tx T (pB tx T n 3) (pB tx T n 4)) (by rw [pB]) (sim_beh I p tx T k hT _ _ (pB_wf tx T n 3) (pB_wf tx T n 4) pos ex hp (fun q ex h1 h2 => ih 3 q ex (by omega) h2 (by omega)) (fun q ex h1 h2 => ih 4 q ex (by omega) h2 (by omega)))
/-- A behaviour, from the first token on. -/
def pBehaviour (pos : Nat) (ex : List (Nat × Nat)) : Res Nd := pB tx T (8 * T.length + 8) 4 pos ex
theorem sim_behaviour (hT : Fit T) (hN : Nums T) (hi : ItoaOk I) (pos : Nat) (ex : List (Nat × Nat)) (hp : pos ≤ T.length) : SimP I p tx T k 23 [ptr p] enc (pBehaviour tx T) pos ex :=
  sim_pB I p tx T k hT hN hi (8 * T.length + 8) 4 pos ex (Nat.le_refl _) hp (by omega)

end
end Go.Proofs.YtjcocblohiglbaaGreatDoor
