/- The reader of specifications: behaviours that no operator divides, case by case. Conditions: none. -/
import Derived.Test.YtjcocblohiglbaaGreatDoorA5
namespace Go.Proofs.YtjcocblohiglbaaGreatDoor
open Go.Dp
set_option linter.unusedVariables false
set_option linter.unusedSimpArgs false
section
variable (I : World → Prop) (p : Nat) (tx : ByteArray) (T : List Tk) (k : Nat)
theorem isT_name {t : Tk} {s : ByteArray} (h : t.kind = 1) : isT t s = false := by simp [isT, h]
/-- A guard. -/
def pGuard (pre : Nat → List (Nat × Nat) → Res Nd) (pos : Nat) (ex : List (Nat × Nat)) : Res Nd :=
  (pRows T (pEq tx T) (pos + 1) ex).bnd fun l q0 e0 =>
  if isT (tokAt T q0) ⟨#[93]⟩ = true then
  if isT (tokAt T (q0 + 1)) ⟨#[45, 62]⟩ = true then
    (pre ((q0 + 1) + 1) e0).bnd fun x q1 e1 =>
      .ok (.mk 28 0 ⟨#[]⟩ [pList (emptyAt (here tx T (pos + 1))) l, x] (here tx T pos) (max (here tx T pos : Int) (behind T q1))) q1 e1
  else .bad (q0 + 1)
else .bad q0
set_option maxRecDepth 20000 in set_option maxHeartbeats 4000000 in
theorem sim_guard (hT : Fit T) (pre : Nat → List (Nat × Nat) → Res Nd) (wpre : ∀ pos ex, pos ≤ T.length → ex.length ≤ pos → (pre pos ex).wf T (pos + 1)) (pos : Nat) (ex : List (Nat × Nat)) (hp : pos ≤ T.length) (hpre : ∀ q ex, pos < q → q ≤ T.length → SimP I p tx T k 88 [ptr p] enc pre q ex) (c0 : isT (tokAt T pos) ⟨#[91]⟩ = true) : SimP I p tx T k 88 [ptr p] enc (pGuard tx T pre) pos ex := by
  have hT' : T.length ≤ 1000000 := hT
  unfold SimP Rdr
  intro hxl
  rw [pGuard]
  have hlt0 := isT_lt c0
  have g1 := sim_rows I p tx T k hT 103 [ptr p] [] (pEq tx T) (fun pos ex hp => sim_eq I p tx T k hT pos ex hp) (pos + 1) ex (by omega)
  unfold SimP Rdr at g1
  have w1 := pRows_wf (fun pos ex hp hx => pEq_wf tx T pos ex hp hx) (pos + 1) ex (by omega) (by omega)
  cases h1 : pRows T (pEq tx T) (pos + 1) ex with
  | bad q0 =>
    rw [h1] at g1
    dsimp only [Res.bnd] at g1 ⊢
    refine sim_body' Tryz.func88 rfl rfl rfl ?_
    repeat (any_goals (first | refine s_at ?_ | refine s_move ?_ | refine s_assign ?_ | refine s_loadd ?_ | refine s_pure ?_ | refine s_nil ?_ | refine aw_seq ?_ | refine aw_seqr ?_ | refine aw_block ?_ | refine aw_true ?_ | refine s_alloc (fun _ => ?_) | refine s_store' ?_ | refine c_nd ?_ | refine c_em ?_ | refine c_nx ?_ | refine c_my ?_ | (refine s_call (g1 ?_) (fun x τ' h => by cases h.1) (fun c τ' h env' => ?_); omega; obtain ⟨h1, _, _, rfl⟩ := h; cases h1) | refine s_drawn 8 [4, 7] ?_))
    (repeat (first | refine then_pan ?_ | refine inb_pan ?_)); exact post_pan ⟨_, .pan _, rfl, _, _, rfl⟩ pks
  | ok l q0 e0 =>
    rw [h1] at g1 w1
    dsimp only [Res.bnd] at g1 ⊢
    obtain ⟨_, _, _⟩ := w1
    have hl1 := pRows_len h1
    have g2 := sim_list0 I (here tx T (pos + 1)) l (by omega)
    rw [enc_ag] at g2
    by_cases c3 : isT (tokAt T q0) ⟨#[93]⟩ = true
    · rw [if_pos c3]; have hlt3 := isT_lt c3; try dsimp only [Res.bnd]
      by_cases c4 : isT (tokAt T (q0 + 1)) ⟨#[45, 62]⟩ = true
      · rw [if_pos c4]; have hlt4 := isT_lt c4; try dsimp only [Res.bnd]
        have g5 := hpre ((q0 + 1) + 1) e0 (by omega) (by omega)
        unfold SimP Rdr at g5
        have w5 := wpre ((q0 + 1) + 1) e0 (by omega) (by omega)
        cases h5 : pre ((q0 + 1) + 1) e0 with
        | bad q1 =>
          rw [h5] at g5
          dsimp only [Res.bnd] at g5 ⊢
          refine sim_body' Tryz.func88 rfl rfl rfl ?_
          repeat (any_goals (first | refine s_at ?_ | refine s_move ?_ | refine s_assign ?_ | refine s_loadd ?_ | refine s_pure ?_ | refine s_nil ?_ | refine aw_seq ?_ | refine aw_seqr ?_ | refine aw_block ?_ | refine aw_true ?_ | refine s_alloc (fun _ => ?_) | refine s_allocd (fun _ => ?_) | refine s_store' ?_ | refine c_nd ?_ | refine c_em ?_ | refine c_nx ?_ | refine c_my ?_ | refine c_uy ?_ | (refine s_call (g1 ?_) (fun x τ' h => ?_) (fun c τ' h => by cases h.1); omega; obtain ⟨h1, rfl, _, _⟩ := h; cases h1) | refine s_call0 g2 ?_ | (refine s_call (g5 ?_) (fun x τ' h => by cases h.1) (fun c τ' h env' => ?_); omega; obtain ⟨h1, _, _, rfl⟩ := h; cases h1) | refine s_drawn 8 [4, 7] ?_ | refine s_drawn 6 [2, 5] ?_))
          (repeat (first | refine then_pan ?_ | refine inb_pan ?_)); exact post_pan ⟨_, .pan _, rfl, _, _, rfl⟩ pks
        | ok x q1 e1 =>
          rw [h5] at g5 w5
          dsimp only [Res.bnd] at g5 ⊢
          obtain ⟨_, _, _⟩ := w5
          rw [enc_ag] at g5
          try dsimp only
          refine sim_body' Tryz.func88 rfl rfl rfl ?_
          repeat (any_goals (first | refine s_at ?_ | refine s_move ?_ | refine s_assign ?_ | refine s_load ?_ | refine s_loadd ?_ | refine s_pure ?_ | refine s_nil ?_ | refine aw_seq ?_ | refine aw_seqr ?_ | refine aw_block ?_ | refine aw_true ?_ | refine s_alloc (fun _ => ?_) | refine s_allocd (fun _ => ?_) | refine s_store' ?_ | refine c_nd ?_ | refine c_em ?_ | refine c_nx ?_ | refine c_dn ?_ | refine c_my ?_ | refine c_uy ?_ | (refine s_call (g1 ?_) (fun x τ' h => ?_) (fun c τ' h => by cases h.1); omega; obtain ⟨h1, rfl, _, _⟩ := h; cases h1) | refine s_call0 g2 ?_ | (refine s_call (g5 ?_) (fun x τ' h => ?_) (fun c τ' h => by cases h.1); omega; obtain ⟨h1, rfl, _, _⟩ := h; cases h1) | refine s_drawn 8 [4, 7] ?_ | refine s_drawn 6 [2, 5] ?_ | refine s_litq ?_))
          refine aw_ret ?_; (repeat (first | refine then_ret ?_)); refine post_of ⟨_, .ret _ _ ?_, rfl, rfl, by omega, by omega⟩ rvs pks
          refine sub_enc ?_; (first | exact .nil 6 | exact .refl _ | (simp only [encs]; (first | refine .sl _ _ _ ?_ | refine .os _ _ _ _ ?_); (repeat (first | exact Subs.nil | (refine Subs.cons _ _ _ _ ?_ ?_; (first | exact sub_nil _ | exact sub_enc (.nil 6) | exact sub_enc (.refl _) | (rw [enc_ag]; exact .refl _))))))) 
      · rw [if_neg c4]; rw [Bool.not_eq_true] at c4; try dsimp only [Res.bnd]
        try dsimp only
        refine sim_body' Tryz.func88 rfl rfl rfl ?_
        repeat (any_goals (first | refine s_at ?_ | refine s_move ?_ | refine s_assign ?_ | refine s_loadd ?_ | refine s_pure ?_ | refine s_nil ?_ | refine aw_seq ?_ | refine aw_seqr ?_ | refine aw_block ?_ | refine aw_true ?_ | refine s_alloc (fun _ => ?_) | refine s_allocd (fun _ => ?_) | refine s_store' ?_ | refine c_nd ?_ | refine c_em ?_ | refine c_nx ?_ | refine c_my ?_ | refine c_uy ?_ | refine c_un (fun env' => ?_) | (refine s_call (g1 ?_) (fun x τ' h => ?_) (fun c τ' h => by cases h.1); omega; obtain ⟨h1, rfl, _, _⟩ := h; cases h1) | refine s_call0 g2 ?_ | refine s_drawn 8 [4, 7] ?_))
        (repeat (first | refine then_pan ?_ | refine inb_pan ?_)); exact post_pan ⟨_, .pan _, rfl, _, _, rfl⟩ pks
    · rw [if_neg c3]; rw [Bool.not_eq_true] at c3; try dsimp only [Res.bnd]
      try dsimp only
      refine sim_body' Tryz.func88 rfl rfl rfl ?_
      repeat (any_goals (first | refine s_at ?_ | refine s_move ?_ | refine s_assign ?_ | refine s_loadd ?_ | refine s_pure ?_ | refine s_nil ?_ | refine aw_seq ?_ | refine aw_seqr ?_ | refine aw_block ?_ | refine aw_true ?_ | refine s_alloc (fun _ => ?_) | refine s_allocd (fun _ => ?_) | refine s_store' ?_ | refine c_nd ?_ | refine c_em ?_ | refine c_nx ?_ | refine c_my ?_ | refine c_un (fun env' => ?_) | (refine s_call (g1 ?_) (fun x τ' h => ?_) (fun c τ' h => by cases h.1); omega; obtain ⟨h1, rfl, _, _⟩ := h; cases h1) | refine s_call0 g2 ?_ | refine s_drawn 8 [4, 7] ?_))
      (repeat (first | refine then_pan ?_ | refine inb_pan ?_)); exact post_pan ⟨_, .pan _, rfl, _, _, rfl⟩ pks
/-- A behaviour in brackets. -/
def pParen (beh : Nat → List (Nat × Nat) → Res Nd) (pos : Nat) (ex : List (Nat × Nat)) : Res Nd :=
  (beh (pos + 1) ex).bnd fun x q0 e0 =>
  if isT (tokAt T q0) ⟨#[41]⟩ = true then
  .ok (.mk x.kind x.n x.s x.l (here tx T pos) (behind T (q0 + 1))) (q0 + 1) e0
else .bad q0
set_option maxRecDepth 20000 in set_option maxHeartbeats 4000000 in
theorem sim_paren (hT : Fit T) (beh : Nat → List (Nat × Nat) → Res Nd) (wbeh : ∀ pos ex, pos ≤ T.length → ex.length ≤ pos → (beh pos ex).wf T (pos + 1)) (pos : Nat) (ex : List (Nat × Nat)) (hp : pos ≤ T.length) (hbeh : ∀ q ex, pos < q → q ≤ T.length → SimP I p tx T k 23 [ptr p] enc beh q ex) (c0 : isT (tokAt T pos) ⟨#[40]⟩ = true) : SimP I p tx T k 88 [ptr p] enc (pParen tx T beh) pos ex := by
  have hT' : T.length ≤ 1000000 := hT
  unfold SimP Rdr
  intro hxl
  rw [pParen]
  have hlt0 := isT_lt c0
  have n0 : isT (tokAt T pos) ⟨#[91]⟩ = false := isT_ne c0 (by decide)
  have g1 := hbeh (pos + 1) ex (by omega) (by omega)
  unfold SimP Rdr at g1
  have w1 := wbeh (pos + 1) ex (by omega) (by omega)
  cases h1 : beh (pos + 1) ex with
  | bad q0 =>
    rw [h1] at g1
    dsimp only [Res.bnd] at g1 ⊢
    refine sim_body' Tryz.func88 rfl rfl rfl ?_
    repeat (any_goals (first | refine s_at ?_ | refine s_move ?_ | refine s_assign ?_ | refine s_nil ?_ | refine aw_seq ?_ | refine aw_seqr ?_ | refine aw_block ?_ | refine aw_true ?_ | refine aw_false ?_ | refine s_alloc (fun _ => ?_) | refine s_store' ?_ | refine c_nd ?_ | refine c_nx ?_ | refine c_my ?_ | refine c_mn ?_ | (refine s_call (g1 ?_) (fun x τ' h => by cases h.1) (fun c τ' h env' => ?_); omega; obtain ⟨h1, _, _, rfl⟩ := h; cases h1)))
    (repeat (first | refine then_pan ?_ | refine inb_pan ?_)); exact post_pan ⟨_, .pan _, rfl, _, _, rfl⟩ pks
  | ok x q0 e0 =>
    rw [h1] at g1 w1
    dsimp only [Res.bnd] at g1 ⊢
    obtain ⟨_, _, _⟩ := w1
    rw [enc_ag] at g1
    by_cases c2 : isT (tokAt T q0) ⟨#[41]⟩ = true
    · rw [if_pos c2]; have hlt2 := isT_lt c2; try dsimp only [Res.bnd]
      try dsimp only
      refine sim_body' Tryz.func88 rfl rfl rfl ?_
      repeat (any_goals (first | refine s_at ?_ | refine s_move ?_ | refine s_assign ?_ | refine s_load ?_ | refine s_loadd ?_ | refine s_pure ?_ | refine s_nil ?_ | refine aw_seq ?_ | refine aw_seqr ?_ | refine aw_block ?_ | refine aw_true ?_ | refine aw_false ?_ | refine s_alloc (fun _ => ?_) | refine s_store' ?_ | refine c_nd ?_ | refine c_nx ?_ | refine c_my ?_ | refine c_mn ?_ | refine c_uy ?_ | (refine s_call (g1 ?_) (fun x τ' h => ?_) (fun c τ' h => by cases h.1); omega; obtain ⟨h1, rfl, _, _⟩ := h; cases h1) | refine s_drawn 8 [5, 7] ?_ | (refine s_callrd (sim_behind I p tx T _ _ hT ?_) ?_; omega)))
      refine aw_ret ?_; (repeat (first | refine then_ret ?_ | refine inb_ret ?_)); refine post_of ⟨_, .ret _ _ ?_, rfl, rfl, by omega, by omega⟩ rvs pks
      exact sub_enc (.refl _)
    · rw [if_neg c2]; rw [Bool.not_eq_true] at c2; try dsimp only [Res.bnd]
      try dsimp only
      refine sim_body' Tryz.func88 rfl rfl rfl ?_
      repeat (any_goals (first | refine s_at ?_ | refine s_move ?_ | refine s_assign ?_ | refine s_nil ?_ | refine aw_seq ?_ | refine aw_seqr ?_ | refine aw_block ?_ | refine aw_true ?_ | refine aw_false ?_ | refine s_alloc (fun _ => ?_) | refine s_store' ?_ | refine c_nd ?_ | refine c_nx ?_ | refine c_my ?_ | refine c_mn ?_ | refine c_un (fun env' => ?_) | (refine s_call (g1 ?_) (fun x τ' h => ?_) (fun c τ' h => by cases h.1); omega; obtain ⟨h1, rfl, _, _⟩ := h; cases h1)))
      (repeat (first | refine then_pan ?_ | refine inb_pan ?_)); exact post_pan ⟨_, .pan _, rfl, _, _, rfl⟩ pks
/-- A wait. -/
def pWait (pre : Nat → List (Nat × Nat) → Res Nd) (pos : Nat) (ex : List (Nat × Nat)) : Res Nd :=
  if (tokAt T (pos + 1)).kind = 3 then
  if isT (tokAt T ((pos + 1) + 1)) ⟨#[59]⟩ = true then
    (pre (((pos + 1) + 1) + 1) ex).bnd fun x q0 e0 =>
      .ok (.mk 33 (tokAt T (pos + 1)).n ⟨#[]⟩ [x] (here tx T pos) (max (here tx T pos : Int) (behind T q0))) q0 e0
  else .bad ((pos + 1) + 1)
else .bad (pos + 1)
set_option maxRecDepth 20000 in set_option maxHeartbeats 4000000 in
theorem sim_wait (hT : Fit T) (pre : Nat → List (Nat × Nat) → Res Nd) (wpre : ∀ pos ex, pos ≤ T.length → ex.length ≤ pos → (pre pos ex).wf T (pos + 1)) (pos : Nat) (ex : List (Nat × Nat)) (hp : pos ≤ T.length) (hpre : ∀ q ex, pos < q → q ≤ T.length → SimP I p tx T k 88 [ptr p] enc pre q ex) (c0 : isT (tokAt T pos) ⟨#[119, 97, 105, 116]⟩ = true) : SimP I p tx T k 88 [ptr p] enc (pWait tx T pre) pos ex := by
  have hT' : T.length ≤ 1000000 := hT
  unfold SimP Rdr
  intro hxl
  rw [pWait]
  have hlt0 := isT_lt c0
  have n0 : isT (tokAt T pos) ⟨#[91]⟩ = false := isT_ne c0 (by decide)
  have n1 : isT (tokAt T pos) ⟨#[40]⟩ = false := isT_ne c0 (by decide)
  by_cases c1 : (tokAt T (pos + 1)).kind = 3
  · rw [if_pos c1]; have hlt1 := tokAt_lt (T := T) (pos := (pos + 1)) (by omega)
    by_cases c2 : isT (tokAt T ((pos + 1) + 1)) ⟨#[59]⟩ = true
    · rw [if_pos c2]; have hlt2 := isT_lt c2; try dsimp only [Res.bnd]
      have g3 := hpre (((pos + 1) + 1) + 1) ex (by omega) (by omega)
      unfold SimP Rdr at g3
      have w3 := wpre (((pos + 1) + 1) + 1) ex (by omega) (by omega)
      cases h3 : pre (((pos + 1) + 1) + 1) ex with
      | bad q0 =>
        rw [h3] at g3
        dsimp only [Res.bnd] at g3 ⊢
        refine sim_body' Tryz.func88 rfl rfl rfl ?_
        repeat (any_goals (first | refine s_at ?_ | refine s_skip ?_ | refine s_move ?_ | refine s_assign ?_ | refine s_load ?_ | refine s_pure ?_ | refine s_nil ?_ | refine aw_seq ?_ | refine aw_seqr ?_ | refine aw_block ?_ | refine aw_true ?_ | refine aw_false ?_ | refine s_alloc (fun _ => ?_) | refine s_store' ?_ | refine c_nd ?_ | refine c_nx ?_ | refine c_my ?_ | refine c_mn ?_ | refine c_uy ?_ | (refine s_call (g3 ?_) (fun x τ' h => by cases h.1) (fun c τ' h env' => ?_); omega; obtain ⟨h1, _, _, rfl⟩ := h; cases h1) | (refine s_cmp (fun h => ?_) (fun h => ?_) <;> try (exfalso; omega)) | refine s_add ?_ | rw [rdr_succ]))
        (repeat (first | refine then_pan ?_ | refine inb_pan ?_)); exact post_pan ⟨_, .pan _, rfl, _, _, rfl⟩ pks
      | ok x q0 e0 =>
        rw [h3] at g3 w3
        dsimp only [Res.bnd] at g3 ⊢
        obtain ⟨_, _, _⟩ := w3
        rw [enc_ag] at g3
        try dsimp only
        refine sim_body' Tryz.func88 rfl rfl rfl ?_
        repeat (any_goals (first | refine s_at ?_ | refine s_skip ?_ | refine s_move ?_ | refine s_assign ?_ | refine s_load ?_ | refine s_pure ?_ | refine s_nil ?_ | refine aw_seq ?_ | refine aw_seqr ?_ | refine aw_block ?_ | refine aw_true ?_ | refine aw_false ?_ | refine s_alloc (fun _ => ?_) | refine s_store' ?_ | refine c_nd ?_ | refine c_nx ?_ | refine c_dn ?_ | refine c_my ?_ | refine c_mn ?_ | refine c_uy ?_ | (refine s_call (g3 ?_) (fun x τ' h => ?_) (fun c τ' h => by cases h.1); omega; obtain ⟨h1, rfl, _, _⟩ := h; cases h1) | refine s_litq ?_ | (refine s_cmp (fun h => ?_) (fun h => ?_) <;> try (exfalso; omega)) | refine s_add ?_ | rw [rdr_succ]))
        refine aw_ret ?_; (repeat (first | refine then_ret ?_)); refine post_of ⟨_, .ret _ _ ?_, rfl, rfl, by omega, by omega⟩ rvs pks
        refine sub_enc ?_; (first | exact .nil 6 | exact .refl _ | (simp only [encs]; (first | refine .sl _ _ _ ?_ | refine .os _ _ _ _ ?_); (repeat (first | exact Subs.nil | (refine Subs.cons _ _ _ _ ?_ ?_; (first | exact sub_nil _ | exact sub_enc (.nil 6) | exact sub_enc (.refl _) | (rw [enc_ag]; exact .refl _))))))) 
    · rw [if_neg c2]; rw [Bool.not_eq_true] at c2; try dsimp only [Res.bnd]
      try dsimp only
      refine sim_body' Tryz.func88 rfl rfl rfl ?_
      repeat (any_goals (first | refine s_at ?_ | refine s_skip ?_ | refine s_move ?_ | refine s_assign ?_ | refine s_load ?_ | refine s_pure ?_ | refine s_nil ?_ | refine aw_seq ?_ | refine aw_seqr ?_ | refine aw_block ?_ | refine aw_true ?_ | refine aw_false ?_ | refine s_alloc (fun _ => ?_) | refine s_store' ?_ | refine c_nd ?_ | refine c_nx ?_ | refine c_my ?_ | refine c_mn ?_ | refine c_un (fun env' => ?_) | (refine s_cmp (fun h => ?_) (fun h => ?_) <;> try (exfalso; omega)) | refine s_add ?_ | rw [rdr_succ]))
      (repeat (first | refine then_pan ?_ | refine inb_pan ?_)); exact post_pan ⟨_, .pan _, rfl, _, _, rfl⟩ pks
  · rw [if_neg c1]
    try dsimp only
    refine sim_body' Tryz.func88 rfl rfl rfl ?_
    repeat (any_goals (first | refine s_at ?_ | refine s_move ?_ | refine s_assign ?_ | refine s_pure ?_ | refine s_nil ?_ | refine aw_seq ?_ | refine aw_seqr ?_ | refine aw_block ?_ | refine aw_true ?_ | refine aw_false ?_ | refine s_alloc (fun _ => ?_) | refine s_store' ?_ | refine c_nd ?_ | refine c_nx ?_ | refine c_my ?_ | refine c_mn ?_ | refine c_wr (fun env' => ?_) | (refine s_cmp (fun h => ?_) (fun h => ?_) <;> try (exfalso; omega))))
    (repeat (first | refine then_pan ?_ | refine inb_pan ?_)); exact post_pan ⟨_, .pan _, rfl, _, _, rfl⟩ pks
/-- Gates that are hidden. -/
def pHide (beh : Nat → List (Nat × Nat) → Res Nd) (pos : Nat) (ex : List (Nat × Nat)) : Res Nd :=
  (pNames tx T (pos + 1) ex).bnd fun l q0 e0 =>
  if isT (tokAt T q0) ⟨#[105, 110]⟩ = true then
  (beh (q0 + 1) e0).bnd fun x q1 e1 =>
    .ok (.mk 25 0 ⟨#[]⟩ [l, x] (here tx T pos) (max (here tx T pos : Int) (behind T q1))) q1 e1
else .bad q0
set_option maxRecDepth 20000 in set_option maxHeartbeats 4000000 in
theorem sim_hide (hT : Fit T) (beh : Nat → List (Nat × Nat) → Res Nd) (wbeh : ∀ pos ex, pos ≤ T.length → ex.length ≤ pos → (beh pos ex).wf T (pos + 1)) (pos : Nat) (ex : List (Nat × Nat)) (hp : pos ≤ T.length) (hbeh : ∀ q ex, pos < q → q ≤ T.length → SimP I p tx T k 23 [ptr p] enc beh q ex) (c0 : isT (tokAt T pos) ⟨#[104, 105, 100, 101]⟩ = true) : SimP I p tx T k 88 [ptr p] enc (pHide tx T beh) pos ex := by
  have hT' : T.length ≤ 1000000 := hT
  unfold SimP Rdr
  intro hxl
  rw [pHide]
  have hlt0 := isT_lt c0
  have n0 : isT (tokAt T pos) ⟨#[91]⟩ = false := isT_ne c0 (by decide)
  have n1 : isT (tokAt T pos) ⟨#[40]⟩ = false := isT_ne c0 (by decide)
  have n2 : isT (tokAt T pos) ⟨#[119, 97, 105, 116]⟩ = false := isT_ne c0 (by decide)
  have g1 := sim_names I p tx T k hT (pos + 1) ex (by omega)
  unfold SimP Rdr at g1
  have w1 := pNames_wf tx T (pos + 1) ex (by omega) (by omega)
  cases h1 : pNames tx T (pos + 1) ex with
  | bad q0 =>
    rw [h1] at g1
    dsimp only [Res.bnd] at g1 ⊢
    refine sim_body' Tryz.func88 rfl rfl rfl ?_
    repeat (any_goals (first | refine s_at ?_ | refine s_move ?_ | refine s_assign ?_ | refine s_pure ?_ | refine s_nil ?_ | refine aw_seq ?_ | refine aw_seqr ?_ | refine aw_block ?_ | refine aw_true ?_ | refine aw_false ?_ | refine s_alloc (fun _ => ?_) | refine s_store' ?_ | refine c_nd ?_ | refine c_nx ?_ | refine c_my ?_ | refine c_mn ?_ | (refine s_call (g1 ?_) (fun x τ' h => by cases h.1) (fun c τ' h env' => ?_); omega; obtain ⟨h1, _, _, rfl⟩ := h; cases h1)))
    (repeat (first | refine then_pan ?_ | refine inb_pan ?_)); exact post_pan ⟨_, .pan _, rfl, _, _, rfl⟩ pks
  | ok l q0 e0 =>
    rw [h1] at g1 w1
    dsimp only [Res.bnd] at g1 ⊢
    obtain ⟨_, _, _⟩ := w1
    rw [enc_ag] at g1
    by_cases c2 : isT (tokAt T q0) ⟨#[105, 110]⟩ = true
    · rw [if_pos c2]; have hlt2 := isT_lt c2; try dsimp only [Res.bnd]
      have g3 := hbeh (q0 + 1) e0 (by omega) (by omega)
      unfold SimP Rdr at g3
      have w3 := wbeh (q0 + 1) e0 (by omega) (by omega)
      cases h3 : beh (q0 + 1) e0 with
      | bad q1 =>
        rw [h3] at g3
        dsimp only [Res.bnd] at g3 ⊢
        refine sim_body' Tryz.func88 rfl rfl rfl ?_
        repeat (any_goals (first | refine s_at ?_ | refine s_move ?_ | refine s_assign ?_ | refine s_loadd ?_ | refine s_pure ?_ | refine s_nil ?_ | refine aw_seq ?_ | refine aw_seqr ?_ | refine aw_block ?_ | refine aw_true ?_ | refine aw_false ?_ | refine s_alloc (fun _ => ?_) | refine s_store' ?_ | refine c_nd ?_ | refine c_nx ?_ | refine c_my ?_ | refine c_mn ?_ | refine c_uy ?_ | (refine s_call (g1 ?_) (fun x τ' h => ?_) (fun c τ' h => by cases h.1); omega; obtain ⟨h1, rfl, _, _⟩ := h; cases h1) | (refine s_call (g3 ?_) (fun x τ' h => by cases h.1) (fun c τ' h env' => ?_); omega; obtain ⟨h1, _, _, rfl⟩ := h; cases h1) | refine s_drawn 8 [3, 5, 7] ?_ | refine s_lit (fun _ => ?_)))
        (repeat (first | refine then_pan ?_ | refine inb_pan ?_)); exact post_pan ⟨_, .pan _, rfl, _, _, rfl⟩ pks
      | ok x q1 e1 =>
        rw [h3] at g3 w3
        dsimp only [Res.bnd] at g3 ⊢
        obtain ⟨_, _, _⟩ := w3
        rw [enc_ag] at g3
        try dsimp only
        refine sim_body' Tryz.func88 rfl rfl rfl ?_
        repeat (any_goals (first | refine s_at ?_ | refine s_move ?_ | refine s_assign ?_ | refine s_load ?_ | refine s_loadd ?_ | refine s_pure ?_ | refine s_nil ?_ | refine aw_seq ?_ | refine aw_seqr ?_ | refine aw_block ?_ | refine aw_true ?_ | refine aw_false ?_ | refine s_alloc (fun _ => ?_) | refine s_store' ?_ | refine c_nd ?_ | refine c_nx ?_ | refine c_dn ?_ | refine c_my ?_ | refine c_mn ?_ | refine c_uy ?_ | (refine s_call (g1 ?_) (fun x τ' h => ?_) (fun c τ' h => by cases h.1); omega; obtain ⟨h1, rfl, _, _⟩ := h; cases h1) | (refine s_call (g3 ?_) (fun x τ' h => ?_) (fun c τ' h => by cases h.1); omega; obtain ⟨h1, rfl, _, _⟩ := h; cases h1) | refine s_drawn 8 [3, 5, 7] ?_ | refine s_lit (fun _ => ?_) | refine s_litq ?_ | refine s_appendd ?_))
        refine aw_ret ?_; (repeat (first | refine then_ret ?_)); refine post_of ⟨_, .ret _ _ ?_, rfl, rfl, by omega, by omega⟩ rvs pks
        refine sub_enc ?_; (first | exact .nil 6 | exact .refl _ | (simp only [encs]; (first | refine .sl _ _ _ ?_ | refine .os _ _ _ _ ?_); (repeat (first | exact Subs.nil | (refine Subs.cons _ _ _ _ ?_ ?_; (first | exact sub_nil _ | exact sub_enc (.nil 6) | exact sub_enc (.refl _) | (rw [enc_ag]; exact .refl _))))))) 
    · rw [if_neg c2]; rw [Bool.not_eq_true] at c2; try dsimp only [Res.bnd]
      try dsimp only
      refine sim_body' Tryz.func88 rfl rfl rfl ?_
      repeat (any_goals (first | refine s_at ?_ | refine s_move ?_ | refine s_assign ?_ | refine s_pure ?_ | refine s_nil ?_ | refine aw_seq ?_ | refine aw_seqr ?_ | refine aw_block ?_ | refine aw_true ?_ | refine aw_false ?_ | refine s_alloc (fun _ => ?_) | refine s_store' ?_ | refine c_nd ?_ | refine c_nx ?_ | refine c_my ?_ | refine c_mn ?_ | refine c_un (fun env' => ?_) | (refine s_call (g1 ?_) (fun x τ' h => ?_) (fun c τ' h => by cases h.1); omega; obtain ⟨h1, rfl, _, _⟩ := h; cases h1) | refine s_lit (fun _ => ?_)))
      (repeat (first | refine then_pan ?_ | refine inb_pan ?_)); exact post_pan ⟨_, .pan _, rfl, _, _, rfl⟩ pks
/-- Variables with values. -/
def pLet (beh : Nat → List (Nat × Nat) → Res Nd) (pos : Nat) (ex : List (Nat × Nat)) : Res Nd :=
  (pRows T (pBind tx T) (pos + 1) ex).bnd fun l q0 e0 =>
  if isT (tokAt T q0) ⟨#[105, 110]⟩ = true then
  (beh (q0 + 1) e0).bnd fun x q1 e1 =>
    .ok (.mk 29 0 ⟨#[]⟩ [pList (emptyAt (here tx T (pos + 1))) l, x] (here tx T pos) (max (here tx T pos : Int) (behind T q1))) q1 e1
else .bad q0
set_option maxRecDepth 20000 in set_option maxHeartbeats 4000000 in
theorem sim_let (hT : Fit T) (beh : Nat → List (Nat × Nat) → Res Nd) (wbeh : ∀ pos ex, pos ≤ T.length → ex.length ≤ pos → (beh pos ex).wf T (pos + 1)) (pos : Nat) (ex : List (Nat × Nat)) (hp : pos ≤ T.length) (hbeh : ∀ q ex, pos < q → q ≤ T.length → SimP I p tx T k 23 [ptr p] enc beh q ex) (c0 : isT (tokAt T pos) ⟨#[108, 101, 116]⟩ = true) : SimP I p tx T k 88 [ptr p] enc (pLet tx T beh) pos ex := by
  have hT' : T.length ≤ 1000000 := hT
  unfold SimP Rdr
  intro hxl
  rw [pLet]
  have hlt0 := isT_lt c0
  have n0 : isT (tokAt T pos) ⟨#[91]⟩ = false := isT_ne c0 (by decide)
  have n1 : isT (tokAt T pos) ⟨#[40]⟩ = false := isT_ne c0 (by decide)
  have n2 : isT (tokAt T pos) ⟨#[119, 97, 105, 116]⟩ = false := isT_ne c0 (by decide)
  have n3 : isT (tokAt T pos) ⟨#[104, 105, 100, 101]⟩ = false := isT_ne c0 (by decide)
  have g1 := sim_rows I p tx T k hT 104 [ptr p] [] (pBind tx T) (fun pos ex hp => sim_bind I p tx T k hT pos ex hp) (pos + 1) ex (by omega)
  unfold SimP Rdr at g1
  have w1 := pRows_wf (fun pos ex hp hx => pBind_wf tx T pos ex hp hx) (pos + 1) ex (by omega) (by omega)
  cases h1 : pRows T (pBind tx T) (pos + 1) ex with
  | bad q0 =>
    rw [h1] at g1
    dsimp only [Res.bnd] at g1 ⊢
    refine sim_body' Tryz.func88 rfl rfl rfl ?_
    repeat (any_goals (first | refine s_at ?_ | refine s_move ?_ | refine s_assign ?_ | refine s_loadd ?_ | refine s_pure ?_ | refine s_nil ?_ | refine aw_seq ?_ | refine aw_seqr ?_ | refine aw_block ?_ | refine aw_true ?_ | refine aw_false ?_ | refine s_alloc (fun _ => ?_) | refine s_store' ?_ | refine c_nd ?_ | refine c_em ?_ | refine c_nx ?_ | refine c_my ?_ | refine c_mn ?_ | (refine s_call (g1 ?_) (fun x τ' h => by cases h.1) (fun c τ' h env' => ?_); omega; obtain ⟨h1, _, _, rfl⟩ := h; cases h1) | refine s_drawn 9 [4, 6, 8] ?_))
    (repeat (first | refine then_pan ?_ | refine inb_pan ?_)); exact post_pan ⟨_, .pan _, rfl, _, _, rfl⟩ pks
  | ok l q0 e0 =>
    rw [h1] at g1 w1
    dsimp only [Res.bnd] at g1 ⊢
    obtain ⟨_, _, _⟩ := w1
    have hl1 := pRows_len h1
    have g2 := sim_list0 I (here tx T (pos + 1)) l (by omega)
    rw [enc_ag] at g2
    by_cases c3 : isT (tokAt T q0) ⟨#[105, 110]⟩ = true
    · rw [if_pos c3]; have hlt3 := isT_lt c3; try dsimp only [Res.bnd]
      have g4 := hbeh (q0 + 1) e0 (by omega) (by omega)
      unfold SimP Rdr at g4
      have w4 := wbeh (q0 + 1) e0 (by omega) (by omega)
      cases h4 : beh (q0 + 1) e0 with
      | bad q1 =>
        rw [h4] at g4
        dsimp only [Res.bnd] at g4 ⊢
        refine sim_body' Tryz.func88 rfl rfl rfl ?_
        repeat (any_goals (first | refine s_at ?_ | refine s_move ?_ | refine s_assign ?_ | refine s_loadd ?_ | refine s_pure ?_ | refine s_nil ?_ | refine aw_seq ?_ | refine aw_seqr ?_ | refine aw_block ?_ | refine aw_true ?_ | refine aw_false ?_ | refine s_alloc (fun _ => ?_) | refine s_store' ?_ | refine c_nd ?_ | refine c_em ?_ | refine c_nx ?_ | refine c_my ?_ | refine c_mn ?_ | refine c_uy ?_ | (refine s_call (g1 ?_) (fun x τ' h => ?_) (fun c τ' h => by cases h.1); omega; obtain ⟨h1, rfl, _, _⟩ := h; cases h1) | refine s_call0 g2 ?_ | (refine s_call (g4 ?_) (fun x τ' h => by cases h.1) (fun c τ' h env' => ?_); omega; obtain ⟨h1, _, _, rfl⟩ := h; cases h1) | refine s_drawn 9 [4, 6, 8] ?_ | refine s_drawn 8 [3, 5, 7] ?_ | refine s_litd (fun _ => ?_)))
        (repeat (first | refine then_pan ?_ | refine inb_pan ?_)); exact post_pan ⟨_, .pan _, rfl, _, _, rfl⟩ pks
      | ok x q1 e1 =>
        rw [h4] at g4 w4
        dsimp only [Res.bnd] at g4 ⊢
        obtain ⟨_, _, _⟩ := w4
        rw [enc_ag] at g4
        try dsimp only
        refine sim_body' Tryz.func88 rfl rfl rfl ?_
        repeat (any_goals (first | refine s_at ?_ | refine s_move ?_ | refine s_assign ?_ | refine s_load ?_ | refine s_loadd ?_ | refine s_pure ?_ | refine s_nil ?_ | refine aw_seq ?_ | refine aw_seqr ?_ | refine aw_block ?_ | refine aw_true ?_ | refine aw_false ?_ | refine s_alloc (fun _ => ?_) | refine s_store' ?_ | refine c_nd ?_ | refine c_em ?_ | refine c_nx ?_ | refine c_dn ?_ | refine c_my ?_ | refine c_mn ?_ | refine c_uy ?_ | (refine s_call (g1 ?_) (fun x τ' h => ?_) (fun c τ' h => by cases h.1); omega; obtain ⟨h1, rfl, _, _⟩ := h; cases h1) | refine s_call0 g2 ?_ | (refine s_call (g4 ?_) (fun x τ' h => ?_) (fun c τ' h => by cases h.1); omega; obtain ⟨h1, rfl, _, _⟩ := h; cases h1) | refine s_drawn 9 [4, 6, 8] ?_ | refine s_drawn 8 [3, 5, 7] ?_ | refine s_litd (fun _ => ?_) | refine s_litq ?_ | refine s_appendd ?_))
        refine aw_ret ?_; (repeat (first | refine then_ret ?_)); refine post_of ⟨_, .ret _ _ ?_, rfl, rfl, by omega, by omega⟩ rvs pks
        refine sub_enc ?_; (first | exact .nil 6 | exact .refl _ | (simp only [encs]; (first | refine .sl _ _ _ ?_ | refine .os _ _ _ _ ?_); (repeat (first | exact Subs.nil | (refine Subs.cons _ _ _ _ ?_ ?_; (first | exact sub_nil _ | exact sub_enc (.nil 6) | exact sub_enc (.refl _) | (rw [enc_ag]; exact .refl _))))))) 
    · rw [if_neg c3]; rw [Bool.not_eq_true] at c3; try dsimp only [Res.bnd]
      try dsimp only
      refine sim_body' Tryz.func88 rfl rfl rfl ?_
      repeat (any_goals (first | refine s_at ?_ | refine s_move ?_ | refine s_assign ?_ | refine s_loadd ?_ | refine s_pure ?_ | refine s_nil ?_ | refine aw_seq ?_ | refine aw_seqr ?_ | refine aw_block ?_ | refine aw_true ?_ | refine aw_false ?_ | refine s_alloc (fun _ => ?_) | refine s_store' ?_ | refine c_nd ?_ | refine c_em ?_ | refine c_nx ?_ | refine c_my ?_ | refine c_mn ?_ | refine c_un (fun env' => ?_) | (refine s_call (g1 ?_) (fun x τ' h => ?_) (fun c τ' h => by cases h.1); omega; obtain ⟨h1, rfl, _, _⟩ := h; cases h1) | refine s_call0 g2 ?_ | refine s_drawn 9 [4, 6, 8] ?_ | refine s_litd (fun _ => ?_)))
      (repeat (first | refine then_pan ?_ | refine inb_pan ?_)); exact post_pan ⟨_, .pan _, rfl, _, _, rfl⟩ pks

end
end Go.Proofs.YtjcocblohiglbaaGreatDoor
