/- The reader of specifications: what an action begins with; choices over values and gates. Conditions: none. -/
import Derived.Test.YtjcocblohiglbaaGreatDoorA4
namespace Go.Proofs.YtjcocblohiglbaaGreatDoor
open Go.Dp
set_option linter.unusedVariables false
set_option linter.unusedSimpArgs false
section
variable (I : World → Prop) (p : Nat) (tx : ByteArray) (T : List Tk) (k : Nat)
theorem SimP.of {α : Type} {I : World → Prop} {p : Nat} {tx : ByteArray} {T : List Tk} {k : Nat} {f : FuncId} {args : List AV} {en : α → AV} {m m' : Nat → List (Nat × Nat) → Res α} {pos : Nat} {ex : List (Nat × Nat)} (h : m pos ex = m' pos ex) (g : SimP I p tx T k f args en m' pos ex) : SimP I p tx T k f args en m pos ex := by
  unfold SimP at g ⊢
  rw [h]
  exact g
/-- An action begins with a token behind a name. -/
def actsT (t : Tk) : Bool := isT t ⟨#[33]⟩ || isT t ⟨#[63]⟩ || isT t ⟨#[123]⟩ || isT t ⟨#[59]⟩
set_option maxRecDepth 20000 in set_option maxHeartbeats 4000000 in
theorem sim_acts (hT : Fit T) (pos : Nat) (ex : AV) (hp : pos ≤ T.length) : Sim Tryz.prog I 107 [ptr p] [rd p tx T pos ex] (fun o τ => o = .ret (boo (actsT (tokAt T (pos + 1)))) ∧ τ = [rd p tx T pos ex]) := by
  generalize ht : tokAt T (pos + 1) = t
  have g0 := sim_ahead I p tx T pos ex hT 1 (by omega) hp
  rw [ht] at g0
  have g1 := sim_isT I t ⟨#[33]⟩
  have g2 := sim_isT I t ⟨#[63]⟩
  have g3 := sim_isT I t ⟨#[123]⟩
  have g4 := sim_isT I t ⟨#[59]⟩
  cases c1 : isT t ⟨#[33]⟩ with
  | true =>
    rw [c1] at g1
    refine sim_body Tryz.func107 rfl rfl rfl ?_
    repeat (any_goals (first | refine s_at ?_ | refine s_off ?_ | refine s_move ?_ | refine s_assign ?_ | refine s_load ?_ | refine s_pick1 ?_ | refine s_nil ?_ | refine aw_seq ?_ | refine aw_seqr ?_ | refine s_alloc (fun _ => ?_) | refine s_store' ?_ | refine s_callr g0 ?_ | refine s_call0 g1 ?_))
    refine aw_ret ?_; (repeat (first | refine then_ret ?_))
    refine (post_of ⟨?_, rfl⟩ rvs pks)
    simp [actsT, oneOf, c1]
  | false =>
    rw [c1] at g1
    cases c2 : isT t ⟨#[63]⟩ with
    | true =>
      rw [c2] at g2
      refine sim_body Tryz.func107 rfl rfl rfl ?_
      repeat (any_goals (first | refine s_at ?_ | refine s_off ?_ | refine s_move ?_ | refine s_assign ?_ | refine s_load ?_ | refine s_pick1 ?_ | refine s_pick0 ?_ | refine s_nil ?_ | refine aw_seq ?_ | refine aw_seqr ?_ | refine s_alloc (fun _ => ?_) | refine s_store' ?_ | refine s_callr g0 ?_ | refine s_call0 g1 ?_ | refine s_call0 g2 ?_))
      refine aw_ret ?_; (repeat (first | refine then_ret ?_))
      refine (post_of ⟨?_, rfl⟩ rvs pks)
      simp [actsT, oneOf, c1, c2]
    | false =>
      rw [c2] at g2
      cases c3 : isT t ⟨#[123]⟩ with
      | true =>
        rw [c3] at g3
        refine sim_body Tryz.func107 rfl rfl rfl ?_
        repeat (any_goals (first | refine s_at ?_ | refine s_off ?_ | refine s_move ?_ | refine s_assign ?_ | refine s_load ?_ | refine s_pick1 ?_ | refine s_pick0 ?_ | refine s_nil ?_ | refine aw_seq ?_ | refine aw_seqr ?_ | refine s_alloc (fun _ => ?_) | refine s_store' ?_ | refine s_callr g0 ?_ | refine s_call0 g1 ?_ | refine s_call0 g2 ?_ | refine s_call0 g3 ?_))
        refine aw_ret ?_; (repeat (first | refine then_ret ?_))
        refine (post_of ⟨?_, rfl⟩ rvs pks)
        simp [actsT, oneOf, c1, c2, c3]
      | false =>
        rw [c3] at g3
        cases c4 : isT t ⟨#[59]⟩ <;>
        · rw [c4] at g4
          refine sim_body Tryz.func107 rfl rfl rfl ?_
          repeat (any_goals (first | refine s_at ?_ | refine s_move ?_ | refine s_assign ?_ | refine s_load ?_ | refine s_pick0 ?_ | refine s_nil ?_ | refine aw_seq ?_ | refine aw_seqr ?_ | refine s_alloc (fun _ => ?_) | refine s_store' ?_ | refine s_callr g0 ?_ | refine s_call0 g1 ?_ | refine s_call0 g2 ?_ | refine s_call0 g3 ?_ | refine s_call0 g4 ?_))
          refine aw_ret ?_; (repeat (first | refine then_ret ?_))
          refine (post_of ⟨?_, rfl⟩ rvs pks)
          simp [actsT, oneOf, c1, c2, c3, c4]
/-- A choice over gates. -/
def pPick (beh : Nat → List (Nat × Nat) → Res Nd) (b : Int) (pos : Nat) (ex : List (Nat × Nat)) : Res Nd :=
  (pRows T (pGate tx T) pos ex).bnd fun l q0 e0 =>
  if isT (tokAt T q0) ⟨#[91, 93]⟩ = true then
  (beh (q0 + 1) e0).bnd fun x q1 e1 =>
    .ok (.mk 31 0 ⟨#[]⟩ [pList (emptyAt (here tx T pos)) l, x] b (max b (behind T q1))) q1 e1
else .bad q0
theorem pPick_wf (beh : Nat → List (Nat × Nat) → Res Nd) (b : Int) (wbeh : ∀ pos ex, pos ≤ T.length → ex.length ≤ pos → (beh pos ex).wf T (pos + 1)) (pos : Nat) (ex : List (Nat × Nat)) (hp : pos ≤ T.length) (hx : ex.length ≤ pos) : (pPick tx T beh b pos ex).wf T (pos + 1) := by
  rw [pPick]
  repeat (any_goals (first | with_reducible refine wf_isT (fun hlt => ?_) ?_ | with_reducible refine wf_ok (by omega) (by omega) (by first | omega | (simp only [List.length_append, List.length_cons, List.length_nil]; omega)) | with_reducible exact wf_bad _ | with_reducible refine wf_bnd (pRows_wf (fun pos ex hp hx => pGate_wf tx T pos ex hp hx) _ _ (by omega) (by omega)) (fun a q e hq1 hq2 hq3 => ?_) | with_reducible refine wf_bnd (wbeh _ _ (by omega) (by omega)) (fun a q e hq1 hq2 hq3 => ?_)))
set_option maxRecDepth 20000 in set_option maxHeartbeats 4000000 in
theorem sim_pick (hT : Fit T) (beh : Nat → List (Nat × Nat) → Res Nd) (b : Int) (wbeh : ∀ pos ex, pos ≤ T.length → ex.length ≤ pos → (beh pos ex).wf T (pos + 1)) (pos : Nat) (ex : List (Nat × Nat)) (hp : pos ≤ T.length) (hbeh : ∀ q ex, pos < q → q ≤ T.length → SimP I p tx T k 23 [ptr p] enc beh q ex) (c1 : isT (tokAt T (pos + 1)) ⟨#[105, 110]⟩ = true) (c2 : (tokAt T pos).kind = 1) : SimP I p tx T k 105 [ptr p, .ag (nd 20 0 ⟨#[]⟩ (.sc (.slice none 0 0)) b 0)] enc (pPick tx T beh b) pos ex := by
  have hT' : T.length ≤ 1000000 := hT
  unfold SimP Rdr
  intro hxl
  rw [pPick]
  have f1 := sim_isT I (tokAt T (pos + 1)) ⟨#[105, 110]⟩
  rw [c1] at f1
  have g1 := sim_rows I p tx T k hT 122 [ptr p] [] (pGate tx T) (fun pos ex hp => sim_gate I p tx T k hT pos ex hp) pos ex (by omega)
  unfold SimP Rdr at g1
  have w1 := pRows_wf (fun pos ex hp hx => pGate_wf tx T pos ex hp hx) pos ex (by omega) (by omega)
  cases h1 : pRows T (pGate tx T) pos ex with
  | bad q0 =>
    rw [h1] at g1
    dsimp only [Res.bnd] at g1 ⊢
    refine sim_body' Tryz.func105 rfl rfl rfl ?_
    repeat (any_goals (first | refine s_at ?_ | refine s_move ?_ | refine s_loadd ?_ | refine s_pick1 ?_ | refine s_pure ?_ | refine s_nil ?_ | refine aw_seq ?_ | refine aw_seqr ?_ | refine aw_true ?_ | refine s_alloc (fun _ => ?_) | refine s_box (fun _ => ?_) | refine s_store' ?_ | refine c_em ?_ | refine c_nx ?_ | refine s_call0 f1 ?_ | refine s_callr (sim_ahead I p tx T pos _ hT 1 (by omega) hp) ?_ | (refine s_cmp (fun h => ?_) (fun h => ?_) <;> try (exfalso; omega)) | (refine s_call (g1 ?_) (fun x τ' h => by cases h.1) (fun c τ' h env' => ?_); omega; obtain ⟨h1, _, _, rfl⟩ := h; cases h1) | refine s_drawn 9 [4, 6, 8] ?_))
    (repeat (first | refine then_pan ?_)); exact post_pan ⟨_, .pan _, rfl, _, _, rfl⟩ pks
  | ok l q0 e0 =>
    rw [h1] at g1 w1
    dsimp only [Res.bnd] at g1 ⊢
    obtain ⟨_, _, _⟩ := w1
    have hl1 := pRows_len h1
    have g2 := sim_list0 I (here tx T pos) l (by omega)
    rw [enc_ag] at g2
    by_cases c3 : isT (tokAt T q0) ⟨#[91, 93]⟩ = true
    · rw [if_pos c3]; have hlt3 := isT_lt c3; try dsimp only [Res.bnd]
      have g4 := hbeh (q0 + 1) e0 (by omega) (by omega)
      unfold SimP Rdr at g4
      have w4 := wbeh (q0 + 1) e0 (by omega) (by omega)
      cases h4 : beh (q0 + 1) e0 with
      | bad q1 =>
        rw [h4] at g4
        dsimp only [Res.bnd] at g4 ⊢
        refine sim_body' Tryz.func105 rfl rfl rfl ?_
        repeat (any_goals (first | refine s_at ?_ | refine s_move ?_ | refine s_loadd ?_ | refine s_pick1 ?_ | refine s_pure ?_ | refine s_nil ?_ | refine aw_seq ?_ | refine aw_seqr ?_ | refine aw_true ?_ | refine s_alloc (fun _ => ?_) | refine s_box (fun _ => ?_) | refine s_store' ?_ | refine c_em ?_ | refine c_nx ?_ | refine c_uy ?_ | refine s_call0 f1 ?_ | refine s_callr (sim_ahead I p tx T pos _ hT 1 (by omega) hp) ?_ | (refine s_cmp (fun h => ?_) (fun h => ?_) <;> try (exfalso; omega)) | (refine s_call (g1 ?_) (fun x τ' h => ?_) (fun c τ' h => by cases h.1); omega; obtain ⟨h1, rfl, _, _⟩ := h; cases h1) | refine s_call0 g2 ?_ | (refine s_call (g4 ?_) (fun x τ' h => by cases h.1) (fun c τ' h env' => ?_); omega; obtain ⟨h1, _, _, rfl⟩ := h; cases h1) | refine s_drawn 9 [4, 6, 8] ?_ | refine s_drawn 8 [3, 5, 7] ?_ | refine s_litd (fun _ => ?_)))
        (repeat (first | refine then_pan ?_)); exact post_pan ⟨_, .pan _, rfl, _, _, rfl⟩ pks
      | ok x q1 e1 =>
        rw [h4] at g4 w4
        dsimp only [Res.bnd] at g4 ⊢
        obtain ⟨_, _, _⟩ := w4
        rw [enc_ag] at g4
        try dsimp only
        refine sim_body' Tryz.func105 rfl rfl rfl ?_
        repeat (any_goals (first | refine s_at ?_ | refine s_move ?_ | refine s_load ?_ | refine s_loadd ?_ | refine s_pick1 ?_ | refine s_pure ?_ | refine s_nil ?_ | refine aw_seq ?_ | refine aw_seqr ?_ | refine aw_true ?_ | refine s_alloc (fun _ => ?_) | refine s_box (fun _ => ?_) | refine s_store' ?_ | refine c_em ?_ | refine c_nx ?_ | refine c_dn ?_ | refine c_uy ?_ | refine s_call0 f1 ?_ | refine s_callr (sim_ahead I p tx T pos _ hT 1 (by omega) hp) ?_ | (refine s_cmp (fun h => ?_) (fun h => ?_) <;> try (exfalso; omega)) | (refine s_call (g1 ?_) (fun x τ' h => ?_) (fun c τ' h => by cases h.1); omega; obtain ⟨h1, rfl, _, _⟩ := h; cases h1) | refine s_call0 g2 ?_ | (refine s_call (g4 ?_) (fun x τ' h => ?_) (fun c τ' h => by cases h.1); omega; obtain ⟨h1, rfl, _, _⟩ := h; cases h1) | refine s_drawn 9 [4, 6, 8] ?_ | refine s_drawn 8 [3, 5, 7] ?_ | refine s_litd (fun _ => ?_) | refine s_litq ?_ | refine s_appendd ?_))
        refine aw_ret ?_; (repeat (first | refine then_ret ?_)); refine post_of ⟨_, .ret _ _ ?_, rfl, rfl, by omega, by omega⟩ rvs pks
        refine sub_enc ?_; (first | exact .nil 6 | exact .refl _ | (simp only [encs]; (first | refine .sl _ _ _ ?_ | refine .os _ _ _ _ ?_); (repeat (first | exact Subs.nil | (refine Subs.cons _ _ _ _ ?_ ?_; (first | exact sub_nil _ | exact sub_enc (.nil 6) | exact sub_enc (.refl _) | (rw [enc_ag]; exact .refl _))))))) 
    · rw [if_neg c3]; rw [Bool.not_eq_true] at c3; try dsimp only [Res.bnd]
      try dsimp only
      refine sim_body' Tryz.func105 rfl rfl rfl ?_
      repeat (any_goals (first | refine s_at ?_ | refine s_move ?_ | refine s_loadd ?_ | refine s_pick1 ?_ | refine s_pure ?_ | refine s_nil ?_ | refine aw_seq ?_ | refine aw_seqr ?_ | refine aw_true ?_ | refine s_alloc (fun _ => ?_) | refine s_box (fun _ => ?_) | refine s_store' ?_ | refine c_em ?_ | refine c_nx ?_ | refine c_un (fun env' => ?_) | refine s_call0 f1 ?_ | refine s_callr (sim_ahead I p tx T pos _ hT 1 (by omega) hp) ?_ | (refine s_cmp (fun h => ?_) (fun h => ?_) <;> try (exfalso; omega)) | (refine s_call (g1 ?_) (fun x τ' h => ?_) (fun c τ' h => by cases h.1); omega; obtain ⟨h1, rfl, _, _⟩ := h; cases h1) | refine s_call0 g2 ?_ | refine s_drawn 9 [4, 6, 8] ?_ | refine s_litd (fun _ => ?_)))
      (repeat (first | refine then_pan ?_)); exact post_pan ⟨_, .pan _, rfl, _, _, rfl⟩ pks
/-- A choice over values. -/
def pSome (beh : Nat → List (Nat × Nat) → Res Nd) (b : Int) (pos : Nat) (ex : List (Nat × Nat)) : Res Nd :=
  (pDecls tx T pos ex).bnd fun d q0 e0 =>
  if isT (tokAt T q0) ⟨#[91, 93]⟩ = true then
  (beh (q0 + 1) e0).bnd fun x q1 e1 =>
    .ok (.mk 30 0 ⟨#[]⟩ [d, x] b (max b (behind T q1))) q1 e1
else .bad q0
theorem pSome_wf (beh : Nat → List (Nat × Nat) → Res Nd) (b : Int) (wbeh : ∀ pos ex, pos ≤ T.length → ex.length ≤ pos → (beh pos ex).wf T (pos + 1)) (pos : Nat) (ex : List (Nat × Nat)) (hp : pos ≤ T.length) (hx : ex.length ≤ pos) : (pSome tx T beh b pos ex).wf T (pos + 1) := by
  rw [pSome]
  repeat (any_goals (first | with_reducible refine wf_isT (fun hlt => ?_) ?_ | with_reducible refine wf_ok (by omega) (by omega) (by first | omega | (simp only [List.length_append, List.length_cons, List.length_nil]; omega)) | with_reducible exact wf_bad _ | with_reducible refine wf_bnd (pDecls_wf tx T _ _ (by omega) (by omega)) (fun a q e hq1 hq2 hq3 => ?_) | with_reducible refine wf_bnd (wbeh _ _ (by omega) (by omega)) (fun a q e hq1 hq2 hq3 => ?_)))
set_option maxRecDepth 20000 in set_option maxHeartbeats 4000000 in
theorem sim_some1 (hT : Fit T) (beh : Nat → List (Nat × Nat) → Res Nd) (b : Int) (wbeh : ∀ pos ex, pos ≤ T.length → ex.length ≤ pos → (beh pos ex).wf T (pos + 1)) (pos : Nat) (ex : List (Nat × Nat)) (hp : pos ≤ T.length) (hbeh : ∀ q ex, pos < q → q ≤ T.length → SimP I p tx T k 23 [ptr p] enc beh q ex) (c1 : isT (tokAt T (pos + 1)) ⟨#[105, 110]⟩ = false) : SimP I p tx T k 105 [ptr p, .ag (nd 20 0 ⟨#[]⟩ (.sc (.slice none 0 0)) b 0)] enc (pSome tx T beh b) pos ex := by
  have hT' : T.length ≤ 1000000 := hT
  unfold SimP Rdr
  intro hxl
  rw [pSome]
  have f1 := sim_isT I (tokAt T (pos + 1)) ⟨#[105, 110]⟩
  rw [c1] at f1
  have g1 := sim_decls I p tx T k hT pos ex (by omega)
  unfold SimP Rdr at g1
  have w1 := pDecls_wf tx T pos ex (by omega) (by omega)
  cases h1 : pDecls tx T pos ex with
  | bad q0 =>
    rw [h1] at g1
    dsimp only [Res.bnd] at g1 ⊢
    refine sim_body' Tryz.func105 rfl rfl rfl ?_
    repeat (any_goals (first | refine s_at ?_ | refine s_off ?_ | refine s_move ?_ | refine s_pick0 ?_ | refine s_pure ?_ | refine s_nil ?_ | refine aw_seq ?_ | refine aw_seqr ?_ | refine aw_false ?_ | refine s_alloc (fun _ => ?_) | refine s_box (fun _ => ?_) | refine s_store' ?_ | refine s_call0 f1 ?_ | refine s_callr (sim_ahead I p tx T pos _ hT 1 (by omega) hp) ?_ | (refine s_call (g1 ?_) (fun x τ' h => by cases h.1) (fun c τ' h env' => ?_); omega; obtain ⟨h1, _, _, rfl⟩ := h; cases h1)))
    (repeat (first | refine then_pan ?_)); exact post_pan ⟨_, .pan _, rfl, _, _, rfl⟩ pks
  | ok d q0 e0 =>
    rw [h1] at g1 w1
    dsimp only [Res.bnd] at g1 ⊢
    obtain ⟨_, _, _⟩ := w1
    rw [enc_ag] at g1
    by_cases c2 : isT (tokAt T q0) ⟨#[91, 93]⟩ = true
    · rw [if_pos c2]; have hlt2 := isT_lt c2; try dsimp only [Res.bnd]
      have g3 := hbeh (q0 + 1) e0 (by omega) (by omega)
      unfold SimP Rdr at g3
      have w3 := wbeh (q0 + 1) e0 (by omega) (by omega)
      cases h3 : beh (q0 + 1) e0 with
      | bad q1 =>
        rw [h3] at g3
        dsimp only [Res.bnd] at g3 ⊢
        refine sim_body' Tryz.func105 rfl rfl rfl ?_
        repeat (any_goals (first | refine s_at ?_ | refine s_off ?_ | refine s_move ?_ | refine s_loadd ?_ | refine s_pick0 ?_ | refine s_pure ?_ | refine s_nil ?_ | refine aw_seq ?_ | refine aw_seqr ?_ | refine aw_false ?_ | refine s_alloc (fun _ => ?_) | refine s_box (fun _ => ?_) | refine s_store' ?_ | refine c_uy ?_ | refine s_call0 f1 ?_ | refine s_callr (sim_ahead I p tx T pos _ hT 1 (by omega) hp) ?_ | (refine s_call (g1 ?_) (fun x τ' h => ?_) (fun c τ' h => by cases h.1); omega; obtain ⟨h1, rfl, _, _⟩ := h; cases h1) | (refine s_call (g3 ?_) (fun x τ' h => by cases h.1) (fun c τ' h env' => ?_); omega; obtain ⟨h1, _, _, rfl⟩ := h; cases h1) | refine s_drawn 8 [3, 5, 7] ?_ | refine s_lit (fun _ => ?_)))
        (repeat (first | refine then_pan ?_)); exact post_pan ⟨_, .pan _, rfl, _, _, rfl⟩ pks
      | ok x q1 e1 =>
        rw [h3] at g3 w3
        dsimp only [Res.bnd] at g3 ⊢
        obtain ⟨_, _, _⟩ := w3
        rw [enc_ag] at g3
        try dsimp only
        refine sim_body' Tryz.func105 rfl rfl rfl ?_
        repeat (any_goals (first | refine s_at ?_ | refine s_off ?_ | refine s_move ?_ | refine s_load ?_ | refine s_loadd ?_ | refine s_pick0 ?_ | refine s_pure ?_ | refine s_nil ?_ | refine aw_seq ?_ | refine aw_seqr ?_ | refine aw_false ?_ | refine s_alloc (fun _ => ?_) | refine s_box (fun _ => ?_) | refine s_store' ?_ | refine c_dn ?_ | refine c_uy ?_ | refine s_call0 f1 ?_ | refine s_callr (sim_ahead I p tx T pos _ hT 1 (by omega) hp) ?_ | (refine s_call (g1 ?_) (fun x τ' h => ?_) (fun c τ' h => by cases h.1); omega; obtain ⟨h1, rfl, _, _⟩ := h; cases h1) | (refine s_call (g3 ?_) (fun x τ' h => ?_) (fun c τ' h => by cases h.1); omega; obtain ⟨h1, rfl, _, _⟩ := h; cases h1) | refine s_drawn 8 [3, 5, 7] ?_ | refine s_lit (fun _ => ?_) | refine s_litq ?_ | refine s_appendd ?_))
        refine aw_ret ?_; (repeat (first | refine then_ret ?_)); refine post_of ⟨_, .ret _ _ ?_, rfl, rfl, by omega, by omega⟩ rvs pks
        refine sub_enc ?_; (first | exact .nil 6 | exact .refl _ | (simp only [encs]; (first | refine .sl _ _ _ ?_ | refine .os _ _ _ _ ?_); (repeat (first | exact Subs.nil | (refine Subs.cons _ _ _ _ ?_ ?_; (first | exact sub_nil _ | exact sub_enc (.nil 6) | exact sub_enc (.refl _) | (rw [enc_ag]; exact .refl _))))))) 
    · rw [if_neg c2]; rw [Bool.not_eq_true] at c2; try dsimp only [Res.bnd]
      try dsimp only
      refine sim_body' Tryz.func105 rfl rfl rfl ?_
      repeat (any_goals (first | refine s_at ?_ | refine s_off ?_ | refine s_move ?_ | refine s_pick0 ?_ | refine s_pure ?_ | refine s_nil ?_ | refine aw_seq ?_ | refine aw_seqr ?_ | refine aw_false ?_ | refine s_alloc (fun _ => ?_) | refine s_box (fun _ => ?_) | refine s_store' ?_ | refine c_un (fun env' => ?_) | refine s_call0 f1 ?_ | refine s_callr (sim_ahead I p tx T pos _ hT 1 (by omega) hp) ?_ | (refine s_call (g1 ?_) (fun x τ' h => ?_) (fun c τ' h => by cases h.1); omega; obtain ⟨h1, rfl, _, _⟩ := h; cases h1) | refine s_lit (fun _ => ?_)))
      (repeat (first | refine then_pan ?_)); exact post_pan ⟨_, .pan _, rfl, _, _, rfl⟩ pks
set_option maxRecDepth 20000 in set_option maxHeartbeats 4000000 in
theorem sim_some2 (hT : Fit T) (beh : Nat → List (Nat × Nat) → Res Nd) (b : Int) (wbeh : ∀ pos ex, pos ≤ T.length → ex.length ≤ pos → (beh pos ex).wf T (pos + 1)) (pos : Nat) (ex : List (Nat × Nat)) (hp : pos ≤ T.length) (hbeh : ∀ q ex, pos < q → q ≤ T.length → SimP I p tx T k 23 [ptr p] enc beh q ex) (c1 : isT (tokAt T (pos + 1)) ⟨#[105, 110]⟩ = true) (c2 : ¬ (tokAt T pos).kind = 1) : SimP I p tx T k 105 [ptr p, .ag (nd 20 0 ⟨#[]⟩ (.sc (.slice none 0 0)) b 0)] enc (pSome tx T beh b) pos ex := by
  have hT' : T.length ≤ 1000000 := hT
  unfold SimP Rdr
  intro hxl
  rw [pSome]
  have f1 := sim_isT I (tokAt T (pos + 1)) ⟨#[105, 110]⟩
  rw [c1] at f1
  have g1 := sim_decls I p tx T k hT pos ex (by omega)
  unfold SimP Rdr at g1
  have w1 := pDecls_wf tx T pos ex (by omega) (by omega)
  cases h1 : pDecls tx T pos ex with
  | bad q0 =>
    rw [h1] at g1
    dsimp only [Res.bnd] at g1 ⊢
    refine sim_body' Tryz.func105 rfl rfl rfl ?_
    repeat (any_goals (first | refine s_at ?_ | refine s_move ?_ | refine s_pick1 ?_ | refine s_pure ?_ | refine s_nil ?_ | refine aw_seq ?_ | refine aw_seqr ?_ | refine aw_false ?_ | refine s_alloc (fun _ => ?_) | refine s_box (fun _ => ?_) | refine s_store' ?_ | refine c_nx ?_ | refine s_call0 f1 ?_ | refine s_callr (sim_ahead I p tx T pos _ hT 1 (by omega) hp) ?_ | (refine s_cmp (fun h => ?_) (fun h => ?_) <;> try (exfalso; omega)) | (refine s_call (g1 ?_) (fun x τ' h => by cases h.1) (fun c τ' h env' => ?_); omega; obtain ⟨h1, _, _, rfl⟩ := h; cases h1)))
    (repeat (first | refine then_pan ?_)); exact post_pan ⟨_, .pan _, rfl, _, _, rfl⟩ pks
  | ok d q0 e0 =>
    rw [h1] at g1 w1
    dsimp only [Res.bnd] at g1 ⊢
    obtain ⟨_, _, _⟩ := w1
    rw [enc_ag] at g1
    by_cases c2 : isT (tokAt T q0) ⟨#[91, 93]⟩ = true
    · rw [if_pos c2]; have hlt2 := isT_lt c2; try dsimp only [Res.bnd]
      have g3 := hbeh (q0 + 1) e0 (by omega) (by omega)
      unfold SimP Rdr at g3
      have w3 := wbeh (q0 + 1) e0 (by omega) (by omega)
      cases h3 : beh (q0 + 1) e0 with
      | bad q1 =>
        rw [h3] at g3
        dsimp only [Res.bnd] at g3 ⊢
        refine sim_body' Tryz.func105 rfl rfl rfl ?_
        repeat (any_goals (first | refine s_at ?_ | refine s_move ?_ | refine s_loadd ?_ | refine s_pick1 ?_ | refine s_pure ?_ | refine s_nil ?_ | refine aw_seq ?_ | refine aw_seqr ?_ | refine aw_false ?_ | refine s_alloc (fun _ => ?_) | refine s_box (fun _ => ?_) | refine s_store' ?_ | refine c_nx ?_ | refine c_uy ?_ | refine s_call0 f1 ?_ | refine s_callr (sim_ahead I p tx T pos _ hT 1 (by omega) hp) ?_ | (refine s_cmp (fun h => ?_) (fun h => ?_) <;> try (exfalso; omega)) | (refine s_call (g1 ?_) (fun x τ' h => ?_) (fun c τ' h => by cases h.1); omega; obtain ⟨h1, rfl, _, _⟩ := h; cases h1) | (refine s_call (g3 ?_) (fun x τ' h => by cases h.1) (fun c τ' h env' => ?_); omega; obtain ⟨h1, _, _, rfl⟩ := h; cases h1) | refine s_drawn 8 [3, 5, 7] ?_ | refine s_lit (fun _ => ?_)))
        (repeat (first | refine then_pan ?_)); exact post_pan ⟨_, .pan _, rfl, _, _, rfl⟩ pks
      | ok x q1 e1 =>
        rw [h3] at g3 w3
        dsimp only [Res.bnd] at g3 ⊢
        obtain ⟨_, _, _⟩ := w3
        rw [enc_ag] at g3
        try dsimp only
        refine sim_body' Tryz.func105 rfl rfl rfl ?_
        repeat (any_goals (first | refine s_at ?_ | refine s_move ?_ | refine s_load ?_ | refine s_loadd ?_ | refine s_pick1 ?_ | refine s_pure ?_ | refine s_nil ?_ | refine aw_seq ?_ | refine aw_seqr ?_ | refine aw_false ?_ | refine s_alloc (fun _ => ?_) | refine s_box (fun _ => ?_) | refine s_store' ?_ | refine c_nx ?_ | refine c_dn ?_ | refine c_uy ?_ | refine s_call0 f1 ?_ | refine s_callr (sim_ahead I p tx T pos _ hT 1 (by omega) hp) ?_ | (refine s_cmp (fun h => ?_) (fun h => ?_) <;> try (exfalso; omega)) | (refine s_call (g1 ?_) (fun x τ' h => ?_) (fun c τ' h => by cases h.1); omega; obtain ⟨h1, rfl, _, _⟩ := h; cases h1) | (refine s_call (g3 ?_) (fun x τ' h => ?_) (fun c τ' h => by cases h.1); omega; obtain ⟨h1, rfl, _, _⟩ := h; cases h1) | refine s_drawn 8 [3, 5, 7] ?_ | refine s_lit (fun _ => ?_) | refine s_litq ?_ | refine s_appendd ?_))
        refine aw_ret ?_; (repeat (first | refine then_ret ?_)); refine post_of ⟨_, .ret _ _ ?_, rfl, rfl, by omega, by omega⟩ rvs pks
        refine sub_enc ?_; (first | exact .nil 6 | exact .refl _ | (simp only [encs]; (first | refine .sl _ _ _ ?_ | refine .os _ _ _ _ ?_); (repeat (first | exact Subs.nil | (refine Subs.cons _ _ _ _ ?_ ?_; (first | exact sub_nil _ | exact sub_enc (.nil 6) | exact sub_enc (.refl _) | (rw [enc_ag]; exact .refl _))))))) 
    · rw [if_neg c2]; rw [Bool.not_eq_true] at c2; try dsimp only [Res.bnd]
      try dsimp only
      refine sim_body' Tryz.func105 rfl rfl rfl ?_
      repeat (any_goals (first | refine s_at ?_ | refine s_move ?_ | refine s_pick1 ?_ | refine s_pure ?_ | refine s_nil ?_ | refine aw_seq ?_ | refine aw_seqr ?_ | refine aw_false ?_ | refine s_alloc (fun _ => ?_) | refine s_box (fun _ => ?_) | refine s_store' ?_ | refine c_nx ?_ | refine c_un (fun env' => ?_) | refine s_call0 f1 ?_ | refine s_callr (sim_ahead I p tx T pos _ hT 1 (by omega) hp) ?_ | (refine s_cmp (fun h => ?_) (fun h => ?_) <;> try (exfalso; omega)) | (refine s_call (g1 ?_) (fun x τ' h => ?_) (fun c τ' h => by cases h.1); omega; obtain ⟨h1, rfl, _, _⟩ := h; cases h1) | refine s_lit (fun _ => ?_)))
      (repeat (first | refine then_pan ?_)); exact post_pan ⟨_, .pan _, rfl, _, _, rfl⟩ pks
def pChoice (beh : Nat → List (Nat × Nat) → Res Nd) (b : Int) (pos : Nat) (ex : List (Nat × Nat)) : Res Nd :=
  if isT (tokAt T (pos + 1)) ⟨#[105, 110]⟩ = true then (if (tokAt T pos).kind = 1 then pPick tx T beh b pos ex else pSome tx T beh b pos ex) else pSome tx T beh b pos ex
theorem pChoice_wf (beh : Nat → List (Nat × Nat) → Res Nd) (b : Int) (wbeh : ∀ pos ex, pos ≤ T.length → ex.length ≤ pos → (beh pos ex).wf T (pos + 1)) (pos : Nat) (ex : List (Nat × Nat)) (hp : pos ≤ T.length) (hx : ex.length ≤ pos) : (pChoice tx T beh b pos ex).wf T (pos + 1) := by
  rw [pChoice]
  exact wf_if (wf_if (pPick_wf tx T beh b wbeh pos ex hp hx) (pSome_wf tx T beh b wbeh pos ex hp hx)) (pSome_wf tx T beh b wbeh pos ex hp hx)
theorem sim_choice (hT : Fit T) (beh : Nat → List (Nat × Nat) → Res Nd) (b : Int) (wbeh : ∀ pos ex, pos ≤ T.length → ex.length ≤ pos → (beh pos ex).wf T (pos + 1)) (pos : Nat) (ex : List (Nat × Nat)) (hp : pos ≤ T.length) (hbeh : ∀ q ex, pos < q → q ≤ T.length → SimP I p tx T k 23 [ptr p] enc beh q ex) : SimP I p tx T k 105 [ptr p, .ag (nd 20 0 ⟨#[]⟩ (.sc (.slice none 0 0)) b 0)] enc (pChoice tx T beh b) pos ex := by
  by_cases c1 : isT (tokAt T (pos + 1)) ⟨#[105, 110]⟩ = true
  · by_cases c2 : (tokAt T pos).kind = 1
    · exact SimP.of (m' := pPick tx T beh b) (by rw [pChoice, if_pos c1, if_pos c2]) (sim_pick I p tx T k hT beh b wbeh pos ex hp hbeh c1 c2)
    · exact SimP.of (m' := pSome tx T beh b) (by rw [pChoice, if_pos c1, if_neg c2]) (sim_some2 I p tx T k hT beh b wbeh pos ex hp hbeh c1 c2)
  · exact SimP.of (m' := pSome tx T beh b) (by rw [pChoice, if_neg c1]) (sim_some1 I p tx T k hT beh b wbeh pos ex hp hbeh (by rwa [Bool.not_eq_true] at c1))

end
end Go.Proofs.YtjcocblohiglbaaGreatDoor
/- The reader of specifications: actions, behind what they offer. Conditions: none. -/
namespace Go.Proofs.YtjcocblohiglbaaGreatDoor
open Go.Dp
set_option linter.unusedVariables false
set_option linter.unusedSimpArgs false
section
variable (I : World → Prop) (p : Nat) (tx : ByteArray) (T : List Tk) (k : Nat)
/-- What an action offers, and takes. -/
def pOffers : Nat → List Nd → Nat → List (Nat × Nat) → Res (List Nd)
  | 0, _, pos, _ => .bad pos
  | n + 1, acc, pos, ex =>
    if isT (tokAt T pos) ⟨#[33]⟩ = true then
      (pExpr tx T (pos + 1) ex).bnd fun a q e => pOffers n (acc ++ [.mk 40 0 ⟨#[]⟩ [a] (here tx T pos) (max (here tx T pos : Int) (behind T q))]) q e
    else if isT (tokAt T pos) ⟨#[63]⟩ = true then
      (pShared tx T 41 (pos + 1) ex).bnd fun l q e => pOffers n (acc ++ l) q e
    else .ok acc pos ex
/-- Conditions, where something is offered. -/
def pConds (n : Nat) (pos : Nat) (ex : List (Nat × Nat)) : Res Nd :=
  if 0 < n then
    if isT (tokAt T pos) ⟨#[91]⟩ = true then
      (pRows T (pEq tx T) (pos + 1) ex).bnd fun l q e =>
        if isT (tokAt T q) ⟨#[93]⟩ = true then .ok (pList (emptyAt (here tx T pos)) l) (q + 1) e else .bad q
    else .ok (emptyAt (here tx T pos)) pos ex
  else .ok (emptyAt (here tx T pos)) pos ex
/-- A window, if there is one. -/
def pWins (pos : Nat) (ex : List (Nat × Nat)) : Res Nd :=
  if isT (tokAt T pos) ⟨#[123]⟩ = true then
    (pWindow tx T pos ex).bnd fun w q e => .ok (pList (emptyAt (here tx T pos)) [w]) q e
  else .ok (emptyAt (here tx T pos)) pos ex
/-- A name of a gate, whatever the token. -/
def gateAt (pos : Nat) : Nd := .mk 7 0 (tokAt T pos).s [] (here tx T pos) (max (here tx T pos : Int) (behind T (pos + 1)))
/-- An action, and what follows it. -/
def pAction (pre : Nat → List (Nat × Nat) → Res Nd) (b : Int) (pos : Nat) (ex : List (Nat × Nat)) : Res Nd :=
  (pOffers tx T (T.length + 1) [] (pos + 1) ex).bnd fun acc q e =>
  (pConds tx T acc.length q e).bnd fun c q2 e2 =>
  (pWins tx T q2 e2).bnd fun w q3 e3 =>
  if isT (tokAt T q3) ⟨#[59]⟩ = true then
    (pre (q3 + 1) e3).bnd fun x q4 e4 =>
    .ok (.mk 22 0 ⟨#[]⟩ [gateAt tx T pos, pList (emptyAt (here tx T (pos + 1))) acc, c, w, x] b (max b (behind T q4))) q4 e4
  else .bad q3
theorem pOffers_wf : ∀ (n : Nat) (acc : List Nd) (pos : Nat) (ex : List (Nat × Nat)), pos ≤ T.length → ex.length ≤ pos → (pOffers tx T n acc pos ex).wf T pos
  | 0, acc, pos, ex, _, _ => wf_bad _
  | n + 1, acc, pos, ex, hp, hx => by
    rw [pOffers]
    refine wf_isT (fun hlt => ?_) (wf_isT (fun hlt => ?_) (wf_ok (Nat.le_refl _) hp hx))
    · refine wf_bnd (pExpr_wf tx T _ _ (by omega) (by omega)) (fun a q e h1 h2 h3 => ?_)
      exact wf_le (pOffers_wf n _ q e h2 h3) (by omega)
    · refine wf_bnd (pShared_wf tx T _ _ _ (by omega) (by omega)) (fun a q e h1 h2 h3 => ?_)
      exact wf_le (pOffers_wf n _ q e h2 h3) (by omega)
theorem pConds_wf (n pos : Nat) (ex : List (Nat × Nat)) (hp : pos ≤ T.length) (hx : ex.length ≤ pos) : (pConds tx T n pos ex).wf T pos := by
  rw [pConds]
  repeat (any_goals (first | with_reducible refine wf_isT (fun hlt => ?_) ?_ | with_reducible refine wf_if ?_ ?_ | with_reducible refine wf_ok (by omega) (by omega) (by first | omega | (simp only [List.length_append, List.length_cons, List.length_nil]; omega)) | with_reducible exact wf_bad _ | with_reducible refine wf_bnd (pRows_wf (fun pos ex hp hx => pEq_wf tx T pos ex hp hx) _ _ (by omega) (by omega)) (fun a q e hq1 hq2 hq3 => ?_)))
theorem pWins_wf (pos : Nat) (ex : List (Nat × Nat)) (hp : pos ≤ T.length) (hx : ex.length ≤ pos) : (pWins tx T pos ex).wf T pos := by
  rw [pWins]
  repeat (any_goals (first | with_reducible refine wf_isT (fun hlt => ?_) ?_ | with_reducible refine wf_ok (by omega) (by omega) (by first | omega | (simp only [List.length_append, List.length_cons, List.length_nil]; omega)) | with_reducible refine wf_bnd (pWindow_wf tx T _ _ (by omega) (by omega)) (fun a q e hq1 hq2 hq3 => ?_)))
theorem pAction_wf (pre : Nat → List (Nat × Nat) → Res Nd) (b : Int) (wpre : ∀ pos ex, pos ≤ T.length → ex.length ≤ pos → (pre pos ex).wf T (pos + 1)) (pos : Nat) (ex : List (Nat × Nat)) (hp : pos < T.length) (hx : ex.length ≤ pos) : (pAction tx T pre b pos ex).wf T (pos + 1) := by
  rw [pAction]
  refine wf_bnd (pOffers_wf tx T _ _ _ _ (by omega) (by omega)) (fun a q e h1 h2 h3 => ?_)
  refine wf_bnd (pConds_wf tx T _ _ _ h2 h3) (fun a q e h4 h5 h6 => ?_)
  refine wf_bnd (pWins_wf tx T _ _ h5 h6) (fun a q e h7 h8 h9 => ?_)
  repeat (any_goals (first | with_reducible refine wf_isT (fun hlt => ?_) ?_ | with_reducible refine wf_ok (by omega) (by omega) (by first | omega | (simp only [List.length_append, List.length_cons, List.length_nil]; omega)) | with_reducible exact wf_bad _ | with_reducible refine wf_bnd (wpre _ _ (by omega) (by omega)) (fun a q e hq1 hq2 hq3 => ?_)))
end
section
variable (I : World → Prop) (p : Nat) (tx : ByteArray) (T : List Tk) (k : Nat)
/-- What a reading comes to. -/
abbrev RPost {α : Type} (en : α → AV) (pos : Nat) (r : Res α) (o : Out) (τ : List Rs) : Prop := match r with
  | .ok a pos' ex' => o = .ret (en a) ∧ τ = Rdr p tx T k pos' ex' ∧ pos ≤ pos' ∧ pos' ≤ T.length ∧ ex'.length ≤ pos'
  | .bad q => o = .pan (stopV 20 (here tx T q)) ∧ ∃ pos' ex', τ = Rdr p tx T k pos' ex'
theorem SimP.post {α : Type} {f : FuncId} {args : List AV} {en : α → AV} {m : Nat → List (Nat × Nat) → Res α} {pos : Nat} {ex : List (Nat × Nat)} (h : ex.length ≤ pos → Sim Tryz.prog I f args (Rdr p tx T k pos ex) (RPost p tx T k en pos (m pos ex))) : SimP I p tx T k f args en m pos ex := by
  unfold SimP
  intro hx
  refine (h hx).mono fun o τ ho => ?_
  cases hm : m pos ex with
  | ok a q e => rw [hm] at ho; exact ho
  | bad q => rw [hm] at ho; exact ho
/-- What an action comes to. -/
def actQ (pos : Nat) (r : Res Nd) : Exit → Env → List Rs → Prop := Post Tryz.prog Tryz.f108 fun o τ => ∃ o', OutSub o o' ∧ RPost p tx T k enc pos r o' τ
/-- What stands at its end. -/
def actEnd (pre : Nat → List (Nat × Nat) → Res Nd) (b : Int) (pos : Nat) (acc : List Nd) (c w : Nd) (q : Nat) (e : List (Nat × Nat)) : Res Nd :=
  if isT (tokAt T q) ⟨#[59]⟩ = true then
    (pre (q + 1) e).bnd fun x q4 e4 => .ok (.mk 22 0 ⟨#[]⟩ [gateAt tx T pos, pList (emptyAt (here tx T (pos + 1))) acc, c, w, x] b (max b (behind T q4))) q4 e4
  else .bad q
abbrev actG (pos : Nat) : List AV := nd 7 0 (tokAt T pos).s (.sc (.slice none 0 0)) (here tx T pos) (max (here tx T pos : Int) (behind T (pos + 1)))
abbrev actE (p k2 b3 b4 b5 b6 : Nat) (acc : List Nd) : Env := [(0, ptr p), (3, ptr b3), (4, ptr b4), (5, ptr b5), (6, ptr b6), (7, .os k2 6 (encs acc))]
abbrev actS (k2 b3 b4 b5 b6 : Nat) (b : Int) (pos : Nat) (acc : List Nd) (q : Nat) (e : List (Nat × Nat)) : List Rs := [.tok k2 27 6 (encs acc).length, .box b6 (nd 8 0 ⟨#[]⟩ (.sc (.slice none 0 0)) (here tx T (pos + 1)) (here tx T (pos + 1))) 27, .box b5 (actG tx T pos) 27, .box b3 (nd 22 0 ⟨#[]⟩ (.sc (.slice none 0 0)) b 0) 27, .box b4 ty27.zl 27, rd p tx T q (.os k 2 (e.map eext)), .tok k 89 2 (e.map eext).length]
theorem act_list (k2 : Nat) (pos : Nat) (acc : List Nd) (hacc : acc.length ≤ 2000000) : Sim Tryz.prog I 89 [.ag (nd 8 0 ⟨#[]⟩ (.sc (.slice none 0 0)) (here tx T (pos + 1)) (here tx T (pos + 1))), .os k2 6 (encs acc)] [] (fun o τ => o = .ret (enc (pList (emptyAt (here tx T (pos + 1))) acc)) ∧ τ = []) :=
  (sim_list0 I (here tx T (pos + 1)) acc hacc).weak (.cons _ _ _ _ (.refl _) (.cons _ _ _ _ (.os _ _ _ _ (Subs.refl _)) .nil)) fun o σ h => ⟨o, h.1 ▸ .ret _ _ (.refl _), h⟩
set_option maxRecDepth 20000 in set_option maxHeartbeats 4000000 in
theorem act3 (hT : Fit T) (pre : Nat → List (Nat × Nat) → Res Nd) (b : Int) (wpre : ∀ pos ex, pos ≤ T.length → ex.length ≤ pos → (pre pos ex).wf T (pos + 1)) (pos : Nat) (hpre : ∀ q ex, pos < q → q ≤ T.length → SimP I p tx T k 88 [ptr p] enc pre q ex) (acc : List Nd) (hacc : acc.length ≤ T.length) (k2 b3 b4 b5 b6 b9 b10 : Nat) (q : Nat) (e : List (Nat × Nat)) (hp : pos < q) (hq : q ≤ T.length) (hx : e.length ≤ q)
    (c w : Nd) (kc nc : Int) (sc : ByteArray) (Lc : AV) (bc ec : Int) (hC : Sub (.ag (nd kc nc sc Lc bc ec)) (enc c)) (hLc : Lc.one = true) (kw nw : Int) (sw : ByteArray) (Lw : AV) (bw ew : Int) (hW : Sub (.ag (nd kw nw sw Lw bw ew)) (enc w)) (hLw : Lw.one = true) :
    AW Tryz.prog I Tryz.f108.ntmps (sndC (sndC (sndC (sndC (sndC (sndC (sndC (sndC (sndC (sndC (sndC (sndC (bodyC Tryz.f108))))))))))))) (actQ p tx T k pos (actEnd tx T pre b pos acc c w q e)) ((9, ptr b9) :: (10, ptr b10) :: actE p k2 b3 b4 b5 b6 acc) (.box b9 (nd kc nc sc Lc bc ec) 27 :: .box b10 (nd kw nw sw Lw bw ew) 27 :: actS p tx T k k2 b3 b4 b5 b6 b pos acc q e) := by
  have hT' : T.length ≤ 1000000 := hT
  have hle := encs_length acc
  have hlO := act_list I tx T k2 pos acc (by omega)
  rw [enc_ag] at hlO
  dsimp only [sndC, bodyC, Tryz.f108, Option.getD]
  unfold actQ actEnd RPost Rdr
  by_cases c1 : isT (tokAt T q) ⟨#[59]⟩ = true
  · rw [if_pos c1]; have hlt := isT_lt c1
    have g1 := hpre (q + 1) e (by omega) (by omega)
    have w1 := wpre (q + 1) e (by omega) (by omega)
    unfold SimP Rdr at g1
    cases h1 : pre (q + 1) e with
    | bad q2 =>
      rw [h1] at g1
      dsimp only [Res.bnd] at g1 ⊢
      repeat (any_goals (first | refine s_at ?_ | refine s_move ?_ | refine s_loadd ?_ | refine s_nil ?_ | refine aw_seq ?_ | refine aw_seqr ?_ | refine c_uy ?_ | refine s_call0 hlO ?_ | refine s_drawn 11 [7, 10] ?_ | (refine s_call (g1 ?_) (fun x τ' h => by cases h.1) (fun c τ' h env' => ?_); omega; obtain ⟨h1, _, _, rfl⟩ := h; cases h1)))
      (repeat (first | refine then_pan ?_)); exact post_pan ⟨_, .pan _, rfl, _, _, rfl⟩ pks
    | ok x q2 e2 =>
      rw [h1] at g1 w1
      dsimp only [Res.bnd] at g1 ⊢
      obtain ⟨_, _, _⟩ := w1
      rw [enc_ag] at g1
      repeat (any_goals (first | refine s_at ?_ | refine s_move ?_ | refine s_load ?_ | refine s_loadd ?_ | refine s_pure ?_ | refine s_nil ?_ | refine aw_seq ?_ | refine aw_seqr ?_ | refine s_store' ?_ | refine c_dn ?_ | refine c_uy ?_ | refine s_call0 hlO ?_ | refine s_drawn 11 [7, 10] ?_ | (refine s_call (g1 ?_) (fun x τ' h => ?_) (fun c τ' h => by cases h.1); omega; obtain ⟨h1, rfl, _, _⟩ := h; cases h1) | refine s_lito ?_))
      refine aw_ret ?_; (repeat (first | refine then_ret ?_)); refine post_of ⟨_, .ret _ _ ?_, rfl, rfl, by omega, by omega⟩ rvs pks
      refine sub_enc ?_
      simp only [encs]
      exact .sl _ _ _ (.cons _ _ _ _ (sub_enc (.nil 6)) (.cons _ _ _ _ (by rw [enc_ag]; exact .refl _) (.cons _ _ _ _ hC (.cons _ _ _ _ hW (.cons _ _ _ _ (by rw [enc_ag]; exact .refl _) .nil)))))
  · rw [if_neg c1]; rw [Bool.not_eq_true] at c1
    dsimp only
    repeat (any_goals (first | refine s_at ?_ | refine s_move ?_ | refine aw_seq ?_ | refine aw_seqr ?_ | refine c_un (fun env' => ?_)))
    (repeat (first | refine then_pan ?_)); exact post_pan ⟨_, .pan _, rfl, _, _, rfl⟩ pks
set_option maxRecDepth 20000 in set_option maxHeartbeats 4000000 in
theorem act2 (hT : Fit T) (hN : Nums T) (hi : ItoaOk I) (pre : Nat → List (Nat × Nat) → Res Nd) (b : Int) (wpre : ∀ pos ex, pos ≤ T.length → ex.length ≤ pos → (pre pos ex).wf T (pos + 1)) (pos : Nat) (hpre : ∀ q ex, pos < q → q ≤ T.length → SimP I p tx T k 88 [ptr p] enc pre q ex) (acc : List Nd) (hacc : acc.length ≤ T.length) (k2 b3 b4 b5 b6 b9 : Nat) (q : Nat) (e : List (Nat × Nat)) (hp : pos < q) (hq : q ≤ T.length) (hx : e.length ≤ q)
    (c : Nd) (kc nc : Int) (sc : ByteArray) (Lc : AV) (bc ec : Int) (hC : Sub (.ag (nd kc nc sc Lc bc ec)) (enc c)) (hLc : Lc.one = true) :
    AW Tryz.prog I Tryz.f108.ntmps (sndC (sndC (sndC (sndC (sndC (sndC (sndC (sndC (sndC (sndC (bodyC Tryz.f108))))))))))) (actQ p tx T k pos ((pWins tx T q e).bnd fun w q e => actEnd tx T pre b pos acc c w q e)) ((9, ptr b9) :: actE p k2 b3 b4 b5 b6 acc) (.box b9 (nd kc nc sc Lc bc ec) 27 :: actS p tx T k k2 b3 b4 b5 b6 b pos acc q e) := by
  have hT' : T.length ≤ 1000000 := hT
  have hle := encs_length acc
  have f1 := sim_is I p tx T q (.os k 2 (e.map eext)) hT hq ⟨#[123]⟩
  rw [pWins]
  by_cases c1 : isT (tokAt T q) ⟨#[123]⟩ = true
  · rw [if_pos c1]; have hlt := isT_lt c1
    rw [c1] at f1
    have g1 := sim_window I p tx T k hT hN hi q e hq
    have w1 := pWindow_wf tx T q e hq hx
    unfold SimP Rdr at g1
    cases h1 : pWindow tx T q e with
    | bad q2 =>
      rw [h1] at g1
      dsimp only [Res.bnd] at g1 ⊢
      dsimp only [sndC, bodyC, Tryz.f108, Option.getD]
      unfold actQ RPost Rdr
      repeat (any_goals (first | refine s_at ?_ | refine s_move ?_ | refine s_loadd ?_ | refine s_nil ?_ | refine aw_seq ?_ | refine aw_seqr ?_ | refine aw_true ?_ | refine s_alloc (fun _ => ?_) | refine s_store' ?_ | refine c_em ?_ | refine s_callr f1 ?_ | refine s_drawn 6 [2, 5] ?_ | (refine s_call (g1 ?_) (fun x τ' h => by cases h.1) (fun c τ' h env' => ?_); omega; obtain ⟨h1, _, _, rfl⟩ := h; cases h1)))
      (repeat (first | refine then_pan ?_)); exact post_pan ⟨_, .pan _, rfl, _, _, rfl⟩ pks
    | ok w q2 e2 =>
      rw [h1] at g1 w1
      dsimp only [Res.bnd] at g1 ⊢
      obtain ⟨_, _, _⟩ := w1
      rw [enc_ag] at g1
      have g2 := sim_list0 I (here tx T q) [w] (by simp)
      rw [enc_ag, encs, encs, enc_ag w] at g2
      dsimp only [sndC, bodyC, Tryz.f108, Option.getD]
      repeat (any_goals (first | exact aw_to (act3 I p tx T k hT pre b wpre pos hpre acc hacc k2 b3 b4 b5 b6 b9 _ q2 e2 (by omega) (by omega) (by omega) c (pList (emptyAt (here tx T q)) [w]) kc nc sc Lc bc ec hC hLc _ _ _ _ _ _ (by rw [enc_ag]; exact .refl _) rfl) els pks | refine s_at ?_ | refine s_move ?_ | refine s_loadd ?_ | refine s_nil ?_ | refine aw_seq ?_ | refine aw_seqr ?_ | refine aw_true ?_ | refine s_alloc (fun _ => ?_) | refine s_store' ?_ | refine c_em ?_ | refine s_callr f1 ?_ | refine s_drawn 6 [2, 5] ?_ | (refine s_call (g1 ?_) (fun x τ' h => ?_) (fun c τ' h => by cases h.1); omega; obtain ⟨h1, rfl, _, _⟩ := h; cases h1) | refine s_litq ?_ | refine s_call0 g2 ?_))
  · rw [if_neg c1]; rw [Bool.not_eq_true] at c1
    rw [c1] at f1
    dsimp only [Res.bnd]
    dsimp only [sndC, bodyC, Tryz.f108, Option.getD]
    repeat (any_goals (first | exact aw_to (act3 I p tx T k hT pre b wpre pos hpre acc hacc k2 b3 b4 b5 b6 b9 _ q e hp hq hx c (emptyAt (here tx T q)) kc nc sc Lc bc ec hC hLc _ _ _ _ _ _ (sub_nil _) rfl) els pks | refine s_at ?_ | refine s_skip ?_ | refine s_move ?_ | refine s_nil ?_ | refine aw_seq ?_ | refine aw_seqr ?_ | refine aw_false ?_ | refine s_alloc (fun _ => ?_) | refine s_store' ?_ | refine c_em ?_ | refine s_callr f1 ?_))
set_option maxRecDepth 20000 in set_option maxHeartbeats 4000000 in
theorem act1 (hT : Fit T) (hN : Nums T) (hi : ItoaOk I) (pre : Nat → List (Nat × Nat) → Res Nd) (b : Int) (wpre : ∀ pos ex, pos ≤ T.length → ex.length ≤ pos → (pre pos ex).wf T (pos + 1)) (pos : Nat) (hpre : ∀ q ex, pos < q → q ≤ T.length → SimP I p tx T k 88 [ptr p] enc pre q ex) (acc : List Nd) (hacc : acc.length ≤ T.length) (k2 b3 b4 b5 b6 : Nat) (q : Nat) (e : List (Nat × Nat)) (hp : pos < q) (hq : q ≤ T.length) (hx : e.length ≤ q) :
    AW Tryz.prog I Tryz.f108.ntmps (sndC (sndC (sndC (sndC (sndC (sndC (sndC (sndC (bodyC Tryz.f108))))))))) (actQ p tx T k pos ((pConds tx T acc.length q e).bnd fun c q e => (pWins tx T q e).bnd fun w q e => actEnd tx T pre b pos acc c w q e)) (actE p k2 b3 b4 b5 b6 acc) (actS p tx T k k2 b3 b4 b5 b6 b pos acc q e) := by
  have hT' : T.length ≤ 1000000 := hT
  have hle := encs_length acc
  rw [pConds]
  by_cases c0 : 0 < acc.length
  · rw [if_pos c0]
    by_cases c1 : isT (tokAt T q) ⟨#[91]⟩ = true
    · rw [if_pos c1]; have hlt := isT_lt c1
      have g1 := sim_rows I p tx T k hT 103 [ptr p] [] (pEq tx T) (fun pos ex hp => sim_eq I p tx T k hT pos ex hp) (q + 1) e (by omega)
      have w1 := pRows_wf (fun pos ex hp hx => pEq_wf tx T pos ex hp hx) (q + 1) e (by omega) (by omega)
      unfold SimP Rdr at g1
      cases h1 : pRows T (pEq tx T) (q + 1) e with
      | bad q2 =>
        rw [h1] at g1
        dsimp only [Res.bnd] at g1 ⊢
        dsimp only [sndC, bodyC, Tryz.f108, Option.getD]
        unfold actQ RPost Rdr
        repeat (any_goals (first | refine s_at ?_ | refine s_move ?_ | refine s_loadd ?_ | refine s_pick1 ?_ | refine s_pure ?_ | refine s_nil ?_ | refine aw_seq ?_ | refine aw_seqr ?_ | refine aw_true ?_ | refine s_alloc (fun _ => ?_) | refine s_store' ?_ | refine c_em ?_ | refine c_my ?_ | (refine s_cmp (fun h => ?_) (fun h => ?_) <;> try (exfalso; omega)) | refine s_drawn 7 [4, 6] ?_ | (refine s_call (g1 ?_) (fun x τ' h => by cases h.1) (fun c τ' h env' => ?_); omega; obtain ⟨h1, _, _, rfl⟩ := h; cases h1)))
        (repeat (first | refine then_pan ?_)); exact post_pan ⟨_, .pan _, rfl, _, _, rfl⟩ pks
      | ok l q2 e2 =>
        rw [h1] at g1 w1
        dsimp only [Res.bnd] at g1 ⊢
        obtain ⟨_, _, _⟩ := w1
        have hl := pRows_len h1
        have g2 := sim_list0 I (here tx T q) l (by omega)
        rw [enc_ag] at g2
        by_cases c2 : isT (tokAt T q2) ⟨#[93]⟩ = true
        · rw [if_pos c2]; have hlt2 := isT_lt c2
          dsimp only
          dsimp only [sndC, bodyC, Tryz.f108, Option.getD]
          repeat (any_goals (first | exact aw_to (act2 I p tx T k hT hN hi pre b wpre pos hpre acc hacc k2 b3 b4 b5 b6 _ (q2 + 1) e2 (by omega) (by omega) (by omega) (pList (emptyAt (here tx T q)) l) _ _ _ _ _ _ (by rw [enc_ag]; exact .refl _) rfl) els pks | refine s_at ?_ | refine s_move ?_ | refine s_loadd ?_ | refine s_pick1 ?_ | refine s_pure ?_ | refine s_nil ?_ | refine aw_seq ?_ | refine aw_seqr ?_ | refine aw_true ?_ | refine s_alloc (fun _ => ?_) | refine s_store' ?_ | refine c_em ?_ | refine c_my ?_ | refine c_uy ?_ | (refine s_cmp (fun h => ?_) (fun h => ?_) <;> try (exfalso; omega)) | refine s_drawn 7 [4, 6] ?_ | (refine s_call (g1 ?_) (fun x τ' h => ?_) (fun c τ' h => by cases h.1); omega; obtain ⟨h1, rfl, _, _⟩ := h; cases h1) | refine s_call0 g2 ?_))
        · rw [if_neg c2]; rw [Bool.not_eq_true] at c2
          dsimp only
          dsimp only [sndC, bodyC, Tryz.f108, Option.getD]
          unfold actQ RPost Rdr
          repeat (any_goals (first | refine s_at ?_ | refine s_move ?_ | refine s_loadd ?_ | refine s_pick1 ?_ | refine s_pure ?_ | refine s_nil ?_ | refine aw_seq ?_ | refine aw_seqr ?_ | refine aw_true ?_ | refine s_alloc (fun _ => ?_) | refine s_store' ?_ | refine c_em ?_ | refine c_my ?_ | refine c_un (fun env' => ?_) | (refine s_cmp (fun h => ?_) (fun h => ?_) <;> try (exfalso; omega)) | refine s_drawn 7 [4, 6] ?_ | (refine s_call (g1 ?_) (fun x τ' h => ?_) (fun c τ' h => by cases h.1); omega; obtain ⟨h1, rfl, _, _⟩ := h; cases h1) | refine s_call0 g2 ?_))
          (repeat (first | refine then_pan ?_)); exact post_pan ⟨_, .pan _, rfl, _, _, rfl⟩ pks
    · rw [if_neg c1]; rw [Bool.not_eq_true] at c1
      dsimp only [Res.bnd]
      dsimp only [sndC, bodyC, Tryz.f108, Option.getD]
      repeat (any_goals (first | exact aw_to (act2 I p tx T k hT hN hi pre b wpre pos hpre acc hacc k2 b3 b4 b5 b6 _ q e hp hq hx (emptyAt (here tx T q)) _ _ _ _ _ _ (sub_nil _) rfl) els pks | refine s_at ?_ | refine s_skip ?_ | refine s_move ?_ | refine s_pick1 ?_ | refine s_pure ?_ | refine s_nil ?_ | refine aw_seq ?_ | refine aw_seqr ?_ | refine aw_false ?_ | refine s_alloc (fun _ => ?_) | refine s_store' ?_ | refine c_em ?_ | refine c_mn ?_ | (refine s_cmp (fun h => ?_) (fun h => ?_) <;> try (exfalso; omega))))
  · rw [if_neg c0]
    dsimp only [Res.bnd]
    dsimp only [sndC, bodyC, Tryz.f108, Option.getD]
    repeat (any_goals (first | exact aw_to (act2 I p tx T k hT hN hi pre b wpre pos hpre acc hacc k2 b3 b4 b5 b6 _ q e hp hq hx (emptyAt (here tx T q)) _ _ _ _ _ _ (sub_nil _) rfl) els pks | refine s_at ?_ | refine s_skip ?_ | refine s_off ?_ | refine s_move ?_ | refine s_pick0 ?_ | refine s_pure ?_ | refine s_nil ?_ | refine aw_seq ?_ | refine aw_seqr ?_ | refine aw_false ?_ | refine s_alloc (fun _ => ?_) | refine s_store' ?_ | refine c_em ?_ | (refine s_cmp (fun h => ?_) (fun h => ?_) <;> try (exfalso; omega))))
end
end Go.Proofs.YtjcocblohiglbaaGreatDoor
/- The reader of specifications: actions. Conditions: none. -/
namespace Go.Proofs.YtjcocblohiglbaaGreatDoor
open Go.Dp
set_option linter.unusedVariables false
set_option linter.unusedSimpArgs false
section
variable (I : World → Prop) (p : Nat) (tx : ByteArray) (T : List Tk) (k : Nat)
set_option maxRecDepth 20000 in set_option maxHeartbeats 4000000 in
theorem sim_action (hT : Fit T) (hN : Nums T) (hi : ItoaOk I) (pre : Nat → List (Nat × Nat) → Res Nd) (b : Int) (wpre : ∀ pos ex, pos ≤ T.length → ex.length ≤ pos → (pre pos ex).wf T (pos + 1)) (pos : Nat) (ex : List (Nat × Nat)) (hp : pos < T.length) (hpre : ∀ q ex, pos < q → q ≤ T.length → SimP I p tx T k 88 [ptr p] enc pre q ex) : SimP I p tx T k 108 [ptr p, .ag (nd 20 0 ⟨#[]⟩ (.sc (.slice none 0 0)) b 0)] enc (pAction tx T pre b) pos ex := by
  have hT' : T.length ≤ 1000000 := hT
  refine SimP.post I p tx T k (fun hxl => ?_)
  rw [pAction]
  generalize hres : pOffers tx T (T.length + 1) [] (pos + 1) ex = res
  unfold Rdr
  refine sim_body' Tryz.func108 rfl rfl rfl ?_
  repeat (any_goals (first | refine s_at ?_ | refine s_move ?_ | refine s_assign ?_ | refine s_load ?_ | refine s_pure ?_ | refine s_nil ?_ | refine aw_seq ?_ | refine aw_seqr ?_ | refine aw_block ?_ | refine s_alloc (fun _ => ?_) | refine s_box (fun _ => ?_) | refine s_store' ?_ | (refine s_callr (sim_node I p tx T _ _ hT ?_ _) ?_; omega) | (refine s_callr (sim_next I p tx T _ _ hT ?_) ?_; omega) | refine s_add ?_ | (rw [rdr_succ]; refine s_callr (sim_done I p tx T (pos + 1) _ hT (by omega) _ _ _ _ rfl _ _) ?_) | (refine s_callr (sim_empty I p tx T _ _ hT ?_) ?_; omega)))
  refine aw_slottok 7 27 6 (fun k2 => ?_)
  rename_i b3 b4 b5 b6
  refine aw_loop (fun s : List Nd × Nat × Nat × List (Nat × Nat) => [(0, ptr p), (3, ptr b3), (4, ptr b4), (5, ptr b5), (6, ptr b6), (7, .os k2 6 (encs s.1))])
    (fun s => [.tok k2 27 6 (encs s.1).length, .box b6 (nd 8 0 ⟨#[]⟩ (.sc (.slice none 0 0)) (here tx T (pos + 1)) (here tx T (pos + 1))) 27, .box b5 (nd 7 0 (tokAt T pos).s (.sc (.slice none 0 0)) (here tx T pos) (max (here tx T pos : Int) (behind T (pos + 1)))) 27, .box b3 (nd 22 0 ⟨#[]⟩ (.sc (.slice none 0 0)) b 0) 27, .box b4 ty27.zl 27, rd p tx T s.2.2.1 (.os k 2 (s.2.2.2.map eext)), .tok k 89 2 (s.2.2.2.map eext).length])
    (fun s => pOffers tx T s.2.1 s.1 s.2.2.1 s.2.2.2 = res ∧ T.length < s.2.1 + s.2.2.1 ∧ s.2.2.1 ≤ T.length ∧ pos < s.2.2.1 ∧ s.1.length ≤ s.2.2.1 ∧ s.2.2.2.length ≤ s.2.2.1) (fun s => T.length - s.2.2.1) ([], T.length + 1, pos + 1, ex)
    ⟨hres, by dsimp only; omega, by dsimp only; omega, by dsimp only; omega, by simp, by dsimp only; omega⟩ els _ (Picks.perm pks) ?_
  rintro ⟨acc, n, pos1, ex1⟩ ⟨i1, i2, i3, i4, i5, i6⟩
  dsimp only at i1 i2 i3 i4 i5 i6 ⊢
  have hle := encs_length acc
  obtain ⟨n, rfl⟩ : ∃ m, n = m + 1 := ⟨n - 1, by omega⟩
  rw [pOffers] at i1
  have hs1 := sim_is I p tx T pos1 (.os k 2 (ex1.map eext)) hT i3 ⟨#[33]⟩
  have hs2 := sim_is I p tx T pos1 (.os k 2 (ex1.map eext)) hT i3 ⟨#[63]⟩
  cases c1 : isT (tokAt T pos1) ⟨#[33]⟩ with
  | true =>
    rw [c1, if_pos rfl] at i1
    rw [c1] at hs1
    have hlt := isT_lt c1
    have g1 := sim_expr I p tx T k hT (pos1 + 1) ex1 (by omega)
    have w1 := pExpr_wf tx T (pos1 + 1) ex1 (by omega) (by omega)
    unfold SimP Rdr at g1
    cases h1 : pExpr tx T (pos1 + 1) ex1 with
    | bad q =>
      rw [h1] at g1 i1
      dsimp only [Res.bnd] at g1 i1
      subst i1
      dsimp only [Res.bnd]
      repeat (any_goals (first | refine s_at ?_ | refine s_skip ?_ | refine s_off ?_ | refine s_move ?_ | refine s_pick1 ?_ | refine s_nil ?_ | refine aw_seq ?_ | refine aw_seqr ?_ | refine aw_block ?_ | refine aw_true ?_ | refine s_alloc (fun _ => ?_) | refine s_store' ?_ | refine c_nd ?_ | refine c_my ?_ | refine s_callr hs1 ?_ | (refine s_call (g1 ?_) (fun x τ' h => by cases h.1) (fun c τ' h env' => ?_); omega; obtain ⟨h1, _, _, rfl⟩ := h; cases h1)))
      (repeat (first | refine then_pan ?_ | refine inb_pan ?_)); exact post_pan ⟨_, .pan _, rfl, _, _, rfl⟩ pks
    | ok a q e =>
      rw [h1] at g1 i1 w1
      dsimp only [Res.bnd] at g1 i1
      obtain ⟨_, _, _⟩ := w1
      rw [enc_ag] at g1
      repeat (any_goals (first | refine s_at ?_ | refine s_skip ?_ | refine s_off ?_ | refine s_move ?_ | refine s_assign ?_ | refine s_load ?_ | refine s_pick1 ?_ | refine s_pure ?_ | refine s_nil ?_ | refine aw_seq ?_ | refine aw_seqr ?_ | refine aw_block ?_ | refine aw_true ?_ | refine s_alloc (fun _ => ?_) | refine s_store' ?_ | refine c_nd ?_ | refine c_dn ?_ | refine c_my ?_ | refine s_callr hs1 ?_ | (refine s_call (g1 ?_) (fun x τ' h => ?_) (fun c τ' h => by cases h.1); omega; obtain ⟨h1, rfl, _, _⟩ := h; cases h1) | refine s_litq ?_ | refine s_append ?_))
      have e4 : encs acc ++ [AV.ag (nd 40 0 ⟨#[]⟩ (.sl 6 [AV.ag [i64 a.kind, i64 a.n, str a.s, AV.sl 6 (encs a.l), i64 a.b, i64 a.e]]) (here tx T pos1) (max (here tx T pos1 : Int) (behind T q)))] = encs (acc ++ [.mk 40 0 ⟨#[]⟩ [a] (here tx T pos1) (max (here tx T pos1 : Int) (behind T q))]) := by
        rw [encs_append]
        refine congrArg _ ?_
        rw [encs, enc, encs, encs, encs, enc_ag a]
      rw [e4]
      refine d_end fun env' he => inb_nor (then_nor ?_)
      refine ⟨(acc ++ [.mk 40 0 ⟨#[]⟩ [a] (here tx T pos1) (max (here tx T pos1 : Int) (behind T q))], n, q, e), ?dr0, ⟨i1, ?_, ?_, ?_, ?_, ?_⟩, ?_, EnvLe.of_eq he ?_, ?perm0⟩
      case perm0 => exact Picks.perm pks
      · dsimp only; omega
      · dsimp only; omega
      · dsimp only; omega
      · dsimp only; rw [List.length_append]; simp only [List.length_cons, List.length_nil]; omega
      · dsimp only; omega
      · dsimp only; omega
      · exact els
  | false =>
    rw [c1, if_neg (by simp)] at i1
    rw [c1] at hs1
    cases c2 : isT (tokAt T pos1) ⟨#[63]⟩ with
    | true =>
      rw [c2, if_pos rfl] at i1
      rw [c2] at hs2
      have hlt := isT_lt c2
      have g1 := sim_shared I p tx T k hT 41 (pos1 + 1) ex1 (by omega)
      have w1 := pShared_wf tx T 41 (pos1 + 1) ex1 (by omega) (by omega)
      unfold SimT Rdr at g1
      cases h1 : pShared tx T 41 (pos1 + 1) ex1 with
      | bad q =>
        rw [h1] at g1 i1
        dsimp only [Res.bnd] at g1 i1
        subst i1
        dsimp only [Res.bnd]
        repeat (any_goals (first | refine s_at ?_ | refine s_skip ?_ | refine s_move ?_ | refine s_pick0 ?_ | refine s_nil ?_ | refine aw_seq ?_ | refine aw_seqr ?_ | refine aw_block ?_ | refine aw_true ?_ | refine aw_false ?_ | refine s_alloc (fun _ => ?_) | refine s_store' ?_ | refine c_nd ?_ | refine c_mn ?_ | refine c_uy ?_ | refine s_callr hs1 ?_ | refine s_callr hs2 ?_ | (refine s_call (g1 ?_) (fun x τ' h => by cases h.1) (fun c τ' h env' => ?_); omega; obtain ⟨h1, _, _, rfl⟩ := h; cases h1)))
        (repeat (first | refine then_pan ?_ | refine inb_pan ?_)); exact post_pan ⟨_, .pan _, rfl, _, _, rfl⟩ pks
      | ok l q e =>
        have hl := pShared_adv tx T h1
        have hle2 := encs_length l
        rw [h1] at g1 i1 w1
        dsimp only [Res.bnd] at g1 i1
        obtain ⟨_, _, _⟩ := w1
        repeat (any_goals (first | refine s_at ?_ | refine s_skip ?_ | refine s_move ?_ | refine s_assign ?_ | refine s_pick0 ?_ | refine s_nil ?_ | refine aw_seq ?_ | refine aw_seqr ?_ | refine aw_block ?_ | refine aw_true ?_ | refine aw_false ?_ | refine s_alloc (fun _ => ?_) | refine s_store' ?_ | refine c_nd ?_ | refine c_mn ?_ | refine c_uy ?_ | refine s_callr hs1 ?_ | refine s_callr hs2 ?_ | (refine s_call (g1 ?_) (fun x τ' h => ?_) (fun c τ' h => by obtain ⟨⟨_, h0, _⟩, _⟩ := h; cases h0); omega; obtain ⟨⟨j1, h1, rfl⟩, _, _⟩ := h; cases h1) | refine s_append ?_))
        rw [← encs_append]
        refine d_end fun env' he => inb_nor (then_nor ?_)
        refine ⟨(acc ++ l, n, q, e), ?dr1, ⟨i1, ?_, ?_, ?_, ?_, ?_⟩, ?_, EnvLe.of_eq he ?_, ?perm1⟩
        case perm1 => exact Picks.perm pks
        · dsimp only; omega
        · dsimp only; omega
        · dsimp only; omega
        · dsimp only; rw [List.length_append]; omega
        · dsimp only; omega
        · dsimp only; omega
        · exact els
    | false =>
      rw [c2, if_neg (by simp)] at i1
      rw [c2] at hs2
      subst i1
      repeat (any_goals (first | refine s_at ?_ | refine s_move ?_ | refine s_pick0 ?_ | refine s_nil ?_ | refine aw_seq ?_ | refine aw_seqr ?_ | refine aw_false ?_ | refine s_callr hs1 ?_ | refine s_callr hs2 ?_))
      refine aw_exit ?_; (repeat refine then_exit ?_); refine inb_exit ?_; refine then_nor ?_
      refine aw_to (act1 I p tx T k hT hN hi pre b wpre pos hpre acc (by omega) k2 b3 b4 b5 b6 pos1 ex1 i4 i3 i6) els pks

end
end Go.Proofs.YtjcocblohiglbaaGreatDoor
