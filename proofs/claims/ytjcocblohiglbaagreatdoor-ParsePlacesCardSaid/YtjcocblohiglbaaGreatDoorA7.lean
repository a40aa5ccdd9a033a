/- The reader of specifications: behaviours that no operator divides. Conditions: none. -/
import Derived.Test.YtjcocblohiglbaaGreatDoorA6
namespace Go.Proofs.YtjcocblohiglbaaGreatDoor
open Go.Dp
set_option linter.unusedVariables false
set_option linter.unusedSimpArgs false
section
variable (I : World → Prop) (p : Nat) (tx : ByteArray) (T : List Tk) (k : Nat)
/-- A choice. -/
def pChoose (beh : Nat → List (Nat × Nat) → Res Nd) (pos : Nat) (ex : List (Nat × Nat)) : Res Nd :=
  (pChoice tx T beh (here tx T pos) (pos + 1) ex).bnd fun x q0 e0 =>
  .ok (x) q0 e0
set_option maxRecDepth 20000 in set_option maxHeartbeats 4000000 in
theorem sim_choose (hT : Fit T) (beh : Nat → List (Nat × Nat) → Res Nd) (wbeh : ∀ pos ex, pos ≤ T.length → ex.length ≤ pos → (beh pos ex).wf T (pos + 1)) (pos : Nat) (ex : List (Nat × Nat)) (hp : pos ≤ T.length) (hbeh : ∀ q ex, pos < q → q ≤ T.length → SimP I p tx T k 23 [ptr p] enc beh q ex) (c0 : isT (tokAt T pos) ⟨#[99, 104, 111, 105, 99, 101]⟩ = true) : SimP I p tx T k 88 [ptr p] enc (pChoose tx T beh) pos ex := by
  have hT' : T.length ≤ 1000000 := hT
  unfold SimP Rdr
  intro hxl
  rw [pChoose]
  have hlt0 := isT_lt c0
  have n0 : isT (tokAt T pos) ⟨#[91]⟩ = false := isT_ne c0 (by decide)
  have n1 : isT (tokAt T pos) ⟨#[40]⟩ = false := isT_ne c0 (by decide)
  have n2 : isT (tokAt T pos) ⟨#[119, 97, 105, 116]⟩ = false := isT_ne c0 (by decide)
  have n3 : isT (tokAt T pos) ⟨#[104, 105, 100, 101]⟩ = false := isT_ne c0 (by decide)
  have n4 : isT (tokAt T pos) ⟨#[108, 101, 116]⟩ = false := isT_ne c0 (by decide)
  have g1 := sim_choice I p tx T k hT beh (here tx T pos) wbeh (pos + 1) ex (by omega) (fun q ex h1 h2 => hbeh q ex (by omega) h2)
  unfold SimP Rdr at g1
  have w1 := pChoice_wf tx T beh (here tx T pos) wbeh (pos + 1) ex (by omega) (by omega)
  cases h1 : pChoice tx T beh (here tx T pos) (pos + 1) ex with
  | bad q0 =>
    rw [h1] at g1
    dsimp only [Res.bnd] at g1 ⊢
    refine sim_body' Tryz.func88 rfl rfl rfl ?_
    repeat (any_goals (first | refine s_at ?_ | refine s_move ?_ | refine s_assign ?_ | refine s_load ?_ | refine s_nil ?_ | refine aw_seq ?_ | refine aw_seqr ?_ | refine aw_block ?_ | refine aw_true ?_ | refine aw_false ?_ | refine s_alloc (fun _ => ?_) | refine s_store' ?_ | refine c_nd ?_ | refine c_nx ?_ | refine c_my ?_ | refine c_mn ?_ | (refine s_call (g1 ?_) (fun x τ' h => by cases h.1) (fun c τ' h env' => ?_); omega; obtain ⟨h1, _, _, rfl⟩ := h; cases h1)))
    (repeat (first | refine then_pan ?_ | refine inb_pan ?_)); exact post_pan ⟨_, .pan _, rfl, _, _, rfl⟩ pks
  | ok x q0 e0 =>
    rw [h1] at g1 w1
    dsimp only [Res.bnd] at g1 ⊢
    obtain ⟨_, _, _⟩ := w1
    rw [enc_ag] at g1
    try dsimp only
    refine sim_body' Tryz.func88 rfl rfl rfl ?_
    repeat (any_goals (first | refine s_at ?_ | refine s_move ?_ | refine s_assign ?_ | refine s_load ?_ | refine s_nil ?_ | refine aw_seq ?_ | refine aw_seqr ?_ | refine aw_block ?_ | refine aw_true ?_ | refine aw_false ?_ | refine s_alloc (fun _ => ?_) | refine s_store' ?_ | refine c_nd ?_ | refine c_nx ?_ | refine c_my ?_ | refine c_mn ?_ | (refine s_call (g1 ?_) (fun x τ' h => ?_) (fun c τ' h => by cases h.1); omega; obtain ⟨h1, rfl, _, _⟩ := h; cases h1)))
    refine aw_ret ?_; (repeat (first | refine then_ret ?_ | refine inb_ret ?_)); refine post_of ⟨_, .ret _ _ ?_, rfl, rfl, by omega, by omega⟩ rvs pks
    rw [enc_ag]
    exact .refl _
/-- The end. -/
def pStop (pos : Nat) (ex : List (Nat × Nat)) : Res Nd :=
  .ok (.mk 20 0 ⟨#[]⟩ [] (here tx T pos) (max (here tx T pos : Int) (behind T (pos + 1)))) (pos + 1) ex
set_option maxRecDepth 20000 in set_option maxHeartbeats 4000000 in
theorem sim_stop (hT : Fit T) (pos : Nat) (ex : List (Nat × Nat)) (hp : pos ≤ T.length) (c0 : isT (tokAt T pos) ⟨#[115, 116, 111, 112]⟩ = true) : SimP I p tx T k 88 [ptr p] enc (pStop tx T) pos ex := by
  have hT' : T.length ≤ 1000000 := hT
  unfold SimP Rdr
  intro hxl
  rw [pStop]
  have hlt0 := isT_lt c0
  have n0 : isT (tokAt T pos) ⟨#[91]⟩ = false := isT_ne c0 (by decide)
  have n1 : isT (tokAt T pos) ⟨#[40]⟩ = false := isT_ne c0 (by decide)
  have n2 : isT (tokAt T pos) ⟨#[119, 97, 105, 116]⟩ = false := isT_ne c0 (by decide)
  have n3 : isT (tokAt T pos) ⟨#[104, 105, 100, 101]⟩ = false := isT_ne c0 (by decide)
  have n4 : isT (tokAt T pos) ⟨#[108, 101, 116]⟩ = false := isT_ne c0 (by decide)
  have n5 : isT (tokAt T pos) ⟨#[99, 104, 111, 105, 99, 101]⟩ = false := isT_ne c0 (by decide)
  try dsimp only
  refine sim_body' Tryz.func88 rfl rfl rfl ?_
  repeat (any_goals (first | refine s_at ?_ | refine s_skip ?_ | refine s_move ?_ | refine s_assign ?_ | refine s_load ?_ | refine s_nil ?_ | refine aw_seq ?_ | refine aw_seqr ?_ | refine aw_block ?_ | refine aw_true ?_ | refine aw_false ?_ | refine s_alloc (fun _ => ?_) | refine s_store' ?_ | refine c_nd ?_ | refine c_nx ?_ | refine c_dn ?_ | refine c_my ?_ | refine c_mn ?_))
  refine aw_ret ?_; (repeat (first | refine then_ret ?_)); refine post_of ⟨_, .ret _ _ ?_, rfl, rfl, by omega, by omega⟩ rvs pks
  refine sub_enc ?_; (first | exact .nil 6 | exact .refl _ | (simp only [encs]; (first | refine .sl _ _ _ ?_ | refine .os _ _ _ _ ?_); (repeat (first | exact Subs.nil)))) 
/-- A successful end. -/
def pExits (pos : Nat) (ex : List (Nat × Nat)) : Res Nd :=
  (pExit tx T (here tx T pos) (pos + 1) ex).bnd fun x q0 e0 =>
  .ok (x) q0 e0
set_option maxRecDepth 20000 in set_option maxHeartbeats 4000000 in
theorem sim_exits (hT : Fit T) (pos : Nat) (ex : List (Nat × Nat)) (hp : pos ≤ T.length) (c0 : isT (tokAt T pos) ⟨#[101, 120, 105, 116]⟩ = true) : SimP I p tx T k 88 [ptr p] enc (pExits tx T) pos ex := by
  have hT' : T.length ≤ 1000000 := hT
  unfold SimP Rdr
  intro hxl
  rw [pExits]
  have hlt0 := isT_lt c0
  have n0 : isT (tokAt T pos) ⟨#[91]⟩ = false := isT_ne c0 (by decide)
  have n1 : isT (tokAt T pos) ⟨#[40]⟩ = false := isT_ne c0 (by decide)
  have n2 : isT (tokAt T pos) ⟨#[119, 97, 105, 116]⟩ = false := isT_ne c0 (by decide)
  have n3 : isT (tokAt T pos) ⟨#[104, 105, 100, 101]⟩ = false := isT_ne c0 (by decide)
  have n4 : isT (tokAt T pos) ⟨#[108, 101, 116]⟩ = false := isT_ne c0 (by decide)
  have n5 : isT (tokAt T pos) ⟨#[99, 104, 111, 105, 99, 101]⟩ = false := isT_ne c0 (by decide)
  have n6 : isT (tokAt T pos) ⟨#[115, 116, 111, 112]⟩ = false := isT_ne c0 (by decide)
  have g1 := sim_exit I p tx T k hT (here tx T pos) (pos + 1) ex (by omega)
  unfold SimP Rdr at g1
  have w1 := pExit_wf tx T (here tx T pos) (pos + 1) ex (by omega) (by omega)
  cases h1 : pExit tx T (here tx T pos) (pos + 1) ex with
  | bad q0 =>
    rw [h1] at g1
    dsimp only [Res.bnd] at g1 ⊢
    refine sim_body' Tryz.func88 rfl rfl rfl ?_
    repeat (any_goals (first | refine s_at ?_ | refine s_move ?_ | refine s_assign ?_ | refine s_load ?_ | refine s_nil ?_ | refine aw_seq ?_ | refine aw_seqr ?_ | refine aw_block ?_ | refine aw_true ?_ | refine aw_false ?_ | refine s_alloc (fun _ => ?_) | refine s_store' ?_ | refine c_nd ?_ | refine c_nx ?_ | refine c_my ?_ | refine c_mn ?_ | (refine s_call (g1 ?_) (fun x τ' h => by cases h.1) (fun c τ' h env' => ?_); omega; obtain ⟨h1, _, _, rfl⟩ := h; cases h1)))
    (repeat (first | refine then_pan ?_ | refine inb_pan ?_)); exact post_pan ⟨_, .pan _, rfl, _, _, rfl⟩ pks
  | ok x q0 e0 =>
    rw [h1] at g1 w1
    dsimp only [Res.bnd] at g1 ⊢
    obtain ⟨_, _, _⟩ := w1
    rw [enc_ag] at g1
    try dsimp only
    refine sim_body' Tryz.func88 rfl rfl rfl ?_
    repeat (any_goals (first | refine s_at ?_ | refine s_move ?_ | refine s_assign ?_ | refine s_load ?_ | refine s_nil ?_ | refine aw_seq ?_ | refine aw_seqr ?_ | refine aw_block ?_ | refine aw_true ?_ | refine aw_false ?_ | refine s_alloc (fun _ => ?_) | refine s_store' ?_ | refine c_nd ?_ | refine c_nx ?_ | refine c_my ?_ | refine c_mn ?_ | (refine s_call (g1 ?_) (fun x τ' h => ?_) (fun c τ' h => by cases h.1); omega; obtain ⟨h1, rfl, _, _⟩ := h; cases h1)))
    refine aw_ret ?_; (repeat (first | refine then_ret ?_ | refine inb_ret ?_)); refine post_of ⟨_, .ret _ _ ?_, rfl, rfl, by omega, by omega⟩ rvs pks
    rw [enc_ag]
    exact .refl _
def pAct (pre : Nat → List (Nat × Nat) → Res Nd) (pos : Nat) (ex : List (Nat × Nat)) : Res Nd := (pAction tx T pre (here tx T pos) pos ex).bnd fun x q0 e0 => .ok x q0 e0
def pCalls (pos : Nat) (ex : List (Nat × Nat)) : Res Nd := (pCall tx T (here tx T pos) pos ex).bnd fun x q0 e0 => .ok x q0 e0
set_option maxRecDepth 20000 in set_option maxHeartbeats 4000000 in
theorem sim_act1 (hT : Fit T) (hN : Nums T) (hi : ItoaOk I) (pre : Nat → List (Nat × Nat) → Res Nd) (wpre : ∀ pos ex, pos ≤ T.length → ex.length ≤ pos → (pre pos ex).wf T (pos + 1)) (pos : Nat) (ex : List (Nat × Nat)) (hp : pos ≤ T.length) (hpre : ∀ q ex, pos < q → q ≤ T.length → SimP I p tx T k 88 [ptr p] enc pre q ex) (c0 : isT (tokAt T pos) ⟨#[105]⟩ = true) : SimP I p tx T k 88 [ptr p] enc (pAct tx T pre) pos ex := by
  have hT' : T.length ≤ 1000000 := hT
  unfold SimP Rdr
  intro hxl
  rw [pAct]
  have hlt0 := isT_lt c0
  have n0 : isT (tokAt T pos) ⟨#[91]⟩ = false := isT_ne c0 (by decide)
  have n1 : isT (tokAt T pos) ⟨#[40]⟩ = false := isT_ne c0 (by decide)
  have n2 : isT (tokAt T pos) ⟨#[119, 97, 105, 116]⟩ = false := isT_ne c0 (by decide)
  have n3 : isT (tokAt T pos) ⟨#[104, 105, 100, 101]⟩ = false := isT_ne c0 (by decide)
  have n4 : isT (tokAt T pos) ⟨#[108, 101, 116]⟩ = false := isT_ne c0 (by decide)
  have n5 : isT (tokAt T pos) ⟨#[99, 104, 111, 105, 99, 101]⟩ = false := isT_ne c0 (by decide)
  have n6 : isT (tokAt T pos) ⟨#[115, 116, 111, 112]⟩ = false := isT_ne c0 (by decide)
  have n7 : isT (tokAt T pos) ⟨#[101, 120, 105, 116]⟩ = false := isT_ne c0 (by decide)
  have f1 := sim_isT I (tokAt T pos) ⟨#[105]⟩
  rw [c0] at f1
  have g1 := sim_action I p tx T k hT hN hi pre (here tx T pos) wpre pos ex (by omega) hpre
  unfold SimP Rdr at g1
  have w1 := pAction_wf tx T pre (here tx T pos) wpre pos ex (by omega) (by omega)
  cases h1 : pAction tx T pre (here tx T pos) pos ex with
  | bad q0 =>
    rw [h1] at g1
    dsimp only [Res.bnd] at g1 ⊢
    refine sim_body' Tryz.func88 rfl rfl rfl ?_
    repeat (any_goals (first | refine s_at ?_ | refine s_skip ?_ | refine s_move ?_ | refine s_assign ?_ | refine s_load ?_ | refine s_nil ?_ | refine aw_seq ?_ | refine aw_seqr ?_ | refine aw_block ?_ | refine aw_true ?_ | refine aw_false ?_ | refine s_alloc (fun _ => ?_) | refine s_store' ?_ | refine c_nd ?_ | refine c_nx ?_ | refine c_mn ?_ | refine s_call0 f1 ?_ | (refine s_call (g1 ?_) (fun x τ' h => by cases h.1) (fun c τ' h env' => ?_); omega; obtain ⟨h1, _, _, rfl⟩ := h; cases h1)))
    (repeat (first | refine then_pan ?_ | refine inb_pan ?_)); exact post_pan ⟨_, .pan _, rfl, _, _, rfl⟩ pks
  | ok x q0 e0 =>
    rw [h1] at g1 w1
    dsimp only [Res.bnd] at g1 ⊢
    obtain ⟨_, _, _⟩ := w1
    rw [enc_ag] at g1
    try dsimp only
    refine sim_body' Tryz.func88 rfl rfl rfl ?_
    repeat (any_goals (first | refine s_at ?_ | refine s_skip ?_ | refine s_move ?_ | refine s_assign ?_ | refine s_load ?_ | refine s_nil ?_ | refine aw_seq ?_ | refine aw_seqr ?_ | refine aw_block ?_ | refine aw_true ?_ | refine aw_false ?_ | refine s_alloc (fun _ => ?_) | refine s_store' ?_ | refine c_nd ?_ | refine c_nx ?_ | refine c_mn ?_ | refine s_call0 f1 ?_ | (refine s_call (g1 ?_) (fun x τ' h => ?_) (fun c τ' h => by cases h.1); omega; obtain ⟨h1, rfl, _, _⟩ := h; cases h1)))
    refine aw_ret ?_; (repeat (first | refine then_ret ?_ | refine inb_ret ?_)); refine post_of ⟨_, .ret _ _ ?_, rfl, rfl, by omega, by omega⟩ rvs pks
    rw [enc_ag]
    exact .refl _
set_option maxRecDepth 20000 in set_option maxHeartbeats 4000000 in
theorem sim_act2 (hT : Fit T) (hN : Nums T) (hi : ItoaOk I) (pre : Nat → List (Nat × Nat) → Res Nd) (wpre : ∀ pos ex, pos ≤ T.length → ex.length ≤ pos → (pre pos ex).wf T (pos + 1)) (pos : Nat) (ex : List (Nat × Nat)) (hp : pos ≤ T.length) (hpre : ∀ q ex, pos < q → q ≤ T.length → SimP I p tx T k 88 [ptr p] enc pre q ex) (c0 : (tokAt T pos).kind = 1) (c1 : actsT (tokAt T (pos + 1)) = true) : SimP I p tx T k 88 [ptr p] enc (pAct tx T pre) pos ex := by
  have hT' : T.length ≤ 1000000 := hT
  unfold SimP Rdr
  intro hxl
  rw [pAct]
  have hlt0 := tokAt_lt (T := T) (pos := pos) (by omega)
  have n0 : isT (tokAt T pos) ⟨#[91]⟩ = false := isT_name c0
  have n1 : isT (tokAt T pos) ⟨#[40]⟩ = false := isT_name c0
  have n2 : isT (tokAt T pos) ⟨#[119, 97, 105, 116]⟩ = false := isT_name c0
  have n3 : isT (tokAt T pos) ⟨#[104, 105, 100, 101]⟩ = false := isT_name c0
  have n4 : isT (tokAt T pos) ⟨#[108, 101, 116]⟩ = false := isT_name c0
  have n5 : isT (tokAt T pos) ⟨#[99, 104, 111, 105, 99, 101]⟩ = false := isT_name c0
  have n6 : isT (tokAt T pos) ⟨#[115, 116, 111, 112]⟩ = false := isT_name c0
  have n7 : isT (tokAt T pos) ⟨#[101, 120, 105, 116]⟩ = false := isT_name c0
  have f1 := sim_isT I (tokAt T pos) ⟨#[105]⟩
  rw [isT_name c0] at f1
  have f2 := sim_acts I p tx T hT pos (.os k 2 (ex.map eext)) (by omega)
  rw [c1] at f2
  have g1 := sim_action I p tx T k hT hN hi pre (here tx T pos) wpre pos ex (by omega) hpre
  unfold SimP Rdr at g1
  have w1 := pAction_wf tx T pre (here tx T pos) wpre pos ex (by omega) (by omega)
  cases h1 : pAction tx T pre (here tx T pos) pos ex with
  | bad q0 =>
    rw [h1] at g1
    dsimp only [Res.bnd] at g1 ⊢
    refine sim_body' Tryz.func88 rfl rfl rfl ?_
    repeat (any_goals (first | refine s_at ?_ | refine s_move ?_ | refine s_assign ?_ | refine s_load ?_ | refine s_pick1 ?_ | refine s_pure ?_ | refine s_nil ?_ | refine aw_seq ?_ | refine aw_seqr ?_ | refine aw_block ?_ | refine aw_true ?_ | refine aw_false ?_ | refine s_alloc (fun _ => ?_) | refine s_store' ?_ | refine c_nd ?_ | refine c_nx ?_ | refine c_mn ?_ | refine s_call0 f1 ?_ | refine s_callr f2 ?_ | (refine s_call (g1 ?_) (fun x τ' h => by cases h.1) (fun c τ' h env' => ?_); omega; obtain ⟨h1, _, _, rfl⟩ := h; cases h1) | (refine s_cmp (fun h => ?_) (fun h => ?_) <;> try (exfalso; omega))))
    (repeat (first | refine then_pan ?_ | refine inb_pan ?_)); exact post_pan ⟨_, .pan _, rfl, _, _, rfl⟩ pks
  | ok x q0 e0 =>
    rw [h1] at g1 w1
    dsimp only [Res.bnd] at g1 ⊢
    obtain ⟨_, _, _⟩ := w1
    rw [enc_ag] at g1
    try dsimp only
    refine sim_body' Tryz.func88 rfl rfl rfl ?_
    repeat (any_goals (first | refine s_at ?_ | refine s_move ?_ | refine s_assign ?_ | refine s_load ?_ | refine s_pick1 ?_ | refine s_pure ?_ | refine s_nil ?_ | refine aw_seq ?_ | refine aw_seqr ?_ | refine aw_block ?_ | refine aw_true ?_ | refine aw_false ?_ | refine s_alloc (fun _ => ?_) | refine s_store' ?_ | refine c_nd ?_ | refine c_nx ?_ | refine c_mn ?_ | refine s_call0 f1 ?_ | refine s_callr f2 ?_ | (refine s_call (g1 ?_) (fun x τ' h => ?_) (fun c τ' h => by cases h.1); omega; obtain ⟨h1, rfl, _, _⟩ := h; cases h1) | (refine s_cmp (fun h => ?_) (fun h => ?_) <;> try (exfalso; omega))))
    refine aw_ret ?_; (repeat (first | refine then_ret ?_ | refine inb_ret ?_)); refine post_of ⟨_, .ret _ _ ?_, rfl, rfl, by omega, by omega⟩ rvs pks
    rw [enc_ag]
    exact .refl _
set_option maxRecDepth 20000 in set_option maxHeartbeats 4000000 in
theorem sim_calls (hT : Fit T) (pos : Nat) (ex : List (Nat × Nat)) (hp : pos ≤ T.length) (c0 : (tokAt T pos).kind = 1) (c1 : actsT (tokAt T (pos + 1)) = false) : SimP I p tx T k 88 [ptr p] enc (pCalls tx T) pos ex := by
  have hT' : T.length ≤ 1000000 := hT
  unfold SimP Rdr
  intro hxl
  rw [pCalls]
  have hlt0 := tokAt_lt (T := T) (pos := pos) (by omega)
  have n0 : isT (tokAt T pos) ⟨#[91]⟩ = false := isT_name c0
  have n1 : isT (tokAt T pos) ⟨#[40]⟩ = false := isT_name c0
  have n2 : isT (tokAt T pos) ⟨#[119, 97, 105, 116]⟩ = false := isT_name c0
  have n3 : isT (tokAt T pos) ⟨#[104, 105, 100, 101]⟩ = false := isT_name c0
  have n4 : isT (tokAt T pos) ⟨#[108, 101, 116]⟩ = false := isT_name c0
  have n5 : isT (tokAt T pos) ⟨#[99, 104, 111, 105, 99, 101]⟩ = false := isT_name c0
  have n6 : isT (tokAt T pos) ⟨#[115, 116, 111, 112]⟩ = false := isT_name c0
  have n7 : isT (tokAt T pos) ⟨#[101, 120, 105, 116]⟩ = false := isT_name c0
  have f1 := sim_isT I (tokAt T pos) ⟨#[105]⟩
  rw [isT_name c0] at f1
  have f2 := sim_acts I p tx T hT pos (.os k 2 (ex.map eext)) (by omega)
  rw [c1] at f2
  have g1 := sim_call I p tx T k hT (here tx T pos) pos ex (by omega)
  unfold SimP Rdr at g1
  have w1 := pCall_wf tx T (here tx T pos) pos ex (by omega) (by omega)
  cases h1 : pCall tx T (here tx T pos) pos ex with
  | bad q0 =>
    rw [h1] at g1
    dsimp only [Res.bnd] at g1 ⊢
    refine sim_body' Tryz.func88 rfl rfl rfl ?_
    repeat (any_goals (first | refine s_at ?_ | refine s_move ?_ | refine s_assign ?_ | refine s_load ?_ | refine s_pick1 ?_ | refine s_pure ?_ | refine s_nil ?_ | refine aw_seq ?_ | refine aw_seqr ?_ | refine aw_block ?_ | refine aw_true ?_ | refine aw_false ?_ | refine s_alloc (fun _ => ?_) | refine s_store' ?_ | refine c_nd ?_ | refine c_nx ?_ | refine c_mn ?_ | refine s_call0 f1 ?_ | refine s_callr f2 ?_ | (refine s_call (g1 ?_) (fun x τ' h => by cases h.1) (fun c τ' h env' => ?_); omega; obtain ⟨h1, _, _, rfl⟩ := h; cases h1) | (refine s_cmp (fun h => ?_) (fun h => ?_) <;> try (exfalso; omega))))
    (repeat (first | refine then_pan ?_ | refine inb_pan ?_)); exact post_pan ⟨_, .pan _, rfl, _, _, rfl⟩ pks
  | ok x q0 e0 =>
    rw [h1] at g1 w1
    dsimp only [Res.bnd] at g1 ⊢
    obtain ⟨_, _, _⟩ := w1
    rw [enc_ag] at g1
    try dsimp only
    refine sim_body' Tryz.func88 rfl rfl rfl ?_
    repeat (any_goals (first | refine s_at ?_ | refine s_move ?_ | refine s_assign ?_ | refine s_load ?_ | refine s_pick1 ?_ | refine s_pure ?_ | refine s_nil ?_ | refine aw_seq ?_ | refine aw_seqr ?_ | refine aw_block ?_ | refine aw_true ?_ | refine aw_false ?_ | refine s_alloc (fun _ => ?_) | refine s_store' ?_ | refine c_nd ?_ | refine c_nx ?_ | refine c_mn ?_ | refine s_call0 f1 ?_ | refine s_callr f2 ?_ | (refine s_call (g1 ?_) (fun x τ' h => ?_) (fun c τ' h => by cases h.1); omega; obtain ⟨h1, rfl, _, _⟩ := h; cases h1) | (refine s_cmp (fun h => ?_) (fun h => ?_) <;> try (exfalso; omega))))
    refine aw_ret ?_; (repeat (first | refine then_ret ?_ | refine inb_ret ?_)); refine post_of ⟨_, .ret _ _ ?_, rfl, rfl, by omega, by omega⟩ rvs pks
    rw [enc_ag]
    exact .refl _
set_option maxRecDepth 20000 in set_option maxHeartbeats 4000000 in
theorem sim_nopre (hT : Fit T) (pos : Nat) (ex : List (Nat × Nat)) (hp : pos ≤ T.length) (n0 : isT (tokAt T pos) ⟨#[91]⟩ = false) (n1 : isT (tokAt T pos) ⟨#[40]⟩ = false) (n2 : isT (tokAt T pos) ⟨#[119, 97, 105, 116]⟩ = false) (n3 : isT (tokAt T pos) ⟨#[104, 105, 100, 101]⟩ = false) (n4 : isT (tokAt T pos) ⟨#[108, 101, 116]⟩ = false) (n5 : isT (tokAt T pos) ⟨#[99, 104, 111, 105, 99, 101]⟩ = false) (n6 : isT (tokAt T pos) ⟨#[115, 116, 111, 112]⟩ = false) (n7 : isT (tokAt T pos) ⟨#[101, 120, 105, 116]⟩ = false) (c8 : isT (tokAt T pos) ⟨#[105]⟩ = false) (c9 : ¬ (tokAt T pos).kind = 1) : SimP I p tx T k 88 [ptr p] enc (fun pos _ => .bad pos) pos ex := by
  unfold SimP Rdr
  intro hxl
  have f1 := sim_isT I (tokAt T pos) ⟨#[105]⟩
  rw [c8] at f1
  dsimp only
  refine sim_body' Tryz.func88 rfl rfl rfl ?_
  repeat (any_goals (first | refine s_at ?_ | refine s_off ?_ | refine s_move ?_ | refine s_assign ?_ | refine s_load ?_ | refine s_pick0 ?_ | refine s_pure ?_ | refine s_nil ?_ | refine aw_seq ?_ | refine aw_seqr ?_ | refine aw_block ?_ | refine aw_false ?_ | refine s_alloc (fun _ => ?_) | refine s_store' ?_ | refine c_nd ?_ | refine c_nx ?_ | refine c_mn ?_ | refine c_wr (fun env' => ?_) | refine s_call0 f1 ?_ | (refine s_cmp (fun h => ?_) (fun h => ?_) <;> try (exfalso; omega))))
  (repeat (first | refine then_pan ?_ | refine inb_pan ?_)); exact post_pan ⟨_, .pan _, rfl, _, _, rfl⟩ pks
/-- A behaviour that no operator divides. -/
def pPre (pre beh : Nat → List (Nat × Nat) → Res Nd) (pos : Nat) (ex : List (Nat × Nat)) : Res Nd :=
  if isT (tokAt T pos) ⟨#[91]⟩ = true then pGuard tx T pre pos ex
  else if isT (tokAt T pos) ⟨#[40]⟩ = true then pParen tx T beh pos ex
  else if isT (tokAt T pos) ⟨#[119, 97, 105, 116]⟩ = true then pWait tx T pre pos ex
  else if isT (tokAt T pos) ⟨#[104, 105, 100, 101]⟩ = true then pHide tx T beh pos ex
  else if isT (tokAt T pos) ⟨#[108, 101, 116]⟩ = true then pLet tx T beh pos ex
  else if isT (tokAt T pos) ⟨#[99, 104, 111, 105, 99, 101]⟩ = true then pChoose tx T beh pos ex
  else if isT (tokAt T pos) ⟨#[115, 116, 111, 112]⟩ = true then pStop tx T pos ex
  else if isT (tokAt T pos) ⟨#[101, 120, 105, 116]⟩ = true then pExits tx T pos ex
  else if isT (tokAt T pos) ⟨#[105]⟩ = true then pAct tx T pre pos ex
  else if (tokAt T pos).kind = 1 then (if actsT (tokAt T (pos + 1)) = true then pAct tx T pre pos ex else pCalls tx T pos ex)
  else .bad pos
theorem pPre_wf (pre beh : Nat → List (Nat × Nat) → Res Nd) (wpre : ∀ pos ex, pos ≤ T.length → ex.length ≤ pos → (pre pos ex).wf T (pos + 1)) (wbeh : ∀ pos ex, pos ≤ T.length → ex.length ≤ pos → (beh pos ex).wf T (pos + 1)) (pos : Nat) (ex : List (Nat × Nat)) (hp : pos ≤ T.length) (hx : ex.length ≤ pos) : (pPre tx T pre beh pos ex).wf T (pos + 1) := by
  rw [pPre]
  refine wf_isT (fun hlt => ?_) (wf_isT (fun hlt => ?_) (wf_isT (fun hlt => ?_) (wf_isT (fun hlt => ?_) (wf_isT (fun hlt => ?_) (wf_isT (fun hlt => ?_) (wf_isT (fun hlt => ?_) (wf_isT (fun hlt => ?_) (wf_isT (fun hlt => ?_) ?_))))))))
  · rw [pGuard]; repeat (any_goals (first | with_reducible refine wf_isT (fun hlt => ?_) ?_ | with_reducible refine wf_ok (by omega) (by omega) (by first | omega | (simp only [List.length_append, List.length_cons, List.length_nil]; omega)) | with_reducible exact wf_bad _ | with_reducible refine wf_bnd (pRows_wf (fun pos ex hp hx => pEq_wf tx T pos ex hp hx) _ _ (by omega) (by omega)) (fun a q e hq1 hq2 hq3 => ?_) | with_reducible refine wf_bnd (wpre _ _ (by omega) (by omega)) (fun a q e hq1 hq2 hq3 => ?_)))
  · rw [pParen]; repeat (any_goals (first | with_reducible refine wf_isT (fun hlt => ?_) ?_ | with_reducible refine wf_ok (by omega) (by omega) (by first | omega | (simp only [List.length_append, List.length_cons, List.length_nil]; omega)) | with_reducible exact wf_bad _ | with_reducible refine wf_bnd (wbeh _ _ (by omega) (by omega)) (fun a q e hq1 hq2 hq3 => ?_)))
  · rw [pWait]
    by_cases c : (tokAt T (pos + 1)).kind = 3
    · rw [if_pos c]
      have := tokAt_lt (T := T) (pos := pos + 1) (by omega)
      repeat (any_goals (first | with_reducible refine wf_isT (fun hlt => ?_) ?_ | with_reducible refine wf_ok (by omega) (by omega) (by first | omega | (simp only [List.length_append, List.length_cons, List.length_nil]; omega)) | with_reducible exact wf_bad _ | with_reducible refine wf_bnd (wpre _ _ (by omega) (by omega)) (fun a q e hq1 hq2 hq3 => ?_)))
    · rw [if_neg c]; exact wf_bad _
  · rw [pHide]; repeat (any_goals (first | with_reducible refine wf_isT (fun hlt => ?_) ?_ | with_reducible refine wf_ok (by omega) (by omega) (by first | omega | (simp only [List.length_append, List.length_cons, List.length_nil]; omega)) | with_reducible exact wf_bad _ | with_reducible refine wf_bnd (pNames_wf tx T _ _ (by omega) (by omega)) (fun a q e hq1 hq2 hq3 => ?_) | with_reducible refine wf_bnd (wbeh _ _ (by omega) (by omega)) (fun a q e hq1 hq2 hq3 => ?_)))
  · rw [pLet]; repeat (any_goals (first | with_reducible refine wf_isT (fun hlt => ?_) ?_ | with_reducible refine wf_ok (by omega) (by omega) (by first | omega | (simp only [List.length_append, List.length_cons, List.length_nil]; omega)) | with_reducible exact wf_bad _ | with_reducible refine wf_bnd (pRows_wf (fun pos ex hp hx => pBind_wf tx T pos ex hp hx) _ _ (by omega) (by omega)) (fun a q e hq1 hq2 hq3 => ?_) | with_reducible refine wf_bnd (wbeh _ _ (by omega) (by omega)) (fun a q e hq1 hq2 hq3 => ?_)))
  · rw [pChoose]
    refine wf_bnd (pChoice_wf tx T beh _ wbeh _ _ (by omega) (by omega)) (fun a q e hq1 hq2 hq3 => ?_)
    repeat (any_goals (first | with_reducible refine wf_ok (by omega) (by omega) (by first | omega | (simp only [List.length_append, List.length_cons, List.length_nil]; omega))))
  · rw [pStop]; repeat (any_goals (first | with_reducible refine wf_ok (by omega) (by omega) (by first | omega | (simp only [List.length_append, List.length_cons, List.length_nil]; omega))))
  · rw [pExits]
    refine wf_bnd (pExit_wf tx T _ _ _ (by omega) (by omega)) (fun a q e hq1 hq2 hq3 => ?_)
    repeat (any_goals (first | with_reducible refine wf_ok (by omega) (by omega) (by first | omega | (simp only [List.length_append, List.length_cons, List.length_nil]; omega))))
  · rw [pAct]
    refine wf_bnd (pAction_wf tx T pre _ wpre _ _ (by omega) (by omega)) (fun a q e hq1 hq2 hq3 => ?_)
    repeat (any_goals (first | with_reducible refine wf_ok (by omega) (by omega) (by first | omega | (simp only [List.length_append, List.length_cons, List.length_nil]; omega))))
  · split
    · rename_i c
      have hlt := tokAt_lt (T := T) (pos := pos) (by omega)
      split
      · rw [pAct]
        refine wf_bnd (pAction_wf tx T pre _ wpre _ _ (by omega) (by omega)) (fun a q e hq1 hq2 hq3 => ?_)
        repeat (any_goals (first | with_reducible refine wf_ok (by omega) (by omega) (by first | omega | (simp only [List.length_append, List.length_cons, List.length_nil]; omega))))
      · rw [pCalls]
        refine wf_bnd (pCall_wf tx T _ _ _ (by omega) (by omega)) (fun a q e hq1 hq2 hq3 => ?_)
        repeat (any_goals (first | with_reducible refine wf_ok (by omega) (by omega) (by first | omega | (simp only [List.length_append, List.length_cons, List.length_nil]; omega))))
    · exact wf_bad _
theorem sim_pre (hT : Fit T) (hN : Nums T) (hi : ItoaOk I) (pre beh : Nat → List (Nat × Nat) → Res Nd) (wpre : ∀ pos ex, pos ≤ T.length → ex.length ≤ pos → (pre pos ex).wf T (pos + 1)) (wbeh : ∀ pos ex, pos ≤ T.length → ex.length ≤ pos → (beh pos ex).wf T (pos + 1)) (pos : Nat) (ex : List (Nat × Nat)) (hp : pos ≤ T.length) (hpre : ∀ q ex, pos < q → q ≤ T.length → SimP I p tx T k 88 [ptr p] enc pre q ex) (hbeh : ∀ q ex, pos < q → q ≤ T.length → SimP I p tx T k 23 [ptr p] enc beh q ex) : SimP I p tx T k 88 [ptr p] enc (pPre tx T pre beh) pos ex := by
  by_cases c0 : isT (tokAt T pos) ⟨#[91]⟩ = true
  · exact SimP.of (m' := pGuard tx T pre) (by rw [pPre, if_pos c0]) (sim_guard I p tx T k hT pre wpre pos ex hp hpre c0)
  by_cases c1 : isT (tokAt T pos) ⟨#[40]⟩ = true
  · exact SimP.of (m' := pParen tx T beh) (by rw [pPre, if_neg c0, if_pos c1]) (sim_paren I p tx T k hT beh wbeh pos ex hp hbeh c1)
  by_cases c2 : isT (tokAt T pos) ⟨#[119, 97, 105, 116]⟩ = true
  · exact SimP.of (m' := pWait tx T pre) (by rw [pPre, if_neg c0, if_neg c1, if_pos c2]) (sim_wait I p tx T k hT pre wpre pos ex hp hpre c2)
  by_cases c3 : isT (tokAt T pos) ⟨#[104, 105, 100, 101]⟩ = true
  · exact SimP.of (m' := pHide tx T beh) (by rw [pPre, if_neg c0, if_neg c1, if_neg c2, if_pos c3]) (sim_hide I p tx T k hT beh wbeh pos ex hp hbeh c3)
  by_cases c4 : isT (tokAt T pos) ⟨#[108, 101, 116]⟩ = true
  · exact SimP.of (m' := pLet tx T beh) (by rw [pPre, if_neg c0, if_neg c1, if_neg c2, if_neg c3, if_pos c4]) (sim_let I p tx T k hT beh wbeh pos ex hp hbeh c4)
  by_cases c5 : isT (tokAt T pos) ⟨#[99, 104, 111, 105, 99, 101]⟩ = true
  · exact SimP.of (m' := pChoose tx T beh) (by rw [pPre, if_neg c0, if_neg c1, if_neg c2, if_neg c3, if_neg c4, if_pos c5]) (sim_choose I p tx T k hT beh wbeh pos ex hp hbeh c5)
  by_cases c6 : isT (tokAt T pos) ⟨#[115, 116, 111, 112]⟩ = true
  · exact SimP.of (m' := pStop tx T) (by rw [pPre, if_neg c0, if_neg c1, if_neg c2, if_neg c3, if_neg c4, if_neg c5, if_pos c6]) (sim_stop I p tx T k hT pos ex hp c6)
  by_cases c7 : isT (tokAt T pos) ⟨#[101, 120, 105, 116]⟩ = true
  · exact SimP.of (m' := pExits tx T) (by rw [pPre, if_neg c0, if_neg c1, if_neg c2, if_neg c3, if_neg c4, if_neg c5, if_neg c6, if_pos c7]) (sim_exits I p tx T k hT pos ex hp c7)
  by_cases c8 : isT (tokAt T pos) ⟨#[105]⟩ = true
  · exact SimP.of (m' := pAct tx T pre) (by rw [pPre, if_neg c0, if_neg c1, if_neg c2, if_neg c3, if_neg c4, if_neg c5, if_neg c6, if_neg c7, if_pos c8]) (sim_act1 I p tx T k hT hN hi pre wpre pos ex hp hpre c8)
  by_cases c9 : (tokAt T pos).kind = 1
  · by_cases c10 : actsT (tokAt T (pos + 1)) = true
    · exact SimP.of (m' := pAct tx T pre) (by rw [pPre, if_neg c0, if_neg c1, if_neg c2, if_neg c3, if_neg c4, if_neg c5, if_neg c6, if_neg c7, if_neg c8, if_pos c9, if_pos c10]) (sim_act2 I p tx T k hT hN hi pre wpre pos ex hp hpre c9 c10)
    · exact SimP.of (m' := pCalls tx T) (by rw [pPre, if_neg c0, if_neg c1, if_neg c2, if_neg c3, if_neg c4, if_neg c5, if_neg c6, if_neg c7, if_neg c8, if_pos c9, if_neg c10]) (sim_calls I p tx T k hT pos ex hp c9 (by rwa [Bool.not_eq_true] at c10))
  exact SimP.of (m' := fun pos _ => .bad pos) (by rw [pPre, if_neg c0, if_neg c1, if_neg c2, if_neg c3, if_neg c4, if_neg c5, if_neg c6, if_neg c7, if_neg c8, if_neg c9]) (sim_nopre I p tx T k hT pos ex hp (by rwa [Bool.not_eq_true] at c0) (by rwa [Bool.not_eq_true] at c1) (by rwa [Bool.not_eq_true] at c2) (by rwa [Bool.not_eq_true] at c3) (by rwa [Bool.not_eq_true] at c4) (by rwa [Bool.not_eq_true] at c5) (by rwa [Bool.not_eq_true] at c6) (by rwa [Bool.not_eq_true] at c7) (by rwa [Bool.not_eq_true] at c8) c9)

end
end Go.Proofs.YtjcocblohiglbaaGreatDoor
