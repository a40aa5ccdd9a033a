/- The reader of specifications: what stands at the end; numbers, windows, calls. Conditions: none. -/
import Derived.Test.YtjcocblohiglbaaGreatDoorA3
import Derived.Lib.ItoaNum
namespace Go.Proofs.YtjcocblohiglbaaGreatDoor
open Go.Dp
set_option linter.unusedVariables false
set_option linter.unusedSimpArgs false
section
variable (I : World → Prop) (p : Nat) (tx : ByteArray) (T : List Tk) (k : Nat)
abbrev itoaB (n : Int) : ByteArray := ⟨(Lib.itoa n).toArray⟩
/-- Numbers are in range. -/
abbrev Nums (T : List Tk) : Prop := ∀ t, t ∈ T → t.kind = 3 → 0 ≤ t.n ∧ t.n ≤ 9223372036854775807
def ItoaOk (I : World → Prop) : Prop := ∀ n : Int, 0 ≤ n → n ≤ 9223372036854775807 → Sim Tryz.prog I 98 [i64 n] [] (fun o τ => o = .ret (str (itoaB n)) ∧ τ = [])
theorem tokAt_mem {T : List Tk} {pos : Nat} (h : pos < T.length) : tokAt T pos ∈ T := by
  rw [tokAt, List.getD_eq_getElem?_getD, List.getElem?_eq_getElem h]
  exact List.getElem_mem h
theorem sub_nil (b : Int) : Sub (.ag (nd 8 0 ⟨#[]⟩ (.sc (.slice none 0 0)) b b)) (enc (emptyAt b)) := sub_enc (.nil 6)
/-- A number as a name. -/
def pNumber (pos : Nat) (ex : List (Nat × Nat)) : Res Nd :=
  if (tokAt T pos).kind = 3 then .ok (.mk 7 0 (itoaB (tokAt T pos).n) [] (here tx T pos) (max (here tx T pos : Int) (behind T (pos + 1)))) (pos + 1) ex else .bad pos
theorem pNumber_wf (pos : Nat) (ex : List (Nat × Nat)) (hp : pos ≤ T.length) (hx : ex.length ≤ pos) : (pNumber tx T pos ex).wf T (pos + 1) := by
  rw [pNumber]
  split
  · rename_i h
    have := tokAt_lt (T := T) (pos := pos) (by omega)
    exact wf_ok (by omega) (by omega) (by omega)
  · exact wf_bad _
set_option maxRecDepth 20000 in set_option maxHeartbeats 4000000 in
theorem sim_number (hT : Fit T) (hN : Nums T) (hi : ItoaOk I) (pos : Nat) (ex : List (Nat × Nat)) (hp : pos ≤ T.length) : SimP I p tx T k 131 [ptr p] enc (pNumber tx T) pos ex := by
  unfold SimP Rdr
  intro hxl
  by_cases hk : (tokAt T pos).kind = 3
  · rw [pNumber, if_pos hk]
    have hlt := tokAt_lt (T := T) (pos := pos) (by omega)
    have hn := hN _ (tokAt_mem hlt) hk
    have g1 := hi _ hn.1 hn.2
    refine sim_body' Tryz.func131 rfl rfl rfl ?_
    repeat (any_goals (first | refine s_at ?_ | refine s_skip ?_ | refine s_move ?_ | refine s_load ?_ | refine s_pure ?_ | refine s_nil ?_ | refine aw_seq ?_ | refine aw_seqr ?_ | refine aw_false ?_ | refine s_alloc (fun _ => ?_) | refine s_store' ?_ | refine s_callr (sim_next I _ _ _ _ _ hT hp) ?_ | (refine s_cmp (fun h => ?_) (fun h => ?_) <;> try (exfalso; omega)) | refine s_callr (sim_node I _ _ _ _ _ hT hp _) ?_ | refine s_call0 g1 ?_ | refine s_add ?_ | (rw [rdr_succ]; refine s_callr (sim_done I p tx T (pos + 1) _ hT (by omega) _ _ _ _ rfl _ _) ?_)))
    refine aw_ret ?_; (repeat (first | refine then_ret ?_))
    refine (post_of ⟨_, .ret _ _ ?_, rfl, rfl, by omega, by omega⟩ rvs pks)
    exact sub_enc (.nil 6)
  · rw [pNumber, if_neg hk]
    refine sim_body' Tryz.func131 rfl rfl rfl ?_
    repeat (any_goals (first | refine s_at ?_ | refine s_move ?_ | refine s_load ?_ | refine s_pure ?_ | refine s_nil ?_ | refine aw_seq ?_ | refine aw_seqr ?_ | refine aw_true ?_ | refine s_alloc (fun _ => ?_) | refine s_store' ?_ | refine s_callr (sim_next I _ _ _ _ _ hT hp) ?_ | (refine s_cmp (fun h => ?_) (fun h => ?_) <;> try (exfalso; omega)) | (refine s_call (sim_wrong I _ _ _ _ _ hT hp) (fun x τ' h => by cases h.1) (fun c τ' h env' => ?_); obtain ⟨h1, rfl⟩ := h; cases h1)))
    (repeat (first | refine then_pan ?_))
    exact post_pan ⟨_, .pan _, rfl, _, _, rfl⟩ pks
/-- A value that is given, or any. -/
def pGive (pos : Nat) (ex : List (Nat × Nat)) : Res Nd :=
  if isT (tokAt T pos) ⟨#[97, 110, 121]⟩ = true then
  (pName tx T (pos + 1) ex).bnd fun a q0 e0 =>
    .ok (.mk 42 0 ⟨#[]⟩ [a] (here tx T pos) (max (here tx T pos : Int) (behind T q0))) q0 e0
else
  (pExpr tx T pos ex).bnd fun a q0 e0 =>
    .ok (.mk 40 0 ⟨#[]⟩ [a] (here tx T pos) (max (here tx T pos : Int) (behind T q0))) q0 e0
theorem pGive_wf (pos : Nat) (ex : List (Nat × Nat)) (hp : pos ≤ T.length) (hx : ex.length ≤ pos) : (pGive tx T pos ex).wf T (pos + 1) := by
  rw [pGive]
  repeat (any_goals (first | with_reducible refine wf_isT (fun hlt => ?_) ?_ | with_reducible refine wf_ok (by omega) (by omega) (by first | omega | (simp only [List.length_append, List.length_cons, List.length_nil]; omega)) | with_reducible refine wf_bnd (pName_wf tx T _ _ (by omega) (by omega)) (fun a q e hq1 hq2 hq3 => ?_) | with_reducible refine wf_bnd (pExpr_wf tx T _ _ (by omega) (by omega)) (fun a q e hq1 hq2 hq3 => ?_)))
set_option maxRecDepth 20000 in set_option maxHeartbeats 4000000 in
theorem sim_give (hT : Fit T) (pos : Nat) (ex : List (Nat × Nat)) (hp : pos ≤ T.length) : SimP I p tx T k 123 [.ep [ptr p]] enc (pGive tx T) pos ex := by
  have hT' : T.length ≤ 1000000 := hT
  unfold SimP Rdr
  intro hxl
  rw [pGive]
  by_cases c1 : isT (tokAt T pos) ⟨#[97, 110, 121]⟩ = true
  · rw [if_pos c1]; have hlt1 := isT_lt c1; try dsimp only [Res.bnd]
    have g2 := sim_name I p tx T k hT (pos + 1) ex (by omega)
    unfold SimP Rdr at g2
    have w2 := pName_wf tx T (pos + 1) ex (by omega) (by omega)
    cases h2 : pName tx T (pos + 1) ex with
    | bad q0 =>
      rw [h2] at g2
      dsimp only [Res.bnd] at g2 ⊢
      refine sim_body' Tryz.func123 rfl rfl rfl ?_
      repeat (any_goals (first | refine s_at ?_ | refine s_loade ?_ | refine s_pure ?_ | refine s_nil ?_ | refine aw_seq ?_ | refine aw_seqr ?_ | refine aw_true ?_ | refine s_alloc (fun _ => ?_) | refine s_store' ?_ | refine c_nd ?_ | refine c_my ?_ | (refine s_call (g2 ?_) (fun x τ' h => by cases h.1) (fun c τ' h env' => ?_); omega; obtain ⟨h1, _, _, rfl⟩ := h; cases h1)))
      (repeat (first | refine then_pan ?_)); exact post_pan ⟨_, .pan _, rfl, _, _, rfl⟩ pks
    | ok a q0 e0 =>
      rw [h2] at g2 w2
      dsimp only [Res.bnd] at g2 ⊢
      obtain ⟨_, _, _⟩ := w2
      rw [enc_ag] at g2
      try dsimp only
      refine sim_body' Tryz.func123 rfl rfl rfl ?_
      repeat (any_goals (first | refine s_at ?_ | refine s_load ?_ | refine s_loade ?_ | refine s_pure ?_ | refine s_nil ?_ | refine aw_seq ?_ | refine aw_seqr ?_ | refine aw_true ?_ | refine s_alloc (fun _ => ?_) | refine s_store' ?_ | refine c_nd ?_ | refine c_dn ?_ | refine c_my ?_ | (refine s_call (g2 ?_) (fun x τ' h => ?_) (fun c τ' h => by cases h.1); omega; obtain ⟨h1, rfl, _, _⟩ := h; cases h1) | refine s_litq ?_))
      refine aw_ret ?_; (repeat (first | refine then_ret ?_)); refine post_of ⟨_, .ret _ _ ?_, rfl, rfl, by omega, by omega⟩ rvs pks
      refine sub_enc ?_; (first | exact .nil 6 | exact .refl _ | (simp only [encs]; (first | refine .sl _ _ _ ?_ | refine .os _ _ _ _ ?_); (repeat (first | exact Subs.nil | (refine Subs.cons _ _ _ _ ?_ ?_; (first | exact sub_nil _ | exact sub_enc (.nil 6) | exact sub_enc (.refl _) | (rw [enc_ag]; exact .refl _))))))) 
  · rw [if_neg c1]; rw [Bool.not_eq_true] at c1; try dsimp only [Res.bnd]
    have g2 := sim_expr I p tx T k hT pos ex (by omega)
    unfold SimP Rdr at g2
    have w2 := pExpr_wf tx T pos ex (by omega) (by omega)
    cases h2 : pExpr tx T pos ex with
    | bad q0 =>
      rw [h2] at g2
      dsimp only [Res.bnd] at g2 ⊢
      refine sim_body' Tryz.func123 rfl rfl rfl ?_
      repeat (any_goals (first | refine s_at ?_ | refine s_loade ?_ | refine s_nil ?_ | refine aw_seq ?_ | refine aw_seqr ?_ | refine aw_false ?_ | refine s_alloc (fun _ => ?_) | refine s_store' ?_ | refine c_nd ?_ | refine c_mn ?_ | (refine s_call (g2 ?_) (fun x τ' h => by cases h.1) (fun c τ' h env' => ?_); omega; obtain ⟨h1, _, _, rfl⟩ := h; cases h1)))
      (repeat (first | refine then_pan ?_)); exact post_pan ⟨_, .pan _, rfl, _, _, rfl⟩ pks
    | ok a q0 e0 =>
      rw [h2] at g2 w2
      dsimp only [Res.bnd] at g2 ⊢
      obtain ⟨_, _, _⟩ := w2
      rw [enc_ag] at g2
      try dsimp only
      refine sim_body' Tryz.func123 rfl rfl rfl ?_
      repeat (any_goals (first | refine s_at ?_ | refine s_load ?_ | refine s_loade ?_ | refine s_pure ?_ | refine s_nil ?_ | refine aw_seq ?_ | refine aw_seqr ?_ | refine aw_false ?_ | refine s_alloc (fun _ => ?_) | refine s_store' ?_ | refine c_nd ?_ | refine c_dn ?_ | refine c_mn ?_ | (refine s_call (g2 ?_) (fun x τ' h => ?_) (fun c τ' h => by cases h.1); omega; obtain ⟨h1, rfl, _, _⟩ := h; cases h1) | refine s_litq ?_))
      refine aw_ret ?_; (repeat (first | refine then_ret ?_)); refine post_of ⟨_, .ret _ _ ?_, rfl, rfl, by omega, by omega⟩ rvs pks
      refine sub_enc ?_; (first | exact .nil 6 | exact .refl _ | (simp only [encs]; (first | refine .sl _ _ _ ?_ | refine .os _ _ _ _ ?_); (repeat (first | exact Subs.nil | (refine Subs.cons _ _ _ _ ?_ ?_; (first | exact sub_nil _ | exact sub_enc (.nil 6) | exact sub_enc (.refl _) | (rw [enc_ag]; exact .refl _))))))) 
/-- A successful end. -/
def pExit (b : Int) (pos : Nat) (ex : List (Nat × Nat)) : Res Nd :=
  if isT (tokAt T pos) ⟨#[40]⟩ = true then
  (pRows T (pGive tx T) (pos + 1) ex).bnd fun l q0 e0 =>
    if isT (tokAt T q0) ⟨#[41]⟩ = true then
    .ok (.mk 21 0 ⟨#[]⟩ l b (max b (behind T (q0 + 1)))) (q0 + 1) e0
  else .bad q0
else
  .ok (.mk 21 0 ⟨#[]⟩ [] b (max b (behind T pos))) pos ex
theorem pExit_wf (b : Int) (pos : Nat) (ex : List (Nat × Nat)) (hp : pos ≤ T.length) (hx : ex.length ≤ pos) : (pExit tx T b pos ex).wf T (pos + 0) := by
  rw [pExit]
  repeat (any_goals (first | with_reducible refine wf_isT (fun hlt => ?_) ?_ | with_reducible refine wf_ok (by omega) (by omega) (by first | omega | (simp only [List.length_append, List.length_cons, List.length_nil]; omega)) | with_reducible exact wf_bad _ | with_reducible refine wf_bnd (pRows_wf (fun pos ex hp hx => pGive_wf tx T pos ex hp hx) _ _ (by omega) (by omega)) (fun a q e hq1 hq2 hq3 => ?_)))
set_option maxRecDepth 20000 in set_option maxHeartbeats 4000000 in
theorem sim_exit (hT : Fit T) (b : Int) (pos : Nat) (ex : List (Nat × Nat)) (hp : pos ≤ T.length) : SimP I p tx T k 106 [ptr p, .ag (nd 20 0 ⟨#[]⟩ (.sc (.slice none 0 0)) b 0)] enc (pExit tx T b) pos ex := by
  have hT' : T.length ≤ 1000000 := hT
  unfold SimP Rdr
  intro hxl
  rw [pExit]
  by_cases c1 : isT (tokAt T pos) ⟨#[40]⟩ = true
  · rw [if_pos c1]; have hlt1 := isT_lt c1; try dsimp only [Res.bnd]
    have g2 := sim_rows I p tx T k hT 123 [] [.ep [ptr p]] (pGive tx T) (fun pos ex hp => sim_give I p tx T k hT pos ex hp) (pos + 1) ex (by omega)
    unfold SimP Rdr at g2
    have w2 := pRows_wf (fun pos ex hp hx => pGive_wf tx T pos ex hp hx) (pos + 1) ex (by omega) (by omega)
    cases h2 : pRows T (pGive tx T) (pos + 1) ex with
    | bad q0 =>
      rw [h2] at g2
      dsimp only [Res.bnd] at g2 ⊢
      refine sim_body' Tryz.func106 rfl rfl rfl ?_
      repeat (any_goals (first | refine aw_freeze 2 rfl (Pick.perm (by repeat (first | exact Pick.here _ | apply Pick.there))) (by intro x hx; rw [List.mem_singleton] at hx; subst hx; rfl) ?_ | refine s_at ?_ | refine s_loade ?_ | refine s_pure ?_ | refine s_nil ?_ | refine aw_seq ?_ | refine aw_seqr ?_ | refine aw_true ?_ | refine s_alloc (fun _ => ?_) | refine s_box (fun _ => ?_) | refine s_box1 (fun _ => ?_) | refine s_store' ?_ | refine c_my ?_ | (refine s_call (g2 ?_) (fun x τ' h => by cases h.1) (fun c τ' h env' => ?_); omega; obtain ⟨h1, _, _, rfl⟩ := h; cases h1)))
      (repeat (first | refine then_pan ?_)); exact post_pan ⟨_, .pan _, rfl, _, _, rfl⟩ pks
    | ok l q0 e0 =>
      rw [h2] at g2 w2
      dsimp only [Res.bnd] at g2 ⊢
      obtain ⟨_, _, _⟩ := w2
      have hl2 := pRows_len h2
      by_cases c3 : isT (tokAt T q0) ⟨#[41]⟩ = true
      · rw [if_pos c3]; have hlt3 := isT_lt c3; try dsimp only [Res.bnd]
        try dsimp only
        refine sim_body' Tryz.func106 rfl rfl rfl ?_
        repeat (any_goals (first | refine aw_freeze 2 rfl (Pick.perm (by repeat (first | exact Pick.here _ | apply Pick.there))) (by intro x hx; rw [List.mem_singleton] at hx; subst hx; rfl) ?_ | refine s_at ?_ | refine s_load ?_ | refine s_loade ?_ | refine s_pure ?_ | refine s_nil ?_ | refine aw_seq ?_ | refine aw_seqr ?_ | refine aw_true ?_ | refine s_alloc (fun _ => ?_) | refine s_box (fun _ => ?_) | refine s_box1 (fun _ => ?_) | refine s_store' ?_ | refine c_dn ?_ | refine c_my ?_ | refine c_uy ?_ | (refine s_call (g2 ?_) (fun x τ' h => ?_) (fun c τ' h => by cases h.1); omega; obtain ⟨h1, rfl, _, _⟩ := h; cases h1)))
        refine aw_ret ?_; (repeat (first | refine then_ret ?_)); refine post_of ⟨_, .ret _ _ ?_, rfl, rfl, by omega, by omega⟩ rvs pks
        refine sub_enc ?_; (first | exact .nil 6 | exact .refl _ | (simp only [encs]; (first | refine .sl _ _ _ ?_ | refine .os _ _ _ _ ?_); (repeat (first | exact Subs.nil)))) 
      · rw [if_neg c3]; rw [Bool.not_eq_true] at c3; try dsimp only [Res.bnd]
        try dsimp only
        refine sim_body' Tryz.func106 rfl rfl rfl ?_
        repeat (any_goals (first | refine aw_freeze 2 rfl (Pick.perm (by repeat (first | exact Pick.here _ | apply Pick.there))) (by intro x hx; rw [List.mem_singleton] at hx; subst hx; rfl) ?_ | refine s_at ?_ | refine s_loade ?_ | refine s_pure ?_ | refine s_nil ?_ | refine aw_seq ?_ | refine aw_seqr ?_ | refine aw_true ?_ | refine s_alloc (fun _ => ?_) | refine s_box (fun _ => ?_) | refine s_box1 (fun _ => ?_) | refine s_store' ?_ | refine c_my ?_ | refine c_un (fun env' => ?_) | (refine s_call (g2 ?_) (fun x τ' h => ?_) (fun c τ' h => by cases h.1); omega; obtain ⟨h1, rfl, _, _⟩ := h; cases h1)))
        (repeat (first | refine then_pan ?_)); exact post_pan ⟨_, .pan _, rfl, _, _, rfl⟩ pks
  · rw [if_neg c1]; rw [Bool.not_eq_true] at c1; try dsimp only [Res.bnd]
    try dsimp only
    refine sim_body' Tryz.func106 rfl rfl rfl ?_
    repeat (any_goals (first | refine aw_freeze 2 rfl (Pick.perm (by repeat (first | exact Pick.here _ | apply Pick.there))) (by intro x hx; rw [List.mem_singleton] at hx; subst hx; rfl) ?_ | refine s_at ?_ | refine s_skip ?_ | refine s_load ?_ | refine s_loade ?_ | refine s_pure ?_ | refine s_nil ?_ | refine aw_seq ?_ | refine aw_seqr ?_ | refine aw_false ?_ | refine s_alloc (fun _ => ?_) | refine s_box (fun _ => ?_) | refine s_box1 (fun _ => ?_) | refine s_store' ?_ | refine c_dn ?_ | refine c_mn ?_))
    refine aw_ret ?_; (repeat (first | refine then_ret ?_)); refine post_of ⟨_, .ret _ _ ?_, rfl, rfl, by omega, by omega⟩ rvs pks
    refine sub_enc ?_; (first | exact .nil 6 | exact .refl _ | (simp only [encs]; (first | refine .sl _ _ _ ?_ | refine .os _ _ _ _ ?_); (repeat (first | exact Subs.nil)))) 
/-- A window of time. -/
def pWindow (pos : Nat) (ex : List (Nat × Nat)) : Res Nd :=
  if isT (tokAt T pos) ⟨#[123]⟩ = true then
  (pNumber tx T (pos + 1) ex).bnd fun a q0 e0 =>
    if isT (tokAt T q0) ⟨#[46, 46]⟩ = true then
    if (tokAt T (q0 + 1)).kind = 3 then
      (pNumber tx T (q0 + 1) e0).bnd fun c q1 e1 =>
        if isT (tokAt T q1) ⟨#[125]⟩ = true then
        .ok (.mk 43 3 ⟨#[]⟩ [a, c] (here tx T pos) (max (here tx T pos : Int) (behind T (q1 + 1)))) (q1 + 1) e1
      else .bad q1
    else
      if isT (tokAt T (q0 + 1)) ⟨#[125]⟩ = true then
        .ok (.mk 43 2 ⟨#[]⟩ [a] (here tx T pos) (max (here tx T pos : Int) (behind T ((q0 + 1) + 1)))) ((q0 + 1) + 1) e0
      else .bad (q0 + 1)
  else
    if isT (tokAt T q0) ⟨#[125]⟩ = true then
      .ok (.mk 43 1 ⟨#[]⟩ [a] (here tx T pos) (max (here tx T pos : Int) (behind T (q0 + 1)))) (q0 + 1) e0
    else .bad q0
else .bad pos
theorem pWindow_wf (pos : Nat) (ex : List (Nat × Nat)) (hp : pos ≤ T.length) (hx : ex.length ≤ pos) : (pWindow tx T pos ex).wf T (pos + 1) := by
  rw [pWindow]
  repeat (any_goals (first | with_reducible refine wf_isT (fun hlt => ?_) ?_ | with_reducible refine wf_if ?_ ?_ | with_reducible refine wf_ok (by omega) (by omega) (by first | omega | (simp only [List.length_append, List.length_cons, List.length_nil]; omega)) | with_reducible exact wf_bad _ | with_reducible refine wf_bnd (pNumber_wf tx T _ _ (by omega) (by omega)) (fun a q e hq1 hq2 hq3 => ?_)))
set_option maxRecDepth 20000 in set_option maxHeartbeats 4000000 in
theorem sim_window (hT : Fit T) (hN : Nums T) (hi : ItoaOk I) (pos : Nat) (ex : List (Nat × Nat)) (hp : pos ≤ T.length) : SimP I p tx T k 124 [ptr p] enc (pWindow tx T) pos ex := by
  have hT' : T.length ≤ 1000000 := hT
  unfold SimP Rdr
  intro hxl
  rw [pWindow]
  by_cases c1 : isT (tokAt T pos) ⟨#[123]⟩ = true
  · rw [if_pos c1]; have hlt1 := isT_lt c1; try dsimp only [Res.bnd]
    have g2 := sim_number I p tx T k hT hN hi (pos + 1) ex (by omega)
    unfold SimP Rdr at g2
    have w2 := pNumber_wf tx T (pos + 1) ex (by omega) (by omega)
    cases h2 : pNumber tx T (pos + 1) ex with
    | bad q0 =>
      rw [h2] at g2
      dsimp only [Res.bnd] at g2 ⊢
      refine sim_body' Tryz.func124 rfl rfl rfl ?_
      repeat (any_goals (first | refine s_at ?_ | refine s_move ?_ | refine s_pure ?_ | refine s_nil ?_ | refine aw_seq ?_ | refine aw_seqr ?_ | refine s_alloc (fun _ => ?_) | refine s_store' ?_ | refine c_nd ?_ | refine c_uy ?_ | (refine s_call (g2 ?_) (fun x τ' h => by cases h.1) (fun c τ' h env' => ?_); omega; obtain ⟨h1, _, _, rfl⟩ := h; cases h1)))
      (repeat (first | refine then_pan ?_)); exact post_pan ⟨_, .pan _, rfl, _, _, rfl⟩ pks
    | ok a q0 e0 =>
      rw [h2] at g2 w2
      dsimp only [Res.bnd] at g2 ⊢
      obtain ⟨_, _, _⟩ := w2
      rw [enc_ag] at g2
      by_cases c3 : isT (tokAt T q0) ⟨#[46, 46]⟩ = true
      · rw [if_pos c3]; have hlt3 := isT_lt c3; try dsimp only [Res.bnd]
        by_cases c4 : (tokAt T (q0 + 1)).kind = 3
        · rw [if_pos c4]
          have g5 := sim_number I p tx T k hT hN hi (q0 + 1) e0 (by omega)
          unfold SimP Rdr at g5
          have w5 := pNumber_wf tx T (q0 + 1) e0 (by omega) (by omega)
          cases h5 : pNumber tx T (q0 + 1) e0 with
          | bad q1 =>
            rw [h5] at g5
            dsimp only [Res.bnd] at g5 ⊢
            refine sim_body' Tryz.func124 rfl rfl rfl ?_
            repeat (any_goals (first | refine s_at ?_ | refine s_move ?_ | refine s_loadd ?_ | refine s_pure ?_ | refine s_nil ?_ | refine aw_seq ?_ | refine aw_seqr ?_ | refine aw_true ?_ | refine s_alloc (fun _ => ?_) | refine s_store' ?_ | refine c_nd ?_ | refine c_nx ?_ | refine c_my ?_ | refine c_uy ?_ | (refine s_call (g2 ?_) (fun x τ' h => ?_) (fun c τ' h => by cases h.1); omega; obtain ⟨h1, rfl, _, _⟩ := h; cases h1) | (refine s_call (g5 ?_) (fun x τ' h => by cases h.1) (fun c τ' h env' => ?_); omega; obtain ⟨h1, _, _, rfl⟩ := h; cases h1) | refine s_drawn 8 [3, 5, 7] ?_ | refine s_lit (fun _ => ?_) | (refine s_cmp (fun h => ?_) (fun h => ?_) <;> try (exfalso; omega))))
            (repeat (first | refine then_pan ?_)); exact post_pan ⟨_, .pan _, rfl, _, _, rfl⟩ pks
          | ok c q1 e1 =>
            rw [h5] at g5 w5
            dsimp only [Res.bnd] at g5 ⊢
            obtain ⟨_, _, _⟩ := w5
            rw [enc_ag] at g5
            by_cases c6 : isT (tokAt T q1) ⟨#[125]⟩ = true
            · rw [if_pos c6]; have hlt6 := isT_lt c6; try dsimp only [Res.bnd]
              try dsimp only
              refine sim_body' Tryz.func124 rfl rfl rfl ?_
              repeat (any_goals (first | refine s_at ?_ | refine s_move ?_ | refine s_load ?_ | refine s_loadd ?_ | refine s_pure ?_ | refine s_nil ?_ | refine aw_seq ?_ | refine aw_seqr ?_ | refine aw_true ?_ | refine s_alloc (fun _ => ?_) | refine s_store' ?_ | refine c_nd ?_ | refine c_nx ?_ | refine c_dn ?_ | refine c_my ?_ | refine c_uy ?_ | (refine s_call (g2 ?_) (fun x τ' h => ?_) (fun c τ' h => by cases h.1); omega; obtain ⟨h1, rfl, _, _⟩ := h; cases h1) | (refine s_call (g5 ?_) (fun x τ' h => ?_) (fun c τ' h => by cases h.1); omega; obtain ⟨h1, rfl, _, _⟩ := h; cases h1) | refine s_drawn 8 [3, 5, 7] ?_ | refine s_lit (fun _ => ?_) | refine s_litq ?_ | refine s_appendd ?_ | (refine s_cmp (fun h => ?_) (fun h => ?_) <;> try (exfalso; omega))))
              refine aw_ret ?_; (repeat (first | refine then_ret ?_)); refine post_of ⟨_, .ret _ _ ?_, rfl, rfl, by omega, by omega⟩ rvs pks
              refine sub_enc ?_; (first | exact .nil 6 | exact .refl _ | (simp only [encs]; (first | refine .sl _ _ _ ?_ | refine .os _ _ _ _ ?_); (repeat (first | exact Subs.nil | (refine Subs.cons _ _ _ _ ?_ ?_; (first | exact sub_nil _ | exact sub_enc (.nil 6) | exact sub_enc (.refl _) | (rw [enc_ag]; exact .refl _))))))) 
            · rw [if_neg c6]; rw [Bool.not_eq_true] at c6; try dsimp only [Res.bnd]
              try dsimp only
              refine sim_body' Tryz.func124 rfl rfl rfl ?_
              repeat (any_goals (first | refine s_at ?_ | refine s_move ?_ | refine s_loadd ?_ | refine s_pure ?_ | refine s_nil ?_ | refine aw_seq ?_ | refine aw_seqr ?_ | refine aw_true ?_ | refine s_alloc (fun _ => ?_) | refine s_store' ?_ | refine c_nd ?_ | refine c_nx ?_ | refine c_my ?_ | refine c_uy ?_ | refine c_un (fun env' => ?_) | (refine s_call (g2 ?_) (fun x τ' h => ?_) (fun c τ' h => by cases h.1); omega; obtain ⟨h1, rfl, _, _⟩ := h; cases h1) | (refine s_call (g5 ?_) (fun x τ' h => ?_) (fun c τ' h => by cases h.1); omega; obtain ⟨h1, rfl, _, _⟩ := h; cases h1) | refine s_drawn 8 [3, 5, 7] ?_ | refine s_lit (fun _ => ?_) | refine s_litq ?_ | refine s_appendd ?_ | (refine s_cmp (fun h => ?_) (fun h => ?_) <;> try (exfalso; omega))))
              (repeat (first | refine then_pan ?_)); exact post_pan ⟨_, .pan _, rfl, _, _, rfl⟩ pks
        · rw [if_neg c4]
          by_cases c5 : isT (tokAt T (q0 + 1)) ⟨#[125]⟩ = true
          · rw [if_pos c5]; have hlt5 := isT_lt c5; try dsimp only [Res.bnd]
            try dsimp only
            refine sim_body' Tryz.func124 rfl rfl rfl ?_
            repeat (any_goals (first | refine s_at ?_ | refine s_skip ?_ | refine s_move ?_ | refine s_load ?_ | refine s_pure ?_ | refine s_nil ?_ | refine aw_seq ?_ | refine aw_seqr ?_ | refine aw_true ?_ | refine aw_false ?_ | refine s_alloc (fun _ => ?_) | refine s_store' ?_ | refine c_nd ?_ | refine c_nx ?_ | refine c_dn ?_ | refine c_my ?_ | refine c_uy ?_ | (refine s_call (g2 ?_) (fun x τ' h => ?_) (fun c τ' h => by cases h.1); omega; obtain ⟨h1, rfl, _, _⟩ := h; cases h1) | refine s_lit (fun _ => ?_) | (refine s_cmp (fun h => ?_) (fun h => ?_) <;> try (exfalso; omega))))
            refine aw_ret ?_; (repeat (first | refine then_ret ?_)); refine post_of ⟨_, .ret _ _ ?_, rfl, rfl, by omega, by omega⟩ rvs pks
            refine sub_enc ?_; (first | exact .nil 6 | exact .refl _ | (simp only [encs]; (first | refine .sl _ _ _ ?_ | refine .os _ _ _ _ ?_); (repeat (first | exact Subs.nil | (refine Subs.cons _ _ _ _ ?_ ?_; (first | exact sub_nil _ | exact sub_enc (.nil 6) | exact sub_enc (.refl _) | (rw [enc_ag]; exact .refl _))))))) 
          · rw [if_neg c5]; rw [Bool.not_eq_true] at c5; try dsimp only [Res.bnd]
            try dsimp only
            refine sim_body' Tryz.func124 rfl rfl rfl ?_
            repeat (any_goals (first | refine s_at ?_ | refine s_skip ?_ | refine s_move ?_ | refine s_pure ?_ | refine s_nil ?_ | refine aw_seq ?_ | refine aw_seqr ?_ | refine aw_true ?_ | refine aw_false ?_ | refine s_alloc (fun _ => ?_) | refine s_store' ?_ | refine c_nd ?_ | refine c_nx ?_ | refine c_my ?_ | refine c_uy ?_ | refine c_un (fun env' => ?_) | (refine s_call (g2 ?_) (fun x τ' h => ?_) (fun c τ' h => by cases h.1); omega; obtain ⟨h1, rfl, _, _⟩ := h; cases h1) | refine s_lit (fun _ => ?_) | (refine s_cmp (fun h => ?_) (fun h => ?_) <;> try (exfalso; omega))))
            (repeat (first | refine then_pan ?_)); exact post_pan ⟨_, .pan _, rfl, _, _, rfl⟩ pks
      · rw [if_neg c3]; rw [Bool.not_eq_true] at c3; try dsimp only [Res.bnd]
        by_cases c4 : isT (tokAt T q0) ⟨#[125]⟩ = true
        · rw [if_pos c4]; have hlt4 := isT_lt c4; try dsimp only [Res.bnd]
          try dsimp only
          refine sim_body' Tryz.func124 rfl rfl rfl ?_
          repeat (any_goals (first | refine s_at ?_ | refine s_skip ?_ | refine s_move ?_ | refine s_load ?_ | refine s_pure ?_ | refine s_nil ?_ | refine aw_seq ?_ | refine aw_seqr ?_ | refine aw_false ?_ | refine s_alloc (fun _ => ?_) | refine s_store' ?_ | refine c_nd ?_ | refine c_dn ?_ | refine c_mn ?_ | refine c_uy ?_ | (refine s_call (g2 ?_) (fun x τ' h => ?_) (fun c τ' h => by cases h.1); omega; obtain ⟨h1, rfl, _, _⟩ := h; cases h1) | refine s_lit (fun _ => ?_)))
          refine aw_ret ?_; (repeat (first | refine then_ret ?_)); refine post_of ⟨_, .ret _ _ ?_, rfl, rfl, by omega, by omega⟩ rvs pks
          refine sub_enc ?_; (first | exact .nil 6 | exact .refl _ | (simp only [encs]; (first | refine .sl _ _ _ ?_ | refine .os _ _ _ _ ?_); (repeat (first | exact Subs.nil | (refine Subs.cons _ _ _ _ ?_ ?_; (first | exact sub_nil _ | exact sub_enc (.nil 6) | exact sub_enc (.refl _) | (rw [enc_ag]; exact .refl _))))))) 
        · rw [if_neg c4]; rw [Bool.not_eq_true] at c4; try dsimp only [Res.bnd]
          try dsimp only
          refine sim_body' Tryz.func124 rfl rfl rfl ?_
          repeat (any_goals (first | refine s_at ?_ | refine s_skip ?_ | refine s_move ?_ | refine s_pure ?_ | refine s_nil ?_ | refine aw_seq ?_ | refine aw_seqr ?_ | refine aw_false ?_ | refine s_alloc (fun _ => ?_) | refine s_store' ?_ | refine c_nd ?_ | refine c_mn ?_ | refine c_uy ?_ | refine c_un (fun env' => ?_) | (refine s_call (g2 ?_) (fun x τ' h => ?_) (fun c τ' h => by cases h.1); omega; obtain ⟨h1, rfl, _, _⟩ := h; cases h1) | refine s_lit (fun _ => ?_)))
          (repeat (first | refine then_pan ?_)); exact post_pan ⟨_, .pan _, rfl, _, _, rfl⟩ pks
  · rw [if_neg c1]; rw [Bool.not_eq_true] at c1; try dsimp only [Res.bnd]
    try dsimp only
    refine sim_body' Tryz.func124 rfl rfl rfl ?_
    repeat (any_goals (first | refine s_at ?_ | refine s_move ?_ | refine s_nil ?_ | refine aw_seq ?_ | refine aw_seqr ?_ | refine s_alloc (fun _ => ?_) | refine s_store' ?_ | refine c_nd ?_ | refine c_un (fun env' => ?_)))
    (repeat (first | refine then_pan ?_)); exact post_pan ⟨_, .pan _, rfl, _, _, rfl⟩ pks
/-- A call. -/
def pCall (b : Int) (pos : Nat) (ex : List (Nat × Nat)) : Res Nd :=
  (pName tx T pos ex).bnd fun a q0 e0 =>
  (pGates tx T q0 e0).bnd fun g q1 e1 =>
  if isT (tokAt T q1) ⟨#[40]⟩ = true then
  (pRows T (pExpr tx T) (q1 + 1) e1).bnd fun l q2 e2 =>
    if isT (tokAt T q2) ⟨#[41]⟩ = true then
    .ok (.mk 32 0 a.s [g, pList (emptyAt (here tx T (q1 + 1))) l] b (max b (behind T (q2 + 1)))) (q2 + 1) e2
  else .bad q2
else
  .ok (.mk 32 0 a.s [g, emptyAt (here tx T q1)] b (max b (behind T q1))) q1 e1
theorem pCall_wf (b : Int) (pos : Nat) (ex : List (Nat × Nat)) (hp : pos ≤ T.length) (hx : ex.length ≤ pos) : (pCall tx T b pos ex).wf T (pos + 1) := by
  rw [pCall]
  repeat (any_goals (first | with_reducible refine wf_isT (fun hlt => ?_) ?_ | with_reducible refine wf_ok (by omega) (by omega) (by first | omega | (simp only [List.length_append, List.length_cons, List.length_nil]; omega)) | with_reducible exact wf_bad _ | with_reducible refine wf_bnd (pName_wf tx T _ _ (by omega) (by omega)) (fun a q e hq1 hq2 hq3 => ?_) | with_reducible refine wf_bnd (pGates_wf tx T _ _ (by omega) (by omega)) (fun a q e hq1 hq2 hq3 => ?_) | with_reducible refine wf_bnd (pRows_wf (fun pos ex hp hx => pExpr_wf tx T pos ex hp hx) _ _ (by omega) (by omega)) (fun a q e hq1 hq2 hq3 => ?_)))
set_option maxRecDepth 20000 in set_option maxHeartbeats 4000000 in
theorem sim_call (hT : Fit T) (b : Int) (pos : Nat) (ex : List (Nat × Nat)) (hp : pos ≤ T.length) : SimP I p tx T k 109 [ptr p, .ag (nd 20 0 ⟨#[]⟩ (.sc (.slice none 0 0)) b 0)] enc (pCall tx T b) pos ex := by
  have hT' : T.length ≤ 1000000 := hT
  unfold SimP Rdr
  intro hxl
  rw [pCall]
  have g1 := sim_name I p tx T k hT pos ex (by omega)
  unfold SimP Rdr at g1
  have w1 := pName_wf tx T pos ex (by omega) (by omega)
  cases h1 : pName tx T pos ex with
  | bad q0 =>
    rw [h1] at g1
    dsimp only [Res.bnd] at g1 ⊢
    refine sim_body' Tryz.func109 rfl rfl rfl ?_
    repeat (any_goals (first | refine s_at ?_ | refine s_move ?_ | refine s_nil ?_ | refine aw_seq ?_ | refine aw_seqr ?_ | refine s_alloc (fun _ => ?_) | refine s_box (fun _ => ?_) | (refine s_call (g1 ?_) (fun x τ' h => by cases h.1) (fun c τ' h env' => ?_); omega; obtain ⟨h1, _, _, rfl⟩ := h; cases h1)))
    (repeat (first | refine then_pan ?_)); exact post_pan ⟨_, .pan _, rfl, _, _, rfl⟩ pks
  | ok a q0 e0 =>
    rw [h1] at g1 w1
    dsimp only [Res.bnd] at g1 ⊢
    obtain ⟨_, _, _⟩ := w1
    rw [enc_ag] at g1
    have g2 := sim_gates I p tx T k hT q0 e0 (by omega)
    unfold SimP Rdr at g2
    have w2 := pGates_wf tx T q0 e0 (by omega) (by omega)
    cases h2 : pGates tx T q0 e0 with
    | bad q1 =>
      rw [h2] at g2
      dsimp only [Res.bnd] at g2 ⊢
      refine sim_body' Tryz.func109 rfl rfl rfl ?_
      repeat (any_goals (first | refine s_at ?_ | refine s_move ?_ | refine s_pure ?_ | refine s_nil ?_ | refine aw_seq ?_ | refine aw_seqr ?_ | refine s_alloc (fun _ => ?_) | refine s_box (fun _ => ?_) | refine s_store' ?_ | (refine s_call (g1 ?_) (fun x τ' h => ?_) (fun c τ' h => by cases h.1); omega; obtain ⟨h1, rfl, _, _⟩ := h; cases h1) | (refine s_call (g2 ?_) (fun x τ' h => by cases h.1) (fun c τ' h env' => ?_); omega; obtain ⟨h1, _, _, rfl⟩ := h; cases h1)))
      (repeat (first | refine then_pan ?_)); exact post_pan ⟨_, .pan _, rfl, _, _, rfl⟩ pks
    | ok g q1 e1 =>
      rw [h2] at g2 w2
      dsimp only [Res.bnd] at g2 ⊢
      obtain ⟨_, _, _⟩ := w2
      rw [enc_ag] at g2
      by_cases c3 : isT (tokAt T q1) ⟨#[40]⟩ = true
      · rw [if_pos c3]; have hlt3 := isT_lt c3; try dsimp only [Res.bnd]
        have g4 := sim_rows I p tx T k hT 24 [ptr p] [] (pExpr tx T) (fun pos ex hp => sim_expr I p tx T k hT pos ex hp) (q1 + 1) e1 (by omega)
        unfold SimP Rdr at g4
        have w4 := pRows_wf (fun pos ex hp hx => pExpr_wf tx T pos ex hp hx) (q1 + 1) e1 (by omega) (by omega)
        cases h4 : pRows T (pExpr tx T) (q1 + 1) e1 with
        | bad q2 =>
          rw [h4] at g4
          dsimp only [Res.bnd] at g4 ⊢
          refine sim_body' Tryz.func109 rfl rfl rfl ?_
          repeat (any_goals (first | refine s_at ?_ | refine s_move ?_ | refine s_loadd ?_ | refine s_pure ?_ | refine s_nil ?_ | refine aw_seq ?_ | refine aw_seqr ?_ | refine aw_true ?_ | refine s_alloc (fun _ => ?_) | refine s_box (fun _ => ?_) | refine s_store' ?_ | refine c_em ?_ | refine c_my ?_ | (refine s_call (g1 ?_) (fun x τ' h => ?_) (fun c τ' h => by cases h.1); omega; obtain ⟨h1, rfl, _, _⟩ := h; cases h1) | (refine s_call (g2 ?_) (fun x τ' h => ?_) (fun c τ' h => by cases h.1); omega; obtain ⟨h1, rfl, _, _⟩ := h; cases h1) | (refine s_call (g4 ?_) (fun x τ' h => by cases h.1) (fun c τ' h env' => ?_); omega; obtain ⟨h1, _, _, rfl⟩ := h; cases h1) | refine s_drawn 7 [4, 6] ?_))
          (repeat (first | refine then_pan ?_)); exact post_pan ⟨_, .pan _, rfl, _, _, rfl⟩ pks
        | ok l q2 e2 =>
          rw [h4] at g4 w4
          dsimp only [Res.bnd] at g4 ⊢
          obtain ⟨_, _, _⟩ := w4
          have hl4 := pRows_len h4
          have g5 := sim_list0 I (here tx T (q1 + 1)) l (by omega)
          rw [enc_ag] at g5
          by_cases c6 : isT (tokAt T q2) ⟨#[41]⟩ = true
          · rw [if_pos c6]; have hlt6 := isT_lt c6; try dsimp only [Res.bnd]
            try dsimp only
            refine sim_body' Tryz.func109 rfl rfl rfl ?_
            repeat (any_goals (first | refine s_at ?_ | refine s_move ?_ | refine s_load ?_ | refine s_loadd ?_ | refine s_pure ?_ | refine s_nil ?_ | refine aw_seq ?_ | refine aw_seqr ?_ | refine aw_true ?_ | refine s_alloc (fun _ => ?_) | refine s_box (fun _ => ?_) | refine s_store' ?_ | refine c_em ?_ | refine c_dn ?_ | refine c_my ?_ | refine c_uy ?_ | (refine s_call (g1 ?_) (fun x τ' h => ?_) (fun c τ' h => by cases h.1); omega; obtain ⟨h1, rfl, _, _⟩ := h; cases h1) | (refine s_call (g2 ?_) (fun x τ' h => ?_) (fun c τ' h => by cases h.1); omega; obtain ⟨h1, rfl, _, _⟩ := h; cases h1) | (refine s_call (g4 ?_) (fun x τ' h => ?_) (fun c τ' h => by cases h.1); omega; obtain ⟨h1, rfl, _, _⟩ := h; cases h1) | refine s_call0 g5 ?_ | refine s_drawn 7 [4, 6] ?_ | refine s_litq ?_))
            refine aw_ret ?_; (repeat (first | refine then_ret ?_)); refine post_of ⟨_, .ret _ _ ?_, rfl, rfl, by omega, by omega⟩ rvs pks
            refine sub_enc ?_; (first | exact .nil 6 | exact .refl _ | (simp only [encs]; (first | refine .sl _ _ _ ?_ | refine .os _ _ _ _ ?_); (repeat (first | exact Subs.nil | (refine Subs.cons _ _ _ _ ?_ ?_; (first | exact sub_nil _ | exact sub_enc (.nil 6) | exact sub_enc (.refl _) | (rw [enc_ag]; exact .refl _))))))) 
          · rw [if_neg c6]; rw [Bool.not_eq_true] at c6; try dsimp only [Res.bnd]
            try dsimp only
            refine sim_body' Tryz.func109 rfl rfl rfl ?_
            repeat (any_goals (first | refine s_at ?_ | refine s_move ?_ | refine s_loadd ?_ | refine s_pure ?_ | refine s_nil ?_ | refine aw_seq ?_ | refine aw_seqr ?_ | refine aw_true ?_ | refine s_alloc (fun _ => ?_) | refine s_box (fun _ => ?_) | refine s_store' ?_ | refine c_em ?_ | refine c_my ?_ | refine c_un (fun env' => ?_) | (refine s_call (g1 ?_) (fun x τ' h => ?_) (fun c τ' h => by cases h.1); omega; obtain ⟨h1, rfl, _, _⟩ := h; cases h1) | (refine s_call (g2 ?_) (fun x τ' h => ?_) (fun c τ' h => by cases h.1); omega; obtain ⟨h1, rfl, _, _⟩ := h; cases h1) | (refine s_call (g4 ?_) (fun x τ' h => ?_) (fun c τ' h => by cases h.1); omega; obtain ⟨h1, rfl, _, _⟩ := h; cases h1) | refine s_call0 g5 ?_ | refine s_drawn 7 [4, 6] ?_))
            (repeat (first | refine then_pan ?_)); exact post_pan ⟨_, .pan _, rfl, _, _, rfl⟩ pks
      · rw [if_neg c3]; rw [Bool.not_eq_true] at c3; try dsimp only [Res.bnd]
        try dsimp only
        refine sim_body' Tryz.func109 rfl rfl rfl ?_
        repeat (any_goals (first | refine s_at ?_ | refine s_skip ?_ | refine s_move ?_ | refine s_load ?_ | refine s_pure ?_ | refine s_nil ?_ | refine aw_seq ?_ | refine aw_seqr ?_ | refine aw_false ?_ | refine s_alloc (fun _ => ?_) | refine s_box (fun _ => ?_) | refine s_store' ?_ | refine c_em ?_ | refine c_dn ?_ | refine c_mn ?_ | (refine s_call (g1 ?_) (fun x τ' h => ?_) (fun c τ' h => by cases h.1); omega; obtain ⟨h1, rfl, _, _⟩ := h; cases h1) | (refine s_call (g2 ?_) (fun x τ' h => ?_) (fun c τ' h => by cases h.1); omega; obtain ⟨h1, rfl, _, _⟩ := h; cases h1) | refine s_litq ?_))
        refine aw_ret ?_; (repeat (first | refine then_ret ?_)); refine post_of ⟨_, .ret _ _ ?_, rfl, rfl, by omega, by omega⟩ rvs pks
        refine sub_enc ?_; (first | exact .nil 6 | exact .refl _ | (simp only [encs]; (first | refine .sl _ _ _ ?_ | refine .os _ _ _ _ ?_); (repeat (first | exact Subs.nil | (refine Subs.cons _ _ _ _ ?_ ?_; (first | exact sub_nil _ | exact sub_enc (.nil 6) | exact sub_enc (.refl _) | (rw [enc_ag]; exact .refl _))))))) 

end
end Go.Proofs.YtjcocblohiglbaaGreatDoor
