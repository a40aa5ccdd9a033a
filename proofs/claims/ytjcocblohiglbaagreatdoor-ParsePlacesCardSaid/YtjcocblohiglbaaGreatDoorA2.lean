/- The reader of specifications: the tokens of an expression. Conditions: none. -/
import Derived.Test.YtjcocblohiglbaaGreatDoorA1
namespace Go.Proofs.YtjcocblohiglbaaGreatDoor
open Go.Dp
set_option linter.unusedVariables false
set_option linter.unusedSimpArgs false
section
variable (I : World → Prop) (p : Nat) (tx : ByteArray) (T : List Tk) (k : Nat)
/-- What a token does to the depth; none: it ends the expression. -/
def exprStep (t : Tk) (deep : Nat) : Option Nat :=
  if isT t ⟨#[40]⟩ = true then some (deep + 1)
  else if isT t ⟨#[41]⟩ = true ∧ 0 < deep then some (deep - 1)
  else if partT t = true ∨ t.kind = 3 ∨ isT t ⟨#[111, 102]⟩ = true ∨ (isT t ⟨#[44]⟩ = true ∧ 0 < deep) then some deep
  else none
def exprEnd : Nat → Nat → Nat → Nat
  | 0, _, pos => pos
  | n + 1, deep, pos => match exprStep (tokAt T pos) deep with
    | some d => exprEnd n d (pos + 1)
    | none => pos
def pExpr (pos : Nat) (ex : List (Nat × Nat)) : Res Nd :=
  if opensT (tokAt T pos) = true then
    .ok (.mk (-1) (ex.length : Int) ⟨#[]⟩ [] (here tx T pos) (max (here tx T pos : Int) (behind T (exprEnd T (T.length + 1) 0 pos)))) (exprEnd T (T.length + 1) 0 pos) (ex ++ [(pos, exprEnd T (T.length + 1) 0 pos)])
  else .bad pos
theorem isT_kind {t : Tk} {s : ByteArray} (h : isT t s = true) : (t.kind = 2 ∨ t.kind = 5) ∧ t.s = s := by
  simp only [isT, Bool.and_eq_true, Bool.or_eq_true, decide_eq_true_eq] at h
  exact h
theorem isT_ne {t : Tk} {s s' : ByteArray} (h : isT t s = true) (hne : s ≠ s') : isT t s' = false := by
  obtain ⟨h1, rfl⟩ := isT_kind h
  simp [isT, hne]
theorem isT_part {t : Tk} {s : ByteArray} (h : isT t s = true) : partT t = false := by
  obtain ⟨h1, -⟩ := isT_kind h
  rcases h1 with h1 | h1 <;> simp [partT, h1]
theorem exprStep_lt {pos deep d : Nat} (h : exprStep (tokAt T pos) deep = some d) : pos < T.length := by
  refine tokAt_lt (T := T) fun h0 => ?_
  simp [exprStep, isT, partT, h0] at h
theorem exprEnd_ge : ∀ (n deep pos : Nat), pos ≤ exprEnd T n deep pos
  | 0, _, pos => Nat.le_refl _
  | n + 1, deep, pos => by
    rw [exprEnd]
    split
    · exact Nat.le_trans (Nat.le_succ _) (exprEnd_ge n _ _)
    · exact Nat.le_refl _
theorem opens_step {t : Tk} (h : opensT t = true) (deep : Nat) : ∃ d, exprStep t deep = some d := by
  by_cases h1 : isT t ⟨#[40]⟩ = true
  · exact ⟨_, by rw [exprStep, if_pos h1]⟩
  · by_cases h2 : isT t ⟨#[41]⟩ = true ∧ 0 < deep
    · exact ⟨_, by rw [exprStep, if_neg h1, if_pos h2]⟩
    · refine ⟨deep, ?_⟩
      rw [exprStep, if_neg h1, if_neg h2, if_pos]
      simp only [opensT, Bool.or_eq_true, decide_eq_true_eq] at h
      rcases h with ((h | h) | h) | h
      · exact .inl h
      · exact .inr (.inl h)
      · exact .inr (.inr (.inl h))
      · exact absurd h h1
set_option maxRecDepth 20000 in set_option maxHeartbeats 4000000 in
theorem sim_expr (hT : Fit T) (pos : Nat) (ex : List (Nat × Nat)) (hp : pos ≤ T.length) : SimP I p tx T k 24 [ptr p] enc (pExpr tx T) pos ex := by
  have hT' : T.length ≤ 1000000 := hT
  have f0 := sim_opens I p tx T hT pos (.os k 2 (ex.map eext)) hp
  have hle : (ex.map eext).length = ex.length := List.length_map ..
  unfold SimP Rdr
  intro hxl
  rw [pExpr]
  cases c0 : opensT (tokAt T pos) with
  | false =>
    rw [c0] at f0
    rw [if_neg (by simp)]
    dsimp only
    refine sim_body' Tryz.func24 rfl rfl rfl ?_
    repeat (any_goals (first | refine s_at ?_ | refine s_move ?_ | refine s_pure ?_ | refine s_nil ?_ | refine aw_seq ?_ | refine aw_seqr ?_ | refine aw_true ?_ | refine s_alloc (fun _ => ?_) | refine c_wr (fun env' => ?_) | refine s_callr f0 ?_))
    (repeat (first | refine then_pan ?_)); exact post_pan ⟨_, .pan _, rfl, _, _, rfl⟩ pks
  | true =>
    rw [c0] at f0
    rw [if_pos rfl]
    dsimp only
    generalize hres : exprEnd T (T.length + 1) 0 pos = res
    refine sim_body' Tryz.func24 rfl rfl rfl ?_
    repeat (any_goals (first | refine s_at ?_ | refine s_skip ?_ | refine s_move ?_ | refine s_assign ?_ | refine s_load ?_ | refine s_pure ?_ | refine s_nil ?_ | refine aw_seq ?_ | refine aw_seqr ?_ | refine aw_block ?_ | refine aw_false ?_ | refine s_alloc (fun _ => ?_) | refine s_store' ?_ | refine c_nd ?_ | refine s_callr f0 ?_))
    rename_i b2 b3
    have hge : pos + 1 ≤ res := by
      obtain ⟨d, hd⟩ := opens_step c0 0
      rw [exprEnd, hd] at hres
      dsimp only at hres
      have := exprEnd_ge T T.length d (pos + 1)
      omega
    refine aw_loop (fun s : Nat × Nat × Nat => [(0, ptr p), (2, ptr b2), (3, ptr b3), (4, i64 (pos : Int)), (5, i64 (s.2.1 : Int))])
      (fun s => [.box b3 [i64 (-1), i64 ((ex.map eext).length : Int), str ⟨#[]⟩, .sc (.slice none 0 0), i64 (here tx T pos : Int), i64 0] 27, .box b2 ty27.zl 27, rd p tx T s.2.2 (.os k 2 (ex.map eext)), .tok k 89 2 (ex.map eext).length])
      (fun s => exprEnd T s.1 s.2.1 s.2.2 = res ∧ T.length < s.1 + s.2.2 ∧ s.2.2 ≤ T.length ∧ pos ≤ s.2.2 ∧ s.2.1 ≤ s.2.2) (fun s => T.length - s.2.2) (T.length + 1, 0, pos)
      ⟨hres, by dsimp only; omega, hp, Nat.le_refl _, Nat.zero_le _⟩ els [] (by exact List.Perm.refl _) ?_
    rintro ⟨n, deep, pos1⟩ ⟨i1, i2, i3, i4, i5⟩
    dsimp only at i1 i2 i3 i4 i5 ⊢
    obtain ⟨n, rfl⟩ : ∃ m, n = m + 1 := ⟨n - 1, by omega⟩
    rw [exprEnd] at i1
    generalize ht : tokAt T pos1 = t at i1
    have f1 := sim_isT I t ⟨#[40]⟩
    have f2 := sim_isT I t ⟨#[41]⟩
    have f3 := sim_isPart I t
    have f4 := sim_isT I t ⟨#[111, 102]⟩
    have f5 := sim_isT I t ⟨#[44]⟩
    cases cA : isT t ⟨#[40]⟩ with
    | true =>
      have hst : exprStep t deep = some (deep + 1) := by rw [exprStep, if_pos cA]
      have hlt := exprStep_lt T (ht ▸ hst)
      rw [hst] at i1
      dsimp only at i1
      rw [cA] at f1
      repeat (any_goals (first | refine s_at ?_ | refine s_move ?_ | refine s_assign ?_ | refine s_load ?_ | refine s_pure ?_ | refine s_nil ?_ | refine aw_seq ?_ | refine aw_seqr ?_ | refine aw_block ?_ | refine aw_true ?_ | refine s_alloc (fun _ => ?_) | refine s_store' ?_ | (refine s_callr (sim_next I p tx T _ _ hT ?_) ?_; omega; rw [ht]) | refine s_call0 f1 ?_ | refine s_add ?_))
      refine d_end fun env' he => inb_nor (then_nor ?_)
      refine ⟨(n, deep + 1, pos1 + 1), ?dr0, ⟨i1, ?_, ?_, ?_, ?_⟩, ?_, EnvLe.of_eq he ?_, ?perm0⟩
      case perm0 => exact Picks.perm pks
      · dsimp only; omega
      · dsimp only; omega
      · dsimp only; omega
      · dsimp only; omega
      · dsimp only; omega
      · exact els
    | false =>
      rw [cA] at f1
      cases cB : isT t ⟨#[41]⟩ with
      | true =>
        rw [cB] at f2
        by_cases dp : 0 < deep
        ·
          have hst : exprStep t deep = some (deep - 1) := by rw [exprStep, if_neg (by simp [cA]), if_pos ⟨cB, dp⟩]
          have hlt := exprStep_lt T (ht ▸ hst)
          rw [hst] at i1
          dsimp only at i1
          repeat (any_goals (first | refine s_at ?_ | refine s_move ?_ | refine s_assign ?_ | refine s_load ?_ | refine s_pick1 ?_ | refine s_pure ?_ | refine s_nil ?_ | refine aw_seq ?_ | refine aw_seqr ?_ | refine aw_block ?_ | refine aw_true ?_ | refine aw_false ?_ | refine s_alloc (fun _ => ?_) | refine s_store' ?_ | (refine s_callr (sim_next I p tx T _ _ hT ?_) ?_; omega; rw [ht]) | refine s_call0 f1 ?_ | refine s_call0 f2 ?_ | (refine s_cmp (fun h => ?_) (fun h => ?_) <;> try (exfalso; omega)) | refine s_add ?_ | refine s_sub ?_))
          refine d_end fun env' he => inb_nor (then_nor ?_)
          rw [show ((deep : Int) - 1) = ((deep - 1 : Nat) : Int) by omega] at he
          refine ⟨(n, deep - 1, pos1 + 1), ?dr1, ⟨i1, ?_, ?_, ?_, ?_⟩, ?_, EnvLe.of_eq he ?_, ?perm1⟩
          case perm1 => exact Picks.perm pks
          · dsimp only; omega
          · dsimp only; omega
          · dsimp only; omega
          · dsimp only; omega
          · dsimp only; omega
          · exact els
        · have cP := isT_part cB
          have cO : isT t ⟨#[111, 102]⟩ = false := isT_ne cB (by decide)
          have cC : isT t ⟨#[44]⟩ = false := isT_ne cB (by decide)
          have cN : ¬ t.kind = 3 := by have := (isT_kind cB).1; omega
          have hst : exprStep t deep = none := by rw [exprStep, if_neg (by simp [cA]), if_neg (by omega), if_neg (by simp [cP, cN, cO, cC])]
          rw [hst] at i1
          dsimp only at i1
          subst i1
          rw [show (ex ++ [(pos, pos1)]).map eext = ex.map eext ++ [.ag [i64 (pos : Int), i64 (pos1 : Int)]] by rw [List.map_append]; rfl]
          rw [cP] at f3
          rw [cO] at f4
          rw [cC] at f5
          repeat (any_goals (first | refine s_at ?_ | refine s_off ?_ | refine s_move ?_ | refine s_assign ?_ | refine s_load ?_ | refine s_loadd ?_ | refine s_pick1 ?_ | refine s_pick0 ?_ | refine s_pure ?_ | refine s_nil ?_ | refine aw_seq ?_ | refine aw_seqr ?_ | refine aw_block ?_ | refine aw_false ?_ | refine s_alloc (fun _ => ?_) | refine s_store' ?_ | (refine s_callr (sim_next I p tx T _ _ hT ?_) ?_; omega; rw [ht]) | refine c_dn ?_ | refine s_call0 f1 ?_ | refine s_call0 f2 ?_ | refine s_call0 f3 ?_ | refine s_call0 f4 ?_ | refine s_call0 f5 ?_ | (refine s_cmp (fun h => ?_) (fun h => ?_) <;> try (exfalso; omega)) | refine s_draw [12, 15] ?_ | refine s_litq ?_ | refine s_appendd ?_))
          refine aw_ret ?_; (repeat (first | refine then_ret ?_ | refine inb_ret ?_))
          refine post_of ⟨_, .ret _ _ ?_, rfl, rfl, by omega, by omega, ?_⟩ rvs pks
          · rw [hle]; exact sub_enc (.nil 6)
          · rw [List.length_append]; simp only [List.length_cons, List.length_nil]; omega
      | false =>
        rw [cB] at f2
        cases cP : partT t with
        | true =>
          have hst : exprStep t deep = some (deep) := by rw [exprStep, if_neg (by simp [cA]), if_neg (by simp [cB]), if_pos (by simp [cP])]
          have hlt := exprStep_lt T (ht ▸ hst)
          rw [hst] at i1
          dsimp only at i1
          rw [cP] at f3
          repeat (any_goals (first | refine s_at ?_ | refine s_skip ?_ | refine s_off ?_ | refine s_move ?_ | refine s_assign ?_ | refine s_load ?_ | refine s_pick0 ?_ | refine s_pure ?_ | refine s_nil ?_ | refine aw_seq ?_ | refine aw_seqr ?_ | refine aw_block ?_ | refine aw_true ?_ | refine aw_false ?_ | refine s_alloc (fun _ => ?_) | refine s_store' ?_ | (refine s_callr (sim_next I p tx T _ _ hT ?_) ?_; omega; rw [ht]) | refine s_call0 f1 ?_ | refine s_call0 f2 ?_ | refine s_call0 f3 ?_ | refine s_add ?_))
          refine d_end fun env' he => inb_nor (then_nor ?_)
          refine ⟨(n, deep, pos1 + 1), ?dr2, ⟨i1, ?_, ?_, ?_, ?_⟩, ?_, EnvLe.of_eq he ?_, ?perm2⟩
          case perm2 => exact Picks.perm pks
          · dsimp only; omega
          · dsimp only; omega
          · dsimp only; omega
          · dsimp only; omega
          · dsimp only; omega
          · exact els
        | false =>
          rw [cP] at f3
          by_cases cN : t.kind = 3
          ·
            have hst : exprStep t deep = some (deep) := by rw [exprStep, if_neg (by simp [cA]), if_neg (by simp [cB]), if_pos (by simp [cN])]
            have hlt := exprStep_lt T (ht ▸ hst)
            rw [hst] at i1
            dsimp only at i1
            repeat (any_goals (first | refine s_at ?_ | refine s_skip ?_ | refine s_off ?_ | refine s_move ?_ | refine s_assign ?_ | refine s_load ?_ | refine s_pick0 ?_ | refine s_pure ?_ | refine s_nil ?_ | refine aw_seq ?_ | refine aw_seqr ?_ | refine aw_block ?_ | refine aw_true ?_ | refine aw_false ?_ | refine s_alloc (fun _ => ?_) | refine s_store' ?_ | (refine s_callr (sim_next I p tx T _ _ hT ?_) ?_; omega; rw [ht]) | refine s_call0 f1 ?_ | refine s_call0 f2 ?_ | refine s_call0 f3 ?_ | (refine s_cmp (fun h => ?_) (fun h => ?_) <;> try (exfalso; omega)) | refine s_add ?_))
            refine d_end fun env' he => inb_nor (then_nor ?_)
            refine ⟨(n, deep, pos1 + 1), ?dr3, ⟨i1, ?_, ?_, ?_, ?_⟩, ?_, EnvLe.of_eq he ?_, ?perm3⟩
            case perm3 => exact Picks.perm pks
            · dsimp only; omega
            · dsimp only; omega
            · dsimp only; omega
            · dsimp only; omega
            · dsimp only; omega
            · exact els
          · cases cO : isT t ⟨#[111, 102]⟩ with
            | true =>
              have hst : exprStep t deep = some (deep) := by rw [exprStep, if_neg (by simp [cA]), if_neg (by simp [cB]), if_pos (by simp [cO])]
              have hlt := exprStep_lt T (ht ▸ hst)
              rw [hst] at i1
              dsimp only at i1
              rw [cO] at f4
              repeat (any_goals (first | refine s_at ?_ | refine s_skip ?_ | refine s_off ?_ | refine s_move ?_ | refine s_assign ?_ | refine s_load ?_ | refine s_pick0 ?_ | refine s_pure ?_ | refine s_nil ?_ | refine aw_seq ?_ | refine aw_seqr ?_ | refine aw_block ?_ | refine aw_true ?_ | refine aw_false ?_ | refine s_alloc (fun _ => ?_) | refine s_store' ?_ | (refine s_callr (sim_next I p tx T _ _ hT ?_) ?_; omega; rw [ht]) | refine s_call0 f1 ?_ | refine s_call0 f2 ?_ | refine s_call0 f3 ?_ | refine s_call0 f4 ?_ | (refine s_cmp (fun h => ?_) (fun h => ?_) <;> try (exfalso; omega)) | refine s_add ?_))
              refine d_end fun env' he => inb_nor (then_nor ?_)
              refine ⟨(n, deep, pos1 + 1), ?dr4, ⟨i1, ?_, ?_, ?_, ?_⟩, ?_, EnvLe.of_eq he ?_, ?perm4⟩
              case perm4 => exact Picks.perm pks
              · dsimp only; omega
              · dsimp only; omega
              · dsimp only; omega
              · dsimp only; omega
              · dsimp only; omega
              · exact els
            | false =>
              rw [cO] at f4
              cases cC : isT t ⟨#[44]⟩ with
              | true =>
                rw [cC] at f5
                by_cases dp : 0 < deep
                ·
                  have hst : exprStep t deep = some (deep) := by rw [exprStep, if_neg (by simp [cA]), if_neg (by simp [cB]), if_pos (by simp [cC, dp])]
                  have hlt := exprStep_lt T (ht ▸ hst)
                  rw [hst] at i1
                  dsimp only at i1
                  repeat (any_goals (first | refine s_at ?_ | refine s_skip ?_ | refine s_off ?_ | refine s_move ?_ | refine s_assign ?_ | refine s_load ?_ | refine s_pick1 ?_ | refine s_pick0 ?_ | refine s_pure ?_ | refine s_nil ?_ | refine aw_seq ?_ | refine aw_seqr ?_ | refine aw_block ?_ | refine aw_true ?_ | refine aw_false ?_ | refine s_alloc (fun _ => ?_) | refine s_store' ?_ | (refine s_callr (sim_next I p tx T _ _ hT ?_) ?_; omega; rw [ht]) | refine s_call0 f1 ?_ | refine s_call0 f2 ?_ | refine s_call0 f3 ?_ | refine s_call0 f4 ?_ | refine s_call0 f5 ?_ | (refine s_cmp (fun h => ?_) (fun h => ?_) <;> try (exfalso; omega)) | refine s_add ?_))
                  refine d_end fun env' he => inb_nor (then_nor ?_)
                  refine ⟨(n, deep, pos1 + 1), ?dr5, ⟨i1, ?_, ?_, ?_, ?_⟩, ?_, EnvLe.of_eq he ?_, ?perm5⟩
                  case perm5 => exact Picks.perm pks
                  · dsimp only; omega
                  · dsimp only; omega
                  · dsimp only; omega
                  · dsimp only; omega
                  · dsimp only; omega
                  · exact els
                ·
                  have hst : exprStep t deep = none := by rw [exprStep, if_neg (by simp [cA]), if_neg (by simp [cB]), if_neg (by simp [cP, cN, cO]; omega)]
                  rw [hst] at i1
                  dsimp only at i1
                  subst i1
                  rw [show (ex ++ [(pos, pos1)]).map eext = ex.map eext ++ [.ag [i64 (pos : Int), i64 (pos1 : Int)]] by rw [List.map_append]; rfl]
                  repeat (any_goals (first | refine s_at ?_ | refine s_off ?_ | refine s_move ?_ | refine s_assign ?_ | refine s_load ?_ | refine s_loadd ?_ | refine s_pick1 ?_ | refine s_pick0 ?_ | refine s_pure ?_ | refine s_nil ?_ | refine aw_seq ?_ | refine aw_seqr ?_ | refine aw_block ?_ | refine aw_false ?_ | refine s_alloc (fun _ => ?_) | refine s_store' ?_ | (refine s_callr (sim_next I p tx T _ _ hT ?_) ?_; omega; rw [ht]) | refine c_dn ?_ | refine s_call0 f1 ?_ | refine s_call0 f2 ?_ | refine s_call0 f3 ?_ | refine s_call0 f4 ?_ | refine s_call0 f5 ?_ | (refine s_cmp (fun h => ?_) (fun h => ?_) <;> try (exfalso; omega)) | refine s_draw [12, 15] ?_ | refine s_litq ?_ | refine s_appendd ?_))
                  refine aw_ret ?_; (repeat (first | refine then_ret ?_ | refine inb_ret ?_))
                  refine post_of ⟨_, .ret _ _ ?_, rfl, rfl, by omega, by omega, ?_⟩ rvs pks
                  · rw [hle]; exact sub_enc (.nil 6)
                  · rw [List.length_append]; simp only [List.length_cons, List.length_nil]; omega
              | false =>
                have hst : exprStep t deep = none := by rw [exprStep, if_neg (by simp [cA]), if_neg (by simp [cB]), if_neg (by simp [cP, cN, cO, cC])]
                rw [hst] at i1
                dsimp only at i1
                subst i1
                rw [show (ex ++ [(pos, pos1)]).map eext = ex.map eext ++ [.ag [i64 (pos : Int), i64 (pos1 : Int)]] by rw [List.map_append]; rfl]
                rw [cC] at f5
                repeat (any_goals (first | refine s_at ?_ | refine s_off ?_ | refine s_move ?_ | refine s_assign ?_ | refine s_load ?_ | refine s_loadd ?_ | refine s_pick0 ?_ | refine s_pure ?_ | refine s_nil ?_ | refine aw_seq ?_ | refine aw_seqr ?_ | refine aw_block ?_ | refine aw_false ?_ | refine s_alloc (fun _ => ?_) | refine s_store' ?_ | (refine s_callr (sim_next I p tx T _ _ hT ?_) ?_; omega; rw [ht]) | refine c_dn ?_ | refine s_call0 f1 ?_ | refine s_call0 f2 ?_ | refine s_call0 f3 ?_ | refine s_call0 f4 ?_ | refine s_call0 f5 ?_ | (refine s_cmp (fun h => ?_) (fun h => ?_) <;> try (exfalso; omega)) | refine s_draw [12, 15] ?_ | refine s_litq ?_ | refine s_appendd ?_))
                refine aw_ret ?_; (repeat (first | refine then_ret ?_ | refine inb_ret ?_))
                refine post_of ⟨_, .ret _ _ ?_, rfl, rfl, by omega, by omega, ?_⟩ rvs pks
                · rw [hle]; exact sub_enc (.nil 6)
                · rw [List.length_append]; simp only [List.length_cons, List.length_nil]; omega
end
end Go.Proofs.YtjcocblohiglbaaGreatDoor
