/- Trees: copies, what is filled in, sizes. Conditions: none. -/
import Derived.Test.YtjcocblohiglbaaGreatDoorA1
namespace Go.Proofs.YtjcocblohiglbaaGreatDoor
open Go.Dp
set_option linter.unusedVariables false
set_option linter.unusedSimpArgs false
mutual
/-- How many nodes. -/
def cnt : Nd → Nat
  | .mk _ _ _ l _ _ => 1 + cnts l
def cnts : List Nd → Nat
  | [] => 0
  | x :: l => cnt x + cnts l
end
mutual
/-- How deep. -/
def dep : Nd → Nat
  | .mk _ _ _ l _ _ => 1 + deps l
def deps : List Nd → Nat
  | [] => 0
  | x :: l => max (dep x) (deps l)
end
mutual
/-- Expressions in the places of their extents. -/
def fill (es : List Nd) : Nd → Nd
  | .mk k n s l b e => if k = -1 then es.getD n.toNat default else .mk k n s (fills es l) b e
def fills (es : List Nd) : List Nd → List Nd
  | [] => []
  | x :: l => fill es x :: fills es l
end
mutual
/-- What stands for an expression has one. -/
def Pend (m : Nat) : Nd → Prop
  | .mk k n _ l _ _ => (k = -1 → 0 ≤ n ∧ n < (m : Int)) ∧ Pends m l
def Pends (m : Nat) : List Nd → Prop
  | [] => True
  | x :: l => Pend m x ∧ Pends m l
end
theorem cnt_eq (x : Nd) : cnt x = 1 + cnts x.l := by cases x; rw [cnt]; rfl
theorem dep_eq (x : Nd) : dep x = 1 + deps x.l := by cases x; rw [dep]; rfl
theorem fill_eq (es : List Nd) (x : Nd) : fill es x = if x.kind = -1 then es.getD x.n.toNat default else .mk x.kind x.n x.s (fills es x.l) x.b x.e := by cases x; rw [fill]; rfl
theorem pend_eq (m : Nat) (x : Nd) : Pend m x ↔ (x.kind = -1 → 0 ≤ x.n ∧ x.n < (m : Int)) ∧ Pends m x.l := by cases x; rw [Pend]; exact Iff.rfl
theorem cnts_len : ∀ (l : List Nd), l.length ≤ cnts l
  | [] => Nat.le_refl _
  | x :: l => by
    have := cnts_len l
    have h := cnt_eq x
    rw [cnts, List.length_cons]
    omega
theorem cnt_mem {y : Nd} : ∀ {l : List Nd}, y ∈ l → cnt y ≤ cnts l
  | x :: l, h => by
    rw [cnts]
    rcases List.mem_cons.1 h with h | h
    · subst h; omega
    · have := cnt_mem h; omega
theorem pend_mem {m : Nat} {y : Nd} : ∀ {l : List Nd}, Pends m l → y ∈ l → Pend m y
  | x :: l, hp, h => by
    rw [Pends] at hp
    rcases List.mem_cons.1 h with h | h
    · subst h; exact hp.1
    · exact pend_mem hp.2 h
theorem fills_map (es : List Nd) : ∀ (l : List Nd), fills es l = l.map (fill es)
  | [] => rfl
  | x :: l => by rw [fills, List.map_cons, fills_map es l]
theorem cnts_append : ∀ (l m : List Nd), cnts (l ++ m) = cnts l + cnts m
  | [], m => by simp [cnts]
  | x :: l, m => by rw [List.cons_append, cnts, cnts, cnts_append l m]; omega
theorem deps_append : ∀ (l m : List Nd), deps (l ++ m) = max (deps l) (deps m)
  | [], m => by simp [deps]
  | x :: l, m => by rw [List.cons_append, deps, deps, deps_append l m]; omega
theorem dep_cnt_s : ∀ (l : List Nd), (∀ x, x ∈ l → dep x ≤ cnt x) → deps l ≤ cnts l
  | [], _ => Nat.le_refl _
  | x :: l, h => by
    have h1 := h x (List.mem_cons_self ..)
    have h2 := dep_cnt_s l fun y hy => h y (List.mem_cons_of_mem _ hy)
    rw [deps, cnts]; omega
theorem dep_cnt : ∀ (m : Nat) (x : Nd), cnt x ≤ m → dep x ≤ cnt x
  | 0, x, h => by have := cnt_eq x; omega
  | m + 1, x, h => by
    have h1 := cnt_eq x
    have h2 := dep_cnt_s x.l fun y hy => dep_cnt m y (by have := cnt_mem hy; omega)
    rw [dep_eq, h1]; omega
theorem take_succ {l : List Nd} {i : Nat} {y : Nd} (h : l[i]? = some y) : l.take (i + 1) = l.take i ++ [y] := by rw [List.take_add_one, h]; rfl
theorem encs_snoc (l : List Nd) (y : Nd) : encs l ++ [AV.ag [i64 y.kind, i64 y.n, str y.s, AV.sl 6 (encs y.l), i64 y.b, i64 y.e]] = encs (l ++ [y]) := by rw [encs_append, encs, encs, enc_ag]
section
variable (I : World → Prop)
set_option maxRecDepth 20000 in set_option maxHeartbeats 4000000 in
theorem sim_copied : ∀ (m : Nat) (x : Nd), cnt x ≤ m → cnt x ≤ 1000000000000 → Sim Tryz.prog I 76 [enc x] [] (fun o τ => o = .ret (enc x) ∧ τ = []) := by
  intro m
  induction m with
  | zero => intro x h _; have := cnt_eq x; omega
  | succ m ih =>
    intro x hm hx
    have h1 := cnt_eq x
    have h2 := cnts_len x.l
    have hle := encs_length x.l
    rw [enc_ag x]
    refine sim_body' Tryz.func76 rfl rfl rfl ?_
    repeat (any_goals (first | refine s_at ?_ | refine s_move ?_ | refine s_assign ?_ | refine s_load ?_ | refine s_pure ?_ | refine s_nil ?_ | refine aw_seq ?_ | refine aw_seqr ?_ | refine aw_block ?_ | refine s_alloc (fun _ => ?_) | refine s_box (fun _ => ?_)))
    refine aw_slottok 3 27 6 (fun k => ?_)
    rename_i b1 b2
    refine aw_loop (fun i : Nat => [(1, ptr b1), (2, ptr b2), (3, .os k 6 (encs (x.l.take i))), (7, .sl 6 (encs x.l)), (8, i64 ((encs x.l).length : Int)), (9, i64 (i : Int))])
      (fun i => [.tok k 27 6 (encs (x.l.take i)).length, .box b1 [i64 x.kind, i64 x.n, str x.s, .sl 6 (encs x.l), i64 x.b, i64 x.e] 27, .box b2 ty27.zl 27])
      (fun i => i ≤ x.l.length) (fun i => x.l.length - i) 0 (Nat.zero_le _) els _ (Picks.perm pks) ?_
    intro i i1
    try dsimp only at i1 ⊢
    have hlt := encs_length (x.l.take i)
    rw [List.length_take] at hlt
    by_cases hi : i < x.l.length
    · obtain ⟨y, hy⟩ : ∃ y, x.l[i]? = some y := ⟨x.l[i], List.getElem?_eq_getElem hi⟩
      have hc := cnt_mem (List.mem_of_getElem? hy)
      have g1 := ih y (by omega) (by omega)
      have g2 := encs_get hy
      rw [enc_ag y] at g1 g2
      repeat (any_goals (first | refine s_at ?_ | refine s_skip ?_ | refine s_move ?_ | refine s_assign ?_ | refine s_load ?_ | refine s_loade ?_ | refine s_nil ?_ | refine aw_seq ?_ | refine aw_seqr ?_ | refine aw_block ?_ | refine aw_true ?_ | refine s_alloc (fun _ => ?_) | refine s_store' ?_ | (refine s_cmp (fun h => ?_) (fun h => ?_) <;> try (exfalso; omega)) | refine s_elem i g2 ?_ | refine s_call0 g1 ?_ | refine s_litq ?_ | refine s_append ?_ | refine s_add ?_))
      rw [encs_snoc, ← take_succ hy]
      refine d_end fun env' he => then_nor (rnd_end (i + 1) pks (by omega) (by omega) (EnvLe.of_eq he els))
    · have hi' : i = x.l.length := by omega
      subst hi'
      rw [List.take_length] at hlt ⊢
      repeat (any_goals (first | refine s_at ?_ | refine s_nil ?_ | refine aw_seq ?_ | refine aw_seqr ?_ | refine aw_false ?_ | (refine s_cmp (fun h => ?_) (fun h => ?_) <;> try (exfalso; omega))))
      refine aw_exit ?_; (repeat refine then_exit ?_); refine inb_exit ?_; refine then_nor ?_
      repeat (any_goals (first | refine s_at ?_ | refine s_move ?_ | refine s_load ?_ | refine s_pure ?_ | refine s_nil ?_ | refine aw_seq ?_ | refine aw_seqr ?_ | refine s_store' ?_))
      refine aw_ret ?_; (repeat (first | refine then_ret ?_))
      refine post_of ⟨_, .ret _ _ ?_, rfl, rfl⟩ rvs pks
      rw [← enc_ag]
      exact sub_encx (.os _ _ _ _ (Subs.refl _))
set_option maxRecDepth 20000 in set_option maxHeartbeats 4000000 in
theorem sim_filled (es : List Nd) (hes : es.length ≤ 1000000) (hec : ∀ y, y ∈ es → cnt y ≤ 1000000000000) : ∀ (m : Nat) (x : Nd), cnt x ≤ m → cnt x ≤ 1000000000000 → Pend es.length x → Sim Tryz.prog I 59 [enc x, .sl 6 (encs es)] [] (fun o τ => o = .ret (enc (fill es x)) ∧ τ = []) := by
  intro m
  induction m with
  | zero => intro x h _; have := cnt_eq x; omega
  | succ m ih =>
    intro x hm hx hp
    have h1 := cnt_eq x
    have h2 := cnts_len x.l
    have hle := encs_length x.l
    rw [pend_eq] at hp
    rw [fill_eq, enc_ag x]
    by_cases hk : x.kind = -1
    · rw [if_pos hk]
      obtain ⟨h3, h4⟩ := hp.1 hk
      have hy : es[x.n.toNat]? = some es[x.n.toNat] := List.getElem?_eq_getElem (by omega)
      have g1 := sim_copied I _ es[x.n.toNat] (Nat.le_refl _) (hec _ (List.mem_of_getElem? hy))
      have g2 := encs_get hy
      rw [List.getD_eq_getElem?_getD, hy, Option.getD_some]
      generalize es[x.n.toNat] = y at g1 g2
      rw [enc_ag y] at g1 g2
      rw [enc_ag y]
      refine sim_body' Tryz.func59 rfl rfl rfl ?_
      repeat (any_goals (first | refine s_at ?_ | refine s_move ?_ | refine s_load ?_ | refine s_loade ?_ | refine s_pure ?_ | refine s_nil ?_ | refine aw_seq ?_ | refine aw_seqr ?_ | refine aw_true ?_ | refine s_alloc (fun _ => ?_) | refine s_box (fun _ => ?_) | refine s_store' ?_ | (refine s_cmp (fun h => ?_) (fun h => ?_) <;> try (exfalso; omega)) | refine s_elem x.n.toNat g2 ?_ | refine s_call0 g1 ?_))
      refine aw_ret ?_; (repeat (first | refine then_ret ?_))
      exact post_of ⟨_, .ret _ _ (.refl _), rfl, rfl⟩ rvs pks
    · rw [if_neg hk]
      refine sim_body' Tryz.func59 rfl rfl rfl ?_
      repeat (any_goals (first | refine s_at ?_ | refine s_skip ?_ | refine s_move ?_ | refine s_assign ?_ | refine s_load ?_ | refine s_pure ?_ | refine s_nil ?_ | refine aw_seq ?_ | refine aw_seqr ?_ | refine aw_block ?_ | refine aw_false ?_ | refine s_alloc (fun _ => ?_) | refine s_box (fun _ => ?_) | (refine s_cmp (fun h => ?_) (fun h => ?_) <;> try (exfalso; omega))))
      refine aw_slottok 5 27 6 (fun k => ?_)
      rename_i b2 b4
      refine aw_loop (fun i : Nat => [(1, .sl 6 (encs es)), (2, ptr b2), (4, ptr b4), (5, .os k 6 (encs ((x.l.take i).map (fill es)))), (18, .sl 6 (encs x.l)), (19, i64 ((encs x.l).length : Int)), (20, i64 (i : Int))])
        (fun i => [.tok k 27 6 (encs ((x.l.take i).map (fill es))).length, .box b2 [i64 x.kind, i64 x.n, str x.s, .sl 6 (encs x.l), i64 x.b, i64 x.e] 27, .box b4 ty27.zl 27])
        (fun i => i ≤ x.l.length) (fun i => x.l.length - i) 0 (Nat.zero_le _) els _ (Picks.perm pks) ?_
      intro i i1
      try dsimp only at i1 ⊢
      have hlt := encs_length ((x.l.take i).map (fill es))
      rw [List.length_map, List.length_take] at hlt
      by_cases hi : i < x.l.length
      · obtain ⟨y, hy⟩ : ∃ y, x.l[i]? = some y := ⟨x.l[i], List.getElem?_eq_getElem hi⟩
        have hc := cnt_mem (List.mem_of_getElem? hy)
        have g1 := ih y (by omega) (by omega) (pend_mem hp.2 (List.mem_of_getElem? hy))
        have g2 := encs_get hy
        rw [enc_ag y] at g1 g2
        rw [enc_ag (fill es y)] at g1
        repeat (any_goals (first | refine s_at ?_ | refine s_skip ?_ | refine s_move ?_ | refine s_assign ?_ | refine s_load ?_ | refine s_loade ?_ | refine s_nil ?_ | refine aw_seq ?_ | refine aw_seqr ?_ | refine aw_block ?_ | refine aw_true ?_ | refine s_alloc (fun _ => ?_) | refine s_store' ?_ | (refine s_cmp (fun h => ?_) (fun h => ?_) <;> try (exfalso; omega)) | refine s_elem i g2 ?_ | refine s_call0 g1 ?_ | refine s_litq ?_ | refine s_append ?_ | refine s_add ?_))
        rw [encs_snoc, show (x.l.take i).map (fill es) ++ [fill es y] = (x.l.take (i + 1)).map (fill es) by rw [take_succ hy, List.map_append]; rfl]
        refine d_end fun env' he => then_nor (rnd_end (i + 1) pks (by omega) (by omega) (EnvLe.of_eq he els))
      · have hi' : i = x.l.length := by omega
        subst hi'
        rw [List.take_length] at hlt ⊢
        repeat (any_goals (first | refine s_at ?_ | refine s_nil ?_ | refine aw_seq ?_ | refine aw_seqr ?_ | refine aw_false ?_ | (refine s_cmp (fun h => ?_) (fun h => ?_) <;> try (exfalso; omega))))
        refine aw_exit ?_; (repeat refine then_exit ?_); refine inb_exit ?_; refine then_nor ?_
        repeat (any_goals (first | refine s_at ?_ | refine s_move ?_ | refine s_load ?_ | refine s_pure ?_ | refine s_nil ?_ | refine aw_seq ?_ | refine aw_seqr ?_ | refine s_store' ?_))
        refine aw_ret ?_; (repeat (first | refine then_ret ?_))
        refine post_of ⟨_, .ret _ _ ?_, rfl, rfl⟩ rvs pks
        rw [fills_map]
        exact sub_enc (.os _ _ _ _ (Subs.refl _))
set_option maxRecDepth 20000 in set_option maxHeartbeats 4000000 in
theorem sim_Size : ∀ (m : Nat) (x : Nd), cnt x ≤ m → cnt x ≤ 1000000000000 → Sim Tryz.prog I 13 [enc x] [] (fun o τ => o = .ret (.tu [i64 (cnt x : Int), i64 (dep x : Int)]) ∧ τ = []) := by
  intro m
  induction m with
  | zero => intro x h _; have := cnt_eq x; omega
  | succ m ih =>
    intro x hm hx
    have h1 := cnt_eq x
    have h2 := cnts_len x.l
    have hle := encs_length x.l
    have h3 := dep_eq x
    have h4 := dep_cnt _ x (Nat.le_refl _)
    rw [enc_ag x]
    refine sim_body Tryz.func13 rfl rfl rfl ?_
    repeat (any_goals (first | refine s_at ?_ | refine s_move ?_ | refine s_assign ?_ | refine s_load ?_ | refine s_pure ?_ | refine s_nil ?_ | refine aw_seq ?_ | refine aw_seqr ?_ | refine aw_block ?_ | refine s_box (fun _ => ?_)))
    rename_i b1
    refine aw_loop (fun i : Nat => [(1, ptr b1), (4, i64 ((1 + cnts (x.l.take i) : Nat) : Int)), (5, i64 (deps (x.l.take i) : Int)), (11, .sl 6 (encs x.l)), (12, i64 ((encs x.l).length : Int)), (13, i64 (i : Int))])
      (fun i => [.box b1 [i64 x.kind, i64 x.n, str x.s, .sl 6 (encs x.l), i64 x.b, i64 x.e] 27])
      (fun i => i ≤ x.l.length) (fun i => x.l.length - i) 0 (Nat.zero_le _) els _ (Picks.perm pks) ?_
    intro i i1
    try dsimp only at i1 ⊢
    by_cases hi : i < x.l.length
    · obtain ⟨y, hy⟩ : ∃ y, x.l[i]? = some y := ⟨x.l[i], List.getElem?_eq_getElem hi⟩
      have hc := cnt_mem (List.mem_of_getElem? hy)
      have g1 := ih y (by omega) (by omega)
      have g2 := encs_get hy
      have h5 : cnts (x.l.take (i + 1)) = cnts (x.l.take i) + cnt y := by rw [take_succ hy, cnts_append, cnts, cnts]; omega
      have h6 : deps (x.l.take (i + 1)) = max (deps (x.l.take i)) (dep y) := by rw [take_succ hy, deps_append, deps, deps]; omega
      have h7 : cnts x.l = cnts (x.l.take i) + cnts (x.l.drop i) := by rw [← cnts_append, List.take_append_drop]
      have h8 : cnt y ≤ cnts (x.l.drop i) := cnt_mem (List.mem_of_getElem? (i := 0) (by rw [List.getElem?_drop, Nat.add_zero]; exact hy))
      rw [enc_ag y] at g1 g2
      repeat (any_goals (first | refine s_at ?_ | refine s_skip ?_ | refine s_move ?_ | refine s_assign ?_ | refine s_load ?_ | refine s_loade ?_ | refine s_pure ?_ | refine s_nil ?_ | refine aw_seq ?_ | refine aw_seqr ?_ | refine aw_block ?_ | refine aw_true ?_ | refine s_alloc (fun _ => ?_) | refine s_store' ?_ | (refine s_cmp (fun h => ?_) (fun h => ?_) <;> try (exfalso; omega)) | refine s_elem i g2 ?_ | refine s_call0 g1 ?_ | refine s_add ?_))
      rw [show (((1 + cnts (x.l.take i) : Nat) : Int) + (cnt y : Int)) = ((1 + cnts (x.l.take (i + 1)) : Nat) : Int) by rw [h5]; omega, show (if (dep y : Int) > (deps (x.l.take i) : Int) then (dep y : Int) else (deps (x.l.take i) : Int)) = (deps (x.l.take (i + 1)) : Int) by rw [h6]; split <;> omega]
      refine d_end fun env' he => then_nor (rnd_end (i + 1) pks (by omega) (by omega) (EnvLe.of_eq he els))
    · have hi' : i = x.l.length := by omega
      subst hi'
      rw [List.take_length]
      repeat (any_goals (first | refine s_at ?_ | refine s_nil ?_ | refine aw_seq ?_ | refine aw_seqr ?_ | refine aw_false ?_ | (refine s_cmp (fun h => ?_) (fun h => ?_) <;> try (exfalso; omega))))
      refine aw_exit ?_; (repeat refine then_exit ?_); refine inb_exit ?_; refine then_nor ?_
      repeat (any_goals (first | refine s_at ?_ | refine s_move ?_ | refine s_assign ?_ | refine s_nil ?_ | refine aw_seq ?_ | refine aw_seqr ?_ | refine s_add ?_))
      refine aw_ret ?_; (repeat (first | refine then_ret ?_))
      refine post_of ⟨?_, rfl⟩ rvs pks
      rw [h1, h3, show ((1 + deps x.l : Nat) : Int) = (deps x.l : Int) + 1 by omega]
      rfl
end
end Go.Proofs.YtjcocblohiglbaaGreatDoor
/- Trees: equal but for places. Conditions: none. -/
namespace Go.Proofs.YtjcocblohiglbaaGreatDoor
open Go.Dp
set_option linter.unusedVariables false
set_option linter.unusedSimpArgs false
mutual
/-- Equal, but for places. -/
def same : Nd → Nd → Bool
  | .mk k n s l _ _, .mk k' n' s' l' _ _ => decide (k = k') && decide (n = n') && decide (s = s') && sames l l'
def sames : List Nd → List Nd → Bool
  | [], [] => true
  | x :: l, y :: m => same x y && sames l m
  | [], _ :: _ => false
  | _ :: _, [] => false
end
theorem same_eq (x y : Nd) : same x y = (decide (x.kind = y.kind) && decide (x.n = y.n) && decide (x.s = y.s) && sames x.l y.l) := by cases x; cases y; rw [same]; rfl
theorem sames_len : ∀ {l m : List Nd}, sames l m = true → l.length = m.length
  | [], [], _ => rfl
  | x :: l, y :: m, h => by
    rw [sames, Bool.and_eq_true] at h
    rw [List.length_cons, List.length_cons, sames_len h.2]
  | [], _ :: _, h => by rw [sames] at h; cases h
  | _ :: _, [], h => by rw [sames] at h; cases h
theorem sames_drop {l m : List Nd} {i : Nat} {x y : Nd} (hx : l[i]? = some x) (hy : m[i]? = some y) : sames (l.drop i) (m.drop i) = (same x y && sames (l.drop (i + 1)) (m.drop (i + 1))) := by
  obtain ⟨h1, e1⟩ := List.getElem?_eq_some_iff.1 hx
  obtain ⟨h2, e2⟩ := List.getElem?_eq_some_iff.1 hy
  rw [List.drop_eq_getElem_cons h1, List.drop_eq_getElem_cons h2, e1, e2, sames]
section
variable (I : World → Prop)
set_option maxRecDepth 20000 in set_option maxHeartbeats 4000000 in
theorem sim_eqf (f : FuncId) (l m : List Nd) (hl : l.length ≤ 1000000000000) (hm : m.length ≤ 1000000000000) (hf : ∀ x y, x ∈ l → y ∈ m → Sim Tryz.prog I f [enc x, enc y] [] (fun o τ => o = .ret (boo (same x y)) ∧ τ = [])) :
    Sim Tryz.prog I 25 [.sl 6 (encs l), .sl 6 (encs m), .fn (.func f) [] []] [] (fun o τ => o = .ret (boo (sames l m)) ∧ τ = []) := by
  have hle := encs_length l
  have hme := encs_length m
  by_cases hlen : l.length = m.length
  · refine sim_body Tryz.func25 rfl rfl rfl ?_
    repeat (any_goals (first | refine s_at ?_ | refine s_skip ?_ | refine s_move ?_ | refine s_assign ?_ | refine s_pure ?_ | refine s_nil ?_ | refine aw_seq ?_ | refine aw_seqr ?_ | refine aw_block ?_ | refine aw_false ?_ | (refine s_cmp (fun h => ?_) (fun h => ?_) <;> try (exfalso; omega))))
    refine aw_loop (fun i : Nat => [(1, .sl 6 (encs m)), (2, .fn (.func f) [] []), (15, .sl 6 (encs l)), (16, i64 ((encs l).length : Int)), (17, i64 (i : Int))]) (fun i => [])
      (fun i => i ≤ l.length ∧ sames (l.drop i) (m.drop i) = sames l m) (fun i => l.length - i) 0 ⟨Nat.zero_le _, by rw [List.drop_zero, List.drop_zero]⟩ els [] (by exact List.Perm.refl _) ?_
    rintro i ⟨i1, i2⟩
    try dsimp only at i1 i2 ⊢
    by_cases hi : i < l.length
    · obtain ⟨x, hx⟩ : ∃ x, l[i]? = some x := ⟨l[i], List.getElem?_eq_getElem hi⟩
      obtain ⟨y, hy⟩ : ∃ y, m[i]? = some y := ⟨m[i], List.getElem?_eq_getElem (by omega)⟩
      have g1 := hf x y (List.mem_of_getElem? hx) (List.mem_of_getElem? hy)
      have g2 := encs_get hx
      have g3 := encs_get hy
      rw [sames_drop hx hy] at i2
      rw [enc_ag x] at g1 g2
      rw [enc_ag y] at g1 g3
      cases hs : same x y with
      | true =>
        rw [hs] at g1 i2
        rw [Bool.true_and] at i2
        repeat (any_goals (first | refine s_at ?_ | refine s_skip ?_ | refine s_move ?_ | refine s_assign ?_ | refine s_load ?_ | refine s_loade ?_ | refine s_pure ?_ | refine s_nil ?_ | refine aw_seq ?_ | refine aw_seqr ?_ | refine aw_block ?_ | refine aw_true ?_ | refine aw_false ?_ | refine s_alloc (fun _ => ?_) | refine s_store' ?_ | (refine s_cmp (fun h => ?_) (fun h => ?_) <;> try (exfalso; omega)) | refine s_elem i g2 ?_ | refine s_elem i g3 ?_ | (refine s_callv g1 (fun x τ' h => ?_) (fun c τ' h => by cases h.1); obtain ⟨h1, rfl⟩ := h; cases h1) | refine s_add ?_))
        refine d_end fun env' he => then_nor (rnd_end (i + 1) pks ⟨by omega, i2⟩ (by omega) (EnvLe.of_eq he els))
      | false =>
        rw [hs] at g1 i2
        rw [Bool.false_and] at i2
        repeat (any_goals (first | refine s_at ?_ | refine s_skip ?_ | refine s_move ?_ | refine s_assign ?_ | refine s_load ?_ | refine s_loade ?_ | refine s_pure ?_ | refine s_nil ?_ | refine aw_seq ?_ | refine aw_seqr ?_ | refine aw_block ?_ | refine aw_true ?_ | refine s_alloc (fun _ => ?_) | refine s_store' ?_ | (refine s_cmp (fun h => ?_) (fun h => ?_) <;> try (exfalso; omega)) | refine s_elem i g2 ?_ | refine s_elem i g3 ?_ | (refine s_callv g1 (fun x τ' h => ?_) (fun c τ' h => by cases h.1); obtain ⟨h1, rfl⟩ := h; cases h1)))
        refine aw_ret ?_; (repeat (first | refine then_ret ?_ | refine inb_ret ?_))
        refine post_of ⟨?_, rfl⟩ rvs pks
        rw [← i2]; rfl
    · rw [List.drop_of_length_le (by omega), List.drop_of_length_le (by omega), sames] at i2
      repeat (any_goals (first | refine s_at ?_ | refine s_nil ?_ | refine aw_seq ?_ | refine aw_seqr ?_ | refine aw_false ?_ | (refine s_cmp (fun h => ?_) (fun h => ?_) <;> try (exfalso; omega))))
      refine aw_exit ?_; (repeat refine then_exit ?_); refine inb_exit ?_; refine then_nor ?_
      repeat (any_goals (first | refine s_at ?_ | refine s_assign ?_ | refine s_nil ?_ | refine aw_seq ?_ | refine aw_seqr ?_))
      refine aw_ret ?_; (repeat (first | refine then_ret ?_))
      refine post_of ⟨?_, rfl⟩ rvs pks
      rw [← i2]; rfl
  · have hs : sames l m = false := by
      cases h : sames l m with
      | false => rfl
      | true => exact absurd (sames_len h) hlen
    rw [hs]
    refine sim_body Tryz.func25 rfl rfl rfl ?_
    repeat (any_goals (first | refine s_at ?_ | refine s_move ?_ | refine s_assign ?_ | refine s_pure ?_ | refine s_nil ?_ | refine aw_seq ?_ | refine aw_seqr ?_ | refine aw_true ?_ | (refine s_cmp (fun h => ?_) (fun h => ?_) <;> try (exfalso; omega))))
    refine aw_ret ?_; (repeat (first | refine then_ret ?_))
    exact post_of ⟨rfl, rfl⟩ rvs pks
set_option maxRecDepth 20000 in set_option maxHeartbeats 4000000 in
theorem sim_same : ∀ (m : Nat) (x y : Nd), cnt x ≤ m → cnt x ≤ 1000000000000 → cnt y ≤ 1000000000000 → Sim Tryz.prog I 12 [enc x, enc y] [] (fun o τ => o = .ret (boo (same x y)) ∧ τ = []) := by
  intro m
  induction m with
  | zero => intro x y h _ _; have := cnt_eq x; omega
  | succ m ih =>
    intro x y hm hx hy
    have h1 := cnt_eq x
    have h2 := cnts_len x.l
    have h3 := cnt_eq y
    have h4 := cnts_len y.l
    have g1 := sim_eqf I 12 x.l y.l (by omega) (by omega) (fun a b ha hb => ih a b (by have := cnt_mem ha; omega) (by have := cnt_mem ha; omega) (by have := cnt_mem hb; omega))
    rw [same_eq, enc_ag x, enc_ag y]
    by_cases c1 : x.kind = y.kind
    · by_cases c2 : x.n = y.n
      · by_cases c3 : x.s = y.s
        · refine sim_body Tryz.func12 rfl rfl rfl ?_
          repeat (any_goals (first | refine s_at ?_ | refine s_move ?_ | refine s_assign ?_ | refine s_load ?_ | refine s_pick1 ?_ | refine s_pure ?_ | refine s_nil ?_ | refine aw_seq ?_ | refine aw_seqr ?_ | refine s_box (fun _ => ?_) | (refine s_cmp (fun h => ?_) (fun h => ?_) <;> try (exfalso; omega)) | (refine s_cmps (fun h => ?_) (fun h => ?_) <;> try (exfalso; exact h c3)) | refine s_call0 g1 ?_))
          refine aw_ret ?_; (repeat (first | refine then_ret ?_))
          refine post_of ⟨?_, rfl⟩ rvs pks
          simp [oneOf, c1, c2, c3]
        · refine sim_body Tryz.func12 rfl rfl rfl ?_
          repeat (any_goals (first | refine s_at ?_ | refine s_off ?_ | refine s_move ?_ | refine s_assign ?_ | refine s_load ?_ | refine s_pick1 ?_ | refine s_pick0 ?_ | refine s_pure ?_ | refine s_nil ?_ | refine aw_seq ?_ | refine aw_seqr ?_ | refine s_box (fun _ => ?_) | (refine s_cmp (fun h => ?_) (fun h => ?_) <;> try (exfalso; omega)) | (refine s_cmps (fun h => ?_) (fun h => ?_) <;> try (exfalso; exact c3 h))))
          refine aw_ret ?_; (repeat (first | refine then_ret ?_))
          refine post_of ⟨?_, rfl⟩ rvs pks
          simp [oneOf, c3]
      · refine sim_body Tryz.func12 rfl rfl rfl ?_
        repeat (any_goals (first | refine s_at ?_ | refine s_off ?_ | refine s_move ?_ | refine s_assign ?_ | refine s_load ?_ | refine s_pick1 ?_ | refine s_pick0 ?_ | refine s_pure ?_ | refine s_nil ?_ | refine aw_seq ?_ | refine aw_seqr ?_ | refine s_box (fun _ => ?_) | (refine s_cmp (fun h => ?_) (fun h => ?_) <;> try (exfalso; omega))))
        refine aw_ret ?_; (repeat (first | refine then_ret ?_))
        refine post_of ⟨?_, rfl⟩ rvs pks
        simp [oneOf, c2]
    · refine sim_body Tryz.func12 rfl rfl rfl ?_
      repeat (any_goals (first | refine s_at ?_ | refine s_off ?_ | refine s_move ?_ | refine s_assign ?_ | refine s_load ?_ | refine s_pick0 ?_ | refine s_pure ?_ | refine s_nil ?_ | refine aw_seq ?_ | refine aw_seqr ?_ | refine s_box (fun _ => ?_) | (refine s_cmp (fun h => ?_) (fun h => ?_) <;> try (exfalso; omega))))
      refine aw_ret ?_; (repeat (first | refine then_ret ?_))
      refine post_of ⟨?_, rfl⟩ rvs pks
      simp [oneOf, c1]
end
end Go.Proofs.YtjcocblohiglbaaGreatDoor
