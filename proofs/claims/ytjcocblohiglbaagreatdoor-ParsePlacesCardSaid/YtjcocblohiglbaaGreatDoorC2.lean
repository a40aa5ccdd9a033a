/- Operations: which can be written; a table of them. Conditions: none. -/
import Derived.Test.YtjcocblohiglbaaGreatDoorB2
namespace Go.Proofs.YtjcocblohiglbaaGreatDoor
open Go.Dp
set_option linter.unusedVariables false
set_option linter.unusedSimpArgs false
def idxF (r : ByteArray → Bool) : List ByteArray → Nat → Int
  | [], _ => -1
  | x :: l, i => if r x = true then (i : Int) else idxF r l (i + 1)
theorem idxF_any (r : ByteArray → Bool) : ∀ (l : List ByteArray) (i : Nat), 0 ≤ idxF r l i ↔ l.any r = true
  | [], i => by simp [idxF]
  | x :: l, i => by
    rw [idxF, List.any_cons]
    by_cases h : r x = true
    · rw [if_pos h, h]; simp
    · rw [if_neg h, idxF_any r l (i + 1)]
      rw [Bool.not_eq_true] at h
      rw [h, Bool.false_or]
section
variable (I : World → Prop)
set_option maxRecDepth 20000 in set_option maxHeartbeats 4000000 in
theorem sim_indexF (f : FuncId) (fs cs : List AV) (r : ByteArray → Bool) (l : List ByteArray) (hl : l.length ≤ 1000000000000) (hf : ∀ s, s ∈ l → Sim Tryz.prog I f (fs ++ [str s] ++ cs) [] (fun o τ => o = .ret (boo (r s)) ∧ τ = [])) :
    Sim Tryz.prog I 32 [.sl 1 (l.map fun s => str s), .fn (.func f) fs cs] [] (fun o τ => o = .ret (i64 (idxF r l 0)) ∧ τ = []) := by
  have hle : (l.map fun s => str s).length = l.length := List.length_map ..
  generalize hres : idxF r l 0 = res
  refine sim_body Tryz.func32 rfl rfl rfl ?_
  repeat (any_goals (first | refine s_at ?_ | refine s_move ?_ | refine s_assign ?_ | refine s_pure ?_ | refine s_nil ?_ | refine aw_seq ?_ | refine aw_seqr ?_ | refine aw_block ?_))
  refine aw_loop (fun i : Nat => [(0, .sl 1 (l.map fun s => str s)), (1, .fn (.func f) fs cs), (7, i64 ((l.map fun s => str s).length : Int)), (8, i64 (i : Int))]) (fun i => [])
    (fun i => i ≤ l.length ∧ idxF r (l.drop i) i = res) (fun i => l.length - i) 0 ⟨Nat.zero_le _, by rw [List.drop_zero]; exact hres⟩ els [] (by exact List.Perm.refl _) ?_
  rintro i ⟨i1, i2⟩
  try dsimp only at i1 i2 ⊢
  by_cases hi : i < l.length
  · obtain ⟨x, hx⟩ : ∃ x, l[i]? = some x := ⟨l[i], List.getElem?_eq_getElem hi⟩
    have g1 := hf x (List.mem_of_getElem? hx)
    have g2 : (l.map fun s => str s)[i]? = some (str x) := by rw [List.getElem?_map, hx]; rfl
    have hd : l.drop i = x :: l.drop (i + 1) := by
      obtain ⟨h1, e1⟩ := List.getElem?_eq_some_iff.1 hx
      rw [List.drop_eq_getElem_cons h1, e1]
    rw [hd, idxF] at i2
    cases hs : r x with
    | true =>
      rw [hs] at g1 i2
      rw [if_pos rfl] at i2
      repeat (any_goals (first | refine s_at ?_ | refine s_skip ?_ | refine s_move ?_ | refine s_assign ?_ | refine s_loade ?_ | refine s_nil ?_ | refine aw_seq ?_ | refine aw_seqr ?_ | refine aw_block ?_ | refine aw_true ?_ | (refine s_cmp (fun h => ?_) (fun h => ?_) <;> try (exfalso; omega)) | refine s_elem i g2 ?_ | (refine s_callv g1 (fun x τ' h => ?_) (fun c τ' h => by cases h.1); obtain ⟨h1, rfl⟩ := h; cases h1)))
      refine aw_ret ?_; (repeat (first | refine then_ret ?_ | refine inb_ret ?_))
      refine post_of ⟨?_, rfl⟩ rvs pks
      rw [← i2]; rfl
    | false =>
      rw [hs] at g1 i2
      rw [if_neg (by simp)] at i2
      repeat (any_goals (first | refine s_at ?_ | refine s_skip ?_ | refine s_move ?_ | refine s_assign ?_ | refine s_loade ?_ | refine s_nil ?_ | refine aw_seq ?_ | refine aw_seqr ?_ | refine aw_block ?_ | refine aw_true ?_ | refine aw_false ?_ | (refine s_cmp (fun h => ?_) (fun h => ?_) <;> try (exfalso; omega)) | refine s_elem i g2 ?_ | (refine s_callv g1 (fun x τ' h => ?_) (fun c τ' h => by cases h.1); obtain ⟨h1, rfl⟩ := h; cases h1) | refine s_add ?_))
      refine d_end fun env' he => then_nor (rnd_end (i + 1) pks ⟨by omega, i2⟩ (by omega) (EnvLe.of_eq he els))
  · rw [List.drop_of_length_le (by omega), idxF] at i2
    repeat (any_goals (first | refine s_at ?_ | refine s_nil ?_ | refine aw_seq ?_ | refine aw_seqr ?_ | refine aw_false ?_ | (refine s_cmp (fun h => ?_) (fun h => ?_) <;> try (exfalso; omega))))
    refine aw_exit ?_; (repeat refine then_exit ?_); refine inb_exit ?_; refine then_nor ?_
    repeat (any_goals (first | refine s_at ?_ | refine s_assign ?_ | refine s_nil ?_ | refine aw_seq ?_ | refine aw_seqr ?_))
    refine aw_ret ?_; (repeat (first | refine then_ret ?_))
    refine post_of ⟨?_, rfl⟩ rvs pks
    rw [← i2]; rfl
set_option maxRecDepth 20000 in set_option maxHeartbeats 4000000 in
theorem sim_containsF (f : FuncId) (fs cs : List AV) (r : ByteArray → Bool) (l : List ByteArray) (hl : l.length ≤ 1000000000000) (hf : ∀ s, s ∈ l → Sim Tryz.prog I f (fs ++ [str s] ++ cs) [] (fun o τ => o = .ret (boo (r s)) ∧ τ = [])) :
    Sim Tryz.prog I 19 [.sl 1 (l.map fun s => str s), .fn (.func f) fs cs] [] (fun o τ => o = .ret (boo (l.any r)) ∧ τ = []) := by
  have g1 := sim_indexF I f fs cs r l hl hf
  have h1 := idxF_any r l 0
  by_cases h : 0 ≤ idxF r l 0
  · rw [h1.1 h]
    refine sim_body Tryz.func19 rfl rfl rfl ?_
    repeat (any_goals (first | refine s_at ?_ | refine s_move ?_ | refine s_assign ?_ | refine s_nil ?_ | refine aw_seq ?_ | refine aw_seqr ?_ | (refine s_cmp (fun h => ?_) (fun h => ?_) <;> try (exfalso; omega)) | refine s_call0 g1 ?_))
    refine aw_ret ?_; (repeat (first | refine then_ret ?_))
    exact post_of ⟨rfl, rfl⟩ rvs pks
  · have h2 : l.any r = false := by
      cases hh : l.any r with
      | false => rfl
      | true => exact absurd (h1.2 hh) h
    rw [h2]
    refine sim_body Tryz.func19 rfl rfl rfl ?_
    repeat (any_goals (first | refine s_at ?_ | refine s_move ?_ | refine s_assign ?_ | refine s_nil ?_ | refine aw_seq ?_ | refine aw_seqr ?_ | (refine s_cmp (fun h => ?_) (fun h => ?_) <;> try (exfalso; omega)) | refine s_call0 g1 ?_))
    refine aw_ret ?_; (repeat (first | refine then_ret ?_))
    exact post_of ⟨rfl, rfl⟩ rvs pks
/-- The kind of a text as a token. -/
def KindOk (kd : ByteArray → Int) : Prop := ∀ s : ByteArray, s.size ≤ 1000000000 → Sim Tryz.prog I 69 [str s] [] (fun o τ => o = .ret (i64 (kd s)) ∧ τ = [])
/-- A part that cannot be written. -/
def badPart (kd : ByteArray → Int) (s : ByteArray) : Bool := decide (kd s ≠ 1) && decide (kd s ≠ 4)
/-- An operation can be written. -/
def rightM (kd : ByteArray → Int) (m : Mx) : Bool :=
  decide (1 ≤ m.parts.length) && decide (m.parts.length ≤ 8) && decide (1 ≤ m.prio) && decide (m.prio ≤ 9) && decide (0 ≤ m.side) && decide (m.side ≤ 2) && !(!m.left && !m.right && decide (m.parts.length = 1)) && !m.parts.any (badPart kd)
set_option maxRecDepth 20000 in set_option maxHeartbeats 4000000 in
theorem sim_right1 (kd : ByteArray → Int) (hk : KindOk I kd) (s : ByteArray) (hs : s.size ≤ 1000000000) : Sim Tryz.prog I 68 [str s] [] (fun o τ => o = .ret (boo (badPart kd s)) ∧ τ = []) := by
  have g1 := hk s hs
  by_cases h1 : kd s = 1
  · refine sim_body Tryz.func68 rfl rfl rfl ?_
    repeat (any_goals (first | refine s_at ?_ | refine s_off ?_ | refine s_move ?_ | refine s_assign ?_ | refine s_pick0 ?_ | refine s_nil ?_ | refine aw_seq ?_ | refine aw_seqr ?_ | (refine s_cmp (fun h => ?_) (fun h => ?_) <;> try (exfalso; omega)) | refine s_call0 g1 ?_))
    refine aw_ret ?_; (repeat (first | refine then_ret ?_))
    refine post_of ⟨?_, rfl⟩ rvs pks
    simp [badPart, oneOf, h1]
  · by_cases h2 : kd s = 4
    · refine sim_body Tryz.func68 rfl rfl rfl ?_
      repeat (any_goals (first | refine s_at ?_ | refine s_move ?_ | refine s_assign ?_ | refine s_pick1 ?_ | refine s_nil ?_ | refine aw_seq ?_ | refine aw_seqr ?_ | (refine s_cmp (fun h => ?_) (fun h => ?_) <;> try (exfalso; omega)) | refine s_call0 g1 ?_))
      refine aw_ret ?_; (repeat (first | refine then_ret ?_))
      refine post_of ⟨?_, rfl⟩ rvs pks
      simp [badPart, oneOf, h2]
    · refine sim_body Tryz.func68 rfl rfl rfl ?_
      repeat (any_goals (first | refine s_at ?_ | refine s_move ?_ | refine s_assign ?_ | refine s_pick1 ?_ | refine s_nil ?_ | refine aw_seq ?_ | refine aw_seqr ?_ | (refine s_cmp (fun h => ?_) (fun h => ?_) <;> try (exfalso; omega)) | refine s_call0 g1 ?_))
      refine aw_ret ?_; (repeat (first | refine then_ret ?_))
      refine post_of ⟨?_, rfl⟩ rvs pks
      simp [badPart, oneOf, h1, h2]
set_option maxRecDepth 20000 in set_option maxHeartbeats 4000000 in
theorem sim_right (kd : ByteArray → Int) (hk : KindOk I kd) (m : Mx) (hl : m.parts.length ≤ 1000000000000) (hs : ∀ s, s ∈ m.parts → s.size ≤ 1000000000) : Sim Tryz.prog I 53 [emix m] [] (fun o τ => o = .ret (boo (rightM kd m)) ∧ τ = []) := by
  have g1 := sim_containsF I 68 [] [] (badPart kd) m.parts hl (fun s h => sim_right1 I kd hk s (hs s h))
  have hpl : (m.parts.map fun s => str s).length = m.parts.length := List.length_map ..
  unfold emix emixL
  generalize hr : rightM kd m = res
  unfold rightM at hr
  by_cases c1 : m.parts.length < 1
  · refine sim_body Tryz.func53 rfl rfl rfl ?_
    repeat (any_goals (first | refine s_at ?_ | refine s_off ?_ | refine s_offn ?_ | refine s_move ?_ | refine s_assign ?_ | refine s_load ?_ | refine s_pick1 ?_ | refine s_pure ?_ | refine s_nil ?_ | refine aw_seq ?_ | refine aw_seqr ?_ | refine aw_true ?_ | refine s_box (fun _ => ?_) | (refine s_cmp (fun h => ?_) (fun h => ?_) <;> try (exfalso; omega))))
    refine aw_ret ?_; (repeat (first | refine then_ret ?_))
    refine post_of ⟨?_, rfl⟩ rvs pks
    rw [← hr, decide_eq_false (by omega : ¬ 1 ≤ m.parts.length)]; rfl
  · rw [decide_eq_true (by omega : 1 ≤ m.parts.length), Bool.true_and] at hr
    by_cases c2 : m.parts.length > 8
    · refine sim_body Tryz.func53 rfl rfl rfl ?_
      repeat (any_goals (first | refine s_at ?_ | refine s_off ?_ | refine s_offn ?_ | refine s_move ?_ | refine s_assign ?_ | refine s_load ?_ | refine s_pick1 ?_ | refine s_pick0 ?_ | refine s_pure ?_ | refine s_nil ?_ | refine aw_seq ?_ | refine aw_seqr ?_ | refine aw_true ?_ | refine s_box (fun _ => ?_) | (refine s_cmp (fun h => ?_) (fun h => ?_) <;> try (exfalso; omega))))
      refine aw_ret ?_; (repeat (first | refine then_ret ?_))
      refine post_of ⟨?_, rfl⟩ rvs pks
      rw [← hr, decide_eq_false (by omega : ¬ m.parts.length ≤ 8)]; rfl
    · rw [decide_eq_true (by omega : m.parts.length ≤ 8), Bool.true_and] at hr
      by_cases c3 : m.prio < 1
      · refine sim_body Tryz.func53 rfl rfl rfl ?_
        repeat (any_goals (first | refine s_at ?_ | refine s_off ?_ | refine s_offn ?_ | refine s_move ?_ | refine s_assign ?_ | refine s_load ?_ | refine s_pick1 ?_ | refine s_pick0 ?_ | refine s_pure ?_ | refine s_nil ?_ | refine aw_seq ?_ | refine aw_seqr ?_ | refine aw_true ?_ | refine s_box (fun _ => ?_) | (refine s_cmp (fun h => ?_) (fun h => ?_) <;> try (exfalso; omega))))
        refine aw_ret ?_; (repeat (first | refine then_ret ?_))
        refine post_of ⟨?_, rfl⟩ rvs pks
        rw [← hr, decide_eq_false (by omega : ¬ 1 ≤ m.prio)]; rfl
      · rw [decide_eq_true (by omega : 1 ≤ m.prio), Bool.true_and] at hr
        by_cases c4 : m.prio > 9
        · refine sim_body Tryz.func53 rfl rfl rfl ?_
          repeat (any_goals (first | refine s_at ?_ | refine s_off ?_ | refine s_offn ?_ | refine s_move ?_ | refine s_assign ?_ | refine s_load ?_ | refine s_pick1 ?_ | refine s_pick0 ?_ | refine s_pure ?_ | refine s_nil ?_ | refine aw_seq ?_ | refine aw_seqr ?_ | refine aw_true ?_ | refine s_box (fun _ => ?_) | (refine s_cmp (fun h => ?_) (fun h => ?_) <;> try (exfalso; omega))))
          refine aw_ret ?_; (repeat (first | refine then_ret ?_))
          refine post_of ⟨?_, rfl⟩ rvs pks
          rw [← hr, decide_eq_false (by omega : ¬ m.prio ≤ 9)]; rfl
        · rw [decide_eq_true (by omega : m.prio ≤ 9), Bool.true_and] at hr
          by_cases c5 : m.side < 0
          · refine sim_body Tryz.func53 rfl rfl rfl ?_
            repeat (any_goals (first | refine s_at ?_ | refine s_off ?_ | refine s_offn ?_ | refine s_move ?_ | refine s_assign ?_ | refine s_load ?_ | refine s_pick1 ?_ | refine s_pick0 ?_ | refine s_pure ?_ | refine s_nil ?_ | refine aw_seq ?_ | refine aw_seqr ?_ | refine aw_true ?_ | refine s_box (fun _ => ?_) | (refine s_cmp (fun h => ?_) (fun h => ?_) <;> try (exfalso; omega))))
            refine aw_ret ?_; (repeat (first | refine then_ret ?_))
            refine post_of ⟨?_, rfl⟩ rvs pks
            rw [← hr, decide_eq_false (by omega : ¬ 0 ≤ m.side)]; rfl
          · rw [decide_eq_true (by omega : 0 ≤ m.side), Bool.true_and] at hr
            by_cases c6 : m.side > 2
            · refine sim_body Tryz.func53 rfl rfl rfl ?_
              repeat (any_goals (first | refine s_at ?_ | refine s_off ?_ | refine s_offn ?_ | refine s_move ?_ | refine s_assign ?_ | refine s_load ?_ | refine s_pick1 ?_ | refine s_pick0 ?_ | refine s_pure ?_ | refine s_nil ?_ | refine aw_seq ?_ | refine aw_seqr ?_ | refine aw_true ?_ | refine s_box (fun _ => ?_) | (refine s_cmp (fun h => ?_) (fun h => ?_) <;> try (exfalso; omega))))
              refine aw_ret ?_; (repeat (first | refine then_ret ?_))
              refine post_of ⟨?_, rfl⟩ rvs pks
              rw [← hr, decide_eq_false (by omega : ¬ m.side ≤ 2)]; rfl
            · rw [decide_eq_true (by omega : m.side ≤ 2), Bool.true_and] at hr
              cases hL : m.left <;> cases hR : m.right <;> by_cases c7 : m.parts.length = 1 <;>
              · rw [hL, hR] at hr
                refine sim_body Tryz.func53 rfl rfl rfl ?_
                repeat (any_goals (first | refine s_at ?_ | refine s_skip ?_ | refine s_off ?_ | refine s_move ?_ | refine s_assign ?_ | refine s_load ?_ | refine s_pick1 ?_ | refine s_pick0 ?_ | refine s_pure ?_ | refine s_nil ?_ | refine aw_seq ?_ | refine aw_seqr ?_ | refine aw_true ?_ | refine aw_false ?_ | refine s_box (fun _ => ?_) | (refine s_cmp (fun h => ?_) (fun h => ?_) <;> try (exfalso; omega)) | refine s_call0 g1 ?_))
                refine aw_ret ?_; (repeat (first | refine then_ret ?_))
                refine post_of ⟨?_, rfl⟩ rvs pks
                rw [← hr]
                simp [oneOf, c7]
end
end Go.Proofs.YtjcocblohiglbaaGreatDoor
/- Operations: the two tables by first parts. Conditions: none. -/
namespace Go.Proofs.YtjcocblohiglbaaGreatDoor
open Go.Dp
set_option linter.unusedVariables false
set_option linter.unusedSimpArgs false
def firstP (m : Mx) : ByteArray := m.parts.headD ⟨#[]⟩
/-- Operations with (without) an argument ahead, by their first parts. -/
def tabM (left : Bool) (ops : List Mx) : List (ByteArray × Mx) := (ops.filter fun m => m.left == left).map fun m => (firstP m, m)
/-- No two have the same first part at the same side. -/
def Apt (ops : List Mx) : Prop := ops.Pairwise fun a b => ¬ (a.left = b.left ∧ firstP a = firstP b)
theorem tabM_snoc (left : Bool) (ops : List Mx) (m : Mx) : tabM left (ops ++ [m]) = tabM left ops ++ (if m.left = left then [(firstP m, m)] else []) := by
  unfold tabM
  rw [List.filter_append, List.map_append]
  refine congrArg _ ?_
  by_cases h : m.left = left
  · rw [if_pos h, List.filter_cons_of_pos (by simp [h])]; rfl
  · rw [if_neg h, List.filter_cons_of_neg (by simp [h])]; rfl
theorem kv_append (A B : List (ByteArray × Mx)) : kv (A ++ B) = kv A ++ kv B := List.map_append ..
theorem apt_new {ops : List Mx} (h : Apt ops) {i : Nat} {m : Mx} (hm : ops[i]? = some m) : ∀ p, p ∈ kv (tabM m.left (ops.take i)) → p.1 ≠ Value.string (firstP m) := by
  intro p hp
  obtain ⟨q, hq, rfl⟩ := List.mem_map.1 hp
  obtain ⟨a, ha, rfl⟩ := List.mem_map.1 hq
  obtain ⟨ha1, ha2⟩ := List.mem_filter.1 ha
  intro e
  injection e with e
  obtain ⟨j, hj, ej⟩ := List.getElem_of_mem ha1
  rw [List.length_take] at hj
  rw [List.getElem_take] at ej
  obtain ⟨hi, ei⟩ := List.getElem?_eq_some_iff.1 hm
  have := List.pairwise_iff_getElem.1 h j i (by omega) hi (by omega)
  rw [ej, ei] at this
  exact this ⟨by simpa using ha2, e⟩
section
variable (I : World → Prop)
set_option maxRecDepth 20000 in set_option maxHeartbeats 4000000 in
theorem sim_gathered (ops : List Mx) (hl : ops.length ≤ 1000000) (hne : ∀ m, m ∈ ops → m.parts ≠ []) (hap : Apt ops) : Sim Tryz.prog I 57 [.sl 5 (ops.map emix)] [] (fun o τ => ∃ bA bF, o = .ret (.ag [.sc (.map (some bA)), .sc (.map (some bF))]) ∧ τ = [.mp bA (kv (tabM true ops)), .mp bF (kv (tabM false ops))]) := by
  have hle : (ops.map emix).length = ops.length := List.length_map ..
  refine sim_body Tryz.func57 rfl rfl rfl ?_
  repeat (any_goals (first | refine s_at ?_ | refine s_move ?_ | refine s_pure ?_ | refine s_nil ?_ | refine aw_seq ?_ | refine aw_seqr ?_ | refine aw_block ?_ | refine s_alloc (fun _ => ?_) | refine s_store' ?_ | refine s_makeMap (fun _ => ?_)))
  rename_i b2 bA bF b3
  refine aw_loop (fun i : Nat => [(2, ptr b2), (3, ptr b3), (9, .sl 5 (ops.map emix)), (10, i64 ((ops.map emix).length : Int)), (11, i64 (i : Int))])
    (fun i => [.box b3 [.sc (.map (some bA)), .sc (.map (some bF))] 108, .box b2 ty108.zl 108, .mp bA (kv (tabM true (ops.take i))), .mp bF (kv (tabM false (ops.take i)))])
    (fun i => i ≤ ops.length) (fun i => ops.length - i) 0 (Nat.zero_le _) els _ (Picks.perm pks) ?_
  intro i i1
  try dsimp only at i1 ⊢
  by_cases hi : i < ops.length
  · obtain ⟨m, hm⟩ : ∃ m, ops[i]? = some m := ⟨ops[i], List.getElem?_eq_getElem hi⟩
    have hn := apt_new hap hm
    have hts : ops.take (i + 1) = ops.take i ++ [m] := by rw [List.take_add_one, hm]; rfl
    have g1 : (ops.map emix)[i]? = some (emix m) := by rw [List.getElem?_map, hm]; rfl
    obtain ⟨s, ps, hps⟩ : ∃ s ps, m.parts = s :: ps := by
      cases h : m.parts with
      | nil => exact absurd h (hne m (List.mem_of_getElem? hm))
      | cons s ps => exact ⟨s, ps, rfl⟩
    have hfp : firstP m = s := by rw [firstP, hps]; rfl
    have g2 : (m.parts.map fun s => str s)[0]? = some (str s) := by rw [hps]; rfl
    unfold emix emixL at g1
    cases hL : m.left with
    | true =>
      have e1 : kv (tabM true (ops.take i)) ++ [(Value.string s, .ag [.sl 1 (m.parts.map fun s => str s), boo true, boo m.right, i64 m.prio, i64 m.side])] = kv (tabM true (ops.take (i + 1))) := by
        rw [hts, tabM_snoc, if_pos hL, kv_append, hfp, ← hL]; rfl
      have e2 : kv (tabM false (ops.take i)) = kv (tabM false (ops.take (i + 1))) := by
        rw [hts, tabM_snoc, if_neg (by simp [hL]), List.append_nil]
      rw [hL, hfp] at hn
      rw [hL] at g1
      repeat (any_goals (first | refine s_at ?_ | refine s_skip ?_ | refine s_move ?_ | refine s_load ?_ | refine s_loade ?_ | refine s_loadd ?_ | refine s_pure ?_ | refine s_nil ?_ | refine aw_seq ?_ | refine aw_seqr ?_ | refine aw_block ?_ | refine aw_true ?_ | refine s_alloc (fun _ => ?_) | refine s_store' ?_ | (refine s_cmp (fun h => ?_) (fun h => ?_) <;> try (exfalso; omega)) | refine s_elem i g1 ?_ | refine s_elem 0 g2 ?_ | refine s_drawn 8 [7] ?_ | refine s_mapNew keyL (kv_str _) ⟨_, rfl⟩ hn ?_ | refine s_add ?_))
      dsimp only [AV.cells]
      rw [e1, e2]
      refine d_end fun env' he => then_nor (rnd_end (i + 1) pks (by omega) (by omega) (EnvLe.of_eq he els))
    | false =>
      have e1 : kv (tabM false (ops.take i)) ++ [(Value.string s, .ag [.sl 1 (m.parts.map fun s => str s), boo false, boo m.right, i64 m.prio, i64 m.side])] = kv (tabM false (ops.take (i + 1))) := by
        rw [hts, tabM_snoc, if_pos hL, kv_append, hfp, ← hL]; rfl
      have e2 : kv (tabM true (ops.take i)) = kv (tabM true (ops.take (i + 1))) := by
        rw [hts, tabM_snoc, if_neg (by simp [hL]), List.append_nil]
      rw [hL, hfp] at hn
      rw [hL] at g1
      repeat (any_goals (first | refine s_at ?_ | refine s_skip ?_ | refine s_move ?_ | refine s_load ?_ | refine s_loade ?_ | refine s_loadd ?_ | refine s_pure ?_ | refine s_nil ?_ | refine aw_seq ?_ | refine aw_seqr ?_ | refine aw_block ?_ | refine aw_true ?_ | refine aw_false ?_ | refine s_alloc (fun _ => ?_) | refine s_store' ?_ | (refine s_cmp (fun h => ?_) (fun h => ?_) <;> try (exfalso; omega)) | refine s_elem i g1 ?_ | refine s_elem 0 g2 ?_ | refine s_drawn 8 [7] ?_ | refine s_mapNew keyL (kv_str _) ⟨_, rfl⟩ hn ?_ | refine s_add ?_))
      dsimp only [AV.cells]
      rw [e1, e2]
      refine d_end fun env' he => then_nor (rnd_end (i + 1) pks (by omega) (by omega) (EnvLe.of_eq he els))
  · have hi' : i = ops.length := by omega
    subst hi'
    rw [List.take_length]
    repeat (any_goals (first | refine s_at ?_ | refine s_nil ?_ | refine aw_seq ?_ | refine aw_seqr ?_ | refine aw_false ?_ | (refine s_cmp (fun h => ?_) (fun h => ?_) <;> try (exfalso; omega))))
    refine aw_exit ?_; (repeat refine then_exit ?_); refine inb_exit ?_; refine then_nor ?_
    repeat (any_goals (first | refine s_at ?_ | refine s_load ?_ | refine s_nil ?_ | refine aw_seq ?_ | refine aw_seqr ?_ | refine s_store' ?_))
    refine aw_ret ?_; (repeat (first | refine then_ret ?_))
    exact post_of ⟨_, _, rfl, rfl⟩ rvs pks
end
end Go.Proofs.YtjcocblohiglbaaGreatDoor
/- Operations: whether they can be told apart. Conditions: none. -/
namespace Go.Proofs.YtjcocblohiglbaaGreatDoor
open Go.Dp
set_option linter.unusedVariables false
set_option linter.unusedSimpArgs false
/-- The type of the keys of the table of what was seen. -/
abbrev tySeen : TypeId := 99
theorem two_of {α : Type} : ∀ {l : List α}, l.length = 2 → ∃ a b, l = [a, b]
  | [a, b], _ => ⟨a, b, rfl⟩
  | [], h => by simp at h
  | [_], h => by simp at h
  | _ :: _ :: _ :: _, h => by simp at h
theorem und_of {P : Program} {k : TypeId} {d : TypeDesc} {names : List (String × TypeId × Nat)} (h : (P.underlying k).map (fun d => match d with | .struct fs => fs.toList.map (fun f => (f.name, f.type, f.offset)) | _ => []) = some names) (hne : names ≠ []) : ∃ fs, P.underlying k = some (.struct fs) ∧ fs.toList.map (fun f => (f.name, f.type, f.offset)) = names := by
  cases hu : P.underlying k with
  | none => rw [hu] at h; cases h
  | some d =>
    rw [hu] at h
    injection h with h
    cases d <;> first | exact ⟨_, rfl, h⟩ | exact absurd h.symm hne
theorem keySeen : KeyL Tryz.prog tySeen IsSB := by
  obtain ⟨fs, hu, hf⟩ := und_of (P := Tryz.prog) (k := tySeen) (d := .bool) (names := [("part", 9, 0), ("left", 4, 1)]) (by kernel_rfl) (by simp)
  obtain ⟨f1, f2, hfs⟩ : ∃ f1 f2, fs.toList = [f1, f2] := two_of (by have := congrArg List.length hf; simpa using this)
  rw [hfs] at hf
  simp only [List.map_cons, List.map_nil, List.cons.injEq, Prod.mk.injEq, and_true] at hf
  obtain ⟨⟨n1, t1, o1⟩, n2, t2, o2⟩ := hf
  refine keyL_sb hu hfs (by rw [t1]; kernel_rfl) (by rw [t2]; kernel_rfl) o1 o2 (by rw [t1]; kernel_rfl) (by rw [t2]; kernel_rfl) (by kernel_rfl) ?_ (by kernel_rfl) (by decide +kernel) (by kernel_rfl) (by kernel_rfl)
  rw [← Array.all_toList, hfs]
  simp [n1, n2]
def keyM (m : Mx) : ByteArray × Bool := (firstP m, m.left)
def kvS (l : List (ByteArray × Bool)) : List (Value × AV) := l.map fun p => (.agg #[.string p.1, .bool p.2], .sc (.bool true))
def aptL (kd : ByteArray → Int) : List (ByteArray × Bool) → List Mx → Bool
  | _, [] => true
  | seen, m :: l => rightM kd m && (!(seen.any fun p => decide (p = keyM m)) && aptL kd (seen ++ [keyM m]) l)
/-- Operations can be told apart. -/
def apartM (kd : ByteArray → Int) (ops : List Mx) : Bool := decide (ops.length ≤ 256) && aptL kd [] ops
/-- What is small enough. -/
structure SmallM (m : Mx) : Prop where
  len : m.parts.length ≤ 1000000
  size : ∀ s, s ∈ m.parts → s.size ≤ 1000000
section
variable (I : World → Prop)
set_option maxRecDepth 20000 in set_option maxHeartbeats 4000000 in
theorem sim_apart (kd : ByteArray → Int) (hk : KindOk I kd) (ops : List Mx) (hl : ops.length ≤ 1000000) (hsm : ∀ m, m ∈ ops → SmallM m) : Sim Tryz.prog I 33 [.sl 5 (ops.map emix)] [] (fun o τ => o = .ret (boo (apartM kd ops)) ∧ τ = []) := by
  have hle : (ops.map emix).length = ops.length := List.length_map ..
  unfold apartM
  by_cases h256 : ops.length ≤ 256
  · rw [decide_eq_true h256, Bool.true_and]
    generalize hres : aptL kd [] ops = res
    refine sim_body Tryz.func33 rfl rfl rfl ?_
    repeat (any_goals (first | refine s_at ?_ | refine s_skip ?_ | refine s_move ?_ | refine s_assign ?_ | refine s_pure ?_ | refine s_nil ?_ | refine aw_seq ?_ | refine aw_seqr ?_ | refine aw_block ?_ | refine aw_false ?_ | (refine s_cmp (fun h => ?_) (fun h => ?_) <;> try (exfalso; omega)) | refine s_makeMap (fun _ => ?_)))
    rename_i b3
    refine aw_loop (fun i : Nat => [(3, .sc (.map (some b3))), (11, .sl 5 (ops.map emix)), (12, i64 ((ops.map emix).length : Int)), (13, i64 (i : Int))])
      (fun i => [.mp b3 (kvS ((ops.take i).map keyM))])
      (fun i => i ≤ ops.length ∧ aptL kd ((ops.take i).map keyM) (ops.drop i) = res) (fun i => ops.length - i) 0 ⟨Nat.zero_le _, hres⟩ els _ (Picks.perm pks) ?_
    rintro i ⟨i1, i2⟩
    try dsimp only at i1 i2 ⊢
    have hK : ∀ p, p ∈ kvS ((ops.take i).map keyM) → IsSB p.1 := by
      intro p hp
      obtain ⟨q, hq, rfl⟩ := List.mem_map.1 hp
      obtain ⟨m, hm, rfl⟩ := List.mem_map.1 hq
      have h1 := hsm m (List.mem_of_mem_take hm)
      refine ⟨_, _, ?_, rfl⟩
      show (firstP m).size ≤ maxLen
      unfold firstP
      cases hp : m.parts with
      | nil => exact Nat.zero_le _
      | cons s ps =>
        have := h1.size s (by rw [hp]; exact List.mem_cons_self ..)
        show s.size ≤ maxLen
        unfold maxLen; omega
    by_cases hi : i < ops.length
    · obtain ⟨m, hm⟩ : ∃ m, ops[i]? = some m := ⟨ops[i], List.getElem?_eq_getElem hi⟩
      have hmem := List.mem_of_getElem? hm
      have hd : ops.drop i = m :: ops.drop (i + 1) := by
        obtain ⟨h1, e1⟩ := List.getElem?_eq_some_iff.1 hm
        rw [List.drop_eq_getElem_cons h1, e1]
      have hts : (ops.take (i + 1)).map keyM = (ops.take i).map keyM ++ [keyM m] := by rw [List.take_add_one, hm, List.map_append]; rfl
      have g1 : (ops.map emix)[i]? = some (emix m) := by rw [List.getElem?_map, hm]; rfl
      have gR := sim_right I kd hk m (by have := (hsm m hmem).len; omega) (fun s h => by have := (hsm m hmem).size s h; omega)
      rw [hd, aptL] at i2
      unfold emix emixL at g1 gR
      cases hR : rightM kd m with
      | false =>
        rw [hR] at gR i2
        rw [Bool.false_and] at i2
        repeat (any_goals (first | refine s_at ?_ | refine s_skip ?_ | refine s_assign ?_ | refine s_load ?_ | refine s_loade ?_ | refine s_pure ?_ | refine s_nil ?_ | refine aw_seq ?_ | refine aw_seqr ?_ | refine aw_block ?_ | refine aw_true ?_ | refine s_alloc (fun _ => ?_) | refine s_store' ?_ | (refine s_cmp (fun h => ?_) (fun h => ?_) <;> try (exfalso; omega)) | refine s_elem i g1 ?_ | refine s_call0 gR ?_))
        refine aw_ret ?_; (repeat (first | refine then_ret ?_ | refine inb_ret ?_))
        refine post_of ⟨?_, rfl⟩ rvs pks
        rw [← i2]; rfl
      | true =>
        rw [hR] at gR i2
        rw [Bool.true_and] at i2
        have hne : 1 ≤ m.parts.length := by
          unfold rightM at hR
          simp only [Bool.and_eq_true, decide_eq_true_eq] at hR
          omega
        obtain ⟨s, ps, hps⟩ : ∃ s ps, m.parts = s :: ps := by
          cases h : m.parts with
          | nil => rw [h] at hne; simp at hne
          | cons s ps => exact ⟨s, ps, rfl⟩
        have hfp : keyM m = (s, m.left) := by rw [keyM, firstP, hps]; rfl
        have g2 : (m.parts.map fun s => str s)[0]? = some (str s) := by rw [hps]; rfl
        have hsz : s.size ≤ maxLen := by
          have := (hsm m hmem).size s (by rw [hps]; exact List.mem_cons_self ..)
          unfold maxLen; omega
        rw [hfp] at i2 hts
        cases hany : ((ops.take i).map keyM).any fun p => decide (p = (s, m.left)) with
        | true =>
          rw [hany, Bool.not_true, Bool.false_and] at i2
          have hin : (s, m.left) ∈ (ops.take i).map keyM := by
            obtain ⟨q, hq, e⟩ := List.any_eq_true.1 hany
            rw [← of_decide_eq_true e]; exact hq
          obtain ⟨j, hj⟩ := List.mem_iff_getElem?.1 hin
          have hj2 : (kvS ((ops.take i).map keyM))[j]? = some (.agg #[.string s, .bool m.left], .sc (.bool true)) := by rw [kvS, List.getElem?_map, hj]; rfl
          repeat (any_goals (first | refine s_at ?_ | refine s_skip ?_ | refine s_move ?_ | refine s_assign ?_ | refine s_load ?_ | refine s_loade ?_ | refine s_loadd ?_ | refine s_pure ?_ | refine s_nil ?_ | refine aw_seq ?_ | refine aw_seqr ?_ | refine aw_block ?_ | refine aw_true ?_ | refine aw_false ?_ | refine s_alloc (fun _ => ?_) | refine s_allocd (fun _ => ?_) | refine s_store' ?_ | (refine s_cmp (fun h => ?_) (fun h => ?_) <;> try (exfalso; omega)) | refine s_elem i g1 ?_ | refine s_elem 0 g2 ?_ | refine s_call0 gR ?_ | refine s_drawn 9 [8] ?_ | refine s_lookupK keySeen hK hj2 (fun _ _ _ h => vr_sb h) ?_))
          refine aw_ret ?_; (repeat (first | refine then_ret ?_ | refine inb_ret ?_))
          refine post_of ⟨?_, rfl⟩ rvs pks
          rw [← i2]; rfl
        | false =>
          rw [hany, Bool.not_false, Bool.true_and] at i2
          have hin : (s, m.left) ∉ (ops.take i).map keyM := by
            intro h
            have := List.any_eq_false.1 hany _ h
            simp at this
          have hn : ∀ p, p ∈ kvS ((ops.take i).map keyM) → p.1 ≠ .agg #[.string s, .bool m.left] := by
            intro p hp e
            obtain ⟨q, hq, rfl⟩ := List.mem_map.1 hp
            obtain ⟨q1, q2⟩ := q
            dsimp only at e
            injection e with e
            have e0 := congrArg (fun a => a[0]?) e
            have e1 := congrArg (fun a => a[1]?) e
            simp at e0 e1
            rw [e0, e1] at hq
            exact hin hq
          repeat (any_goals (first | refine s_at ?_ | refine s_skip ?_ | refine s_move ?_ | refine s_load ?_ | refine s_loade ?_ | refine s_loadd ?_ | refine s_pure ?_ | refine s_nil ?_ | refine aw_seq ?_ | refine aw_seqr ?_ | refine aw_block ?_ | refine aw_true ?_ | refine aw_false ?_ | refine s_alloc (fun _ => ?_) | refine s_allocd (fun _ => ?_) | refine s_store' ?_ | (refine s_cmp (fun h => ?_) (fun h => ?_) <;> try (exfalso; omega)) | refine s_elem i g1 ?_ | refine s_elem 0 g2 ?_ | refine s_call0 gR ?_ | refine s_drawn 9 [8] ?_ | refine s_lookupK0 keySeen hK ⟨_, _, hsz, rfl⟩ hn (fun _ _ _ h => vr_sb h) ?_ | refine s_mapNewK keySeen hK ⟨_, _, hsz, rfl⟩ hn (fun _ _ _ h => vr_sb h) ?_ | refine s_add ?_))
          rw [show kvS ((ops.take i).map keyM) ++ [(Value.agg #[.string s, .bool m.left], AV.sc (.bool true))] = kvS ((ops.take (i + 1)).map keyM) by rw [hts, kvS, kvS, List.map_append]; rfl]
          refine d_end fun env' he => then_nor (rnd_end (i + 1) pks ⟨by omega, by rw [hts]; exact i2⟩ (by omega) (EnvLe.of_eq he els))
    · rw [List.drop_of_length_le (by omega), aptL] at i2
      repeat (any_goals (first | refine s_at ?_ | refine s_nil ?_ | refine aw_seq ?_ | refine aw_seqr ?_ | refine aw_false ?_ | (refine s_cmp (fun h => ?_) (fun h => ?_) <;> try (exfalso; omega))))
      refine aw_exit ?_; (repeat refine then_exit ?_); refine inb_exit ?_; refine then_nor ?_
      repeat (any_goals (first | refine s_at ?_ | refine s_assign ?_ | refine s_nil ?_ | refine aw_seq ?_ | refine aw_seqr ?_))
      refine aw_ret ?_; (repeat (first | refine then_ret ?_))
      refine post_of ⟨?_, rfl⟩ rvs pks
      rw [← i2]; rfl
  · rw [decide_eq_false h256, Bool.false_and]
    refine sim_body Tryz.func33 rfl rfl rfl ?_
    repeat (any_goals (first | refine s_at ?_ | refine s_move ?_ | refine s_assign ?_ | refine s_pure ?_ | refine s_nil ?_ | refine aw_seq ?_ | refine aw_seqr ?_ | refine aw_true ?_ | (refine s_cmp (fun h => ?_) (fun h => ?_) <;> try (exfalso; omega))))
    refine aw_ret ?_; (repeat (first | refine then_ret ?_))
    exact post_of ⟨rfl, rfl⟩ rvs pks
end
end Go.Proofs.YtjcocblohiglbaaGreatDoor
