/- The reference of package lex, walked over deep values: comments, what is passed over, numbers. Conditions: none. -/
import Derived.Test.YtglgppkjgodlkaaGreatDoorJB
namespace Go.Proofs.YtglgppkjgodlkaaGreatDoor.J
open Go.Dp
set_option linter.unusedVariables false
set_option linter.unusedSimpArgs false
namespace Rl
theorem isPre2 (x y c d : UInt8) (r : Lex.Bytes) : List.isPrefixOf [x, y] (c :: d :: r) = decide (c = x ∧ d = y) := by
  show ((x == c) && ((y == d) && true)) = _
  by_cases h1 : c = x
  · subst h1
    by_cases h2 : d = y
    · subst h2; simp
    · rw [decide_eq_false (fun h => h2 h.2)]; simp [Ne.symm h2]
  · rw [decide_eq_false (fun h => h1 h.1)]; simp [Ne.symm h1]
/-- the result of a comment -/
def comRes (i : Nat) : Option Nat → Int
  | some m => ((i + m : Nat) : Int)
  | none => -1
theorem comRes_add (i j : Nat) (o : Option Nat) : comRes i (o.map (· + j)) = comRes (i + j) o := by
  cases o with
  | none => rfl
  | some m => simp [comRes]; omega
theorem beg_shape {l : Lex.Bytes} (h : Lex.begComment l = true) : ∃ r, l = 40 :: 42 :: r := by
  unfold Lex.begComment at h
  split at h
  · exact ⟨_, rfl⟩
  · cases h
theorem beg_isPrefix (l : Lex.Bytes) : List.isPrefixOf [40, 42] l = Lex.begComment l := by
  match l with
  | [] => rfl
  | [c] => simp [List.isPrefixOf, Lex.begComment]
  | c :: d :: r =>
    unfold Lex.begComment
    split
    · rename_i h
      injection h with h1 h
      injection h with h2 _
      subst h1 h2
      simp [List.isPrefixOf]
    · rename_i h
      by_cases h1 : c = 40
      · by_cases h2 : d = 42
        · subst h1 h2
          exact absurd rfl (h _)
        · simp [List.isPrefixOf, h1, Ne.symm h2]
      · simp [List.isPrefixOf, Ne.symm h1]
theorem step_by (c : UInt8) (r : Lex.Bytes) : (Lex.cls c = 2 → Lex.step (c :: r) = Lex.wordStep (c :: r)) ∧ (Lex.cls c = 3 → Lex.step (c :: r) = Lex.numStep (c :: r)) ∧ (Lex.cls c = 4 → Lex.step (c :: r) = Lex.symStep (c :: r)) ∧ (Lex.cls c = 5 → Lex.step (c :: r) = Lex.markStep (c :: r)) ∧ (Lex.cls c = 0 → Lex.step (c :: r) = .bad) := by
  have e : Lex.step (c :: r) = if Lex.cls c = 1 then .skip else if Lex.cls c = 2 then Lex.wordStep (c :: r) else if Lex.cls c = 3 then Lex.numStep (c :: r) else if Lex.cls c = 4 then Lex.symStep (c :: r) else if Lex.cls c = 5 then Lex.markStep (c :: r) else .bad := rfl
  rw [e]
  refine ⟨fun h => ?_, fun h => ?_, fun h => ?_, fun h => ?_, fun h => ?_⟩ <;> simp [h]
theorem step_beg {l : Lex.Bytes} (h : Lex.begComment l = true) : Lex.step l = (match Lex.comLen 0 l with | some k => .comm k | none => .bad) := by
  obtain ⟨r, rfl⟩ := beg_shape h
  rw [(step_by 40 (42 :: r)).2.2.2.1 (by decide)]
  unfold Lex.markStep
  rw [if_pos h]
  rfl
theorem cls_facts (c : UInt8) (hb : Lex.isBlank c = false) :
    (Lex.isLetter c = true → Lex.cls c = 2) ∧ (Lex.isLetter c = false → Lex.isDigit c = true → Lex.cls c = 3) ∧
    (Lex.isLetter c = false → Lex.isDigit c = false → Lex.isSym c = true → Lex.cls c = 4) ∧ (Lex.isLetter c = false → Lex.isDigit c = false → Lex.isSym c = false → Lex.isMark c = true → Lex.cls c = 5) ∧ (Lex.isLetter c = false → Lex.isDigit c = false → Lex.isSym c = false → Lex.isMark c = false → Lex.cls c = 0) := by
  unfold Lex.cls
  rw [hb]
  exact ⟨fun h => by simp [h], fun h1 h2 => by simp [h1, h2], fun h1 h2 h3 => by simp [h1, h2, h3], fun h1 h2 h3 h4 => by simp [h1, h2, h3, h4], fun h1 h2 h3 h4 => by simp [h1, h2, h3, h4]⟩
def digFrom (n : Nat) (l : Lex.Bytes) : Nat := l.foldl (fun a c => 10 * a + (c.toNat - 48)) n
theorem digFrom_le : ∀ (l : Lex.Bytes) (n : Nat), n ≤ digFrom n l
  | [], n => Nat.le_refl _
  | c :: r, n => by
    show n ≤ digFrom (10 * n + (c.toNat - 48)) r
    have := digFrom_le r (10 * n + (c.toNat - 48))
    omega
end Rl
open Rl
section
variable (I : World → Prop)
set_option maxRecDepth 20000 in set_option maxHeartbeats 4000000 in
theorem sim_comment (a : ByteArray) (ha : Small a) (p : Nat) (hp : p ≤ a.size) (hb : Lex.begComment (a.data.toList.drop p) = true) : Sim Tryz.prog I 61 [str a, i64 (p : Int)] [] (fun o τ => o = .ret (i64 (comRes p (Lex.comLen 0 (a.data.toList.drop p)))) ∧ τ = []) := by
  have ha' : a.size ≤ 140737488351232 := ha
  generalize hr : comRes p (Lex.comLen 0 (a.data.toList.drop p)) = res
  refine sim_body Tryz.func61 rfl rfl rfl ?_
  repeat (any_goals (first | refine s_at ?_ | refine s_skip ?_ | refine s_off ?_ | refine s_offn ?_ | refine s_move ?_ | refine s_assign ?_ | refine s_load ?_ | refine s_loade ?_ | refine s_loadd ?_ | refine s_pick1 ?_ | refine s_pick0 ?_ | refine s_pure ?_ | refine s_nil ?_ | refine aw_seq ?_ | refine aw_seqr ?_ | refine aw_block ?_ | refine aw_true ?_ | refine aw_false ?_ | refine s_alloc (fun _ => ?_) | refine s_allocd (fun _ => ?_) | refine s_box (fun _ => ?_) | refine s_box1 (fun _ => ?_) | refine s_store' ?_))
  refine aw_loop (fun s : Nat × Nat => [(0, str a), (1, i64 (s.1 : Int)), (5, i64 (s.2 : Int))]) (fun _ => []) (fun s => s.1 ≤ a.size ∧ s.2 ≤ s.1 ∧ (s.2 = 0 → Lex.begComment (a.data.toList.drop s.1) = true) ∧ comRes s.1 (Lex.comLen s.2 (a.data.toList.drop s.1)) = res) (fun s => a.size - s.1) (p, 0) ⟨hp, Nat.zero_le _, fun _ => hb, hr⟩ (EnvLe.of_list (by intro x hx; simp only [List.mem_cons, List.not_mem_nil, or_false] at hx; (repeat (rcases hx with rfl | hx; (focus rfl))); (try (subst hx; rfl)))) [] (List.Perm.refl _) ?_
  rintro ⟨i, d⟩ ⟨i1, i2, i3, i4⟩
  dsimp only at i1 i2 i3 i4 ⊢
  by_cases hi : i < a.size
  · obtain ⟨x, hx, hd⟩ := drop_at hi
    have hb1 := sim_begins I a i ⟨#[40, 42]⟩ ha (by decide) i1
    have hb2 := sim_begins I a i ⟨#[42, 41]⟩ ha (by decide) i1
    by_cases hi2 : i + 1 < a.size
    · obtain ⟨y, hy, hd2⟩ := drop_at hi2
      rw [hd, hd2] at hb1 hb2 i3 i4
      rw [show List.isPrefixOf (⟨#[40, 42]⟩ : ByteArray).data.toList (x :: y :: a.data.toList.drop (i + 1 + 1)) = decide (x = 40 ∧ y = 42) from isPre2 40 42 x y _] at hb1
      rw [show List.isPrefixOf (⟨#[42, 41]⟩ : ByteArray).data.toList (x :: y :: a.data.toList.drop (i + 1 + 1)) = decide (x = 42 ∧ y = 41) from isPre2 42 41 x y _] at hb2
      rw [Lex.comLen] at i4
      by_cases h1 : x = 40 ∧ y = 42
      · rw [if_pos h1, comRes_add] at i4
        rw [decide_eq_true h1] at hb1
        repeat (any_goals (first | refine s_at ?_ | refine s_skip ?_ | refine s_off ?_ | refine s_offn ?_ | refine s_move ?_ | refine s_assign ?_ | refine s_load ?_ | refine s_loade ?_ | refine s_loadd ?_ | refine s_pick1 ?_ | refine s_pick0 ?_ | refine s_pure ?_ | refine s_nil ?_ | refine aw_seq ?_ | refine aw_seqr ?_ | refine aw_block ?_ | refine aw_true ?_ | refine aw_false ?_ | refine s_alloc (fun _ => ?_) | refine s_allocd (fun _ => ?_) | refine s_box (fun _ => ?_) | refine s_box1 (fun _ => ?_) | refine s_store' ?_ | (refine s_cmp (fun h => ?_) (fun h => ?_) <;> try (exfalso; omega)) | refine s_call0 hb1 ?_ | refine s_add ?_))
        refine aw_skip ?_; (repeat (first | refine inb_nor ?_ | refine then_nor ?_)); refine ⟨(i + 2, d + 1), _, ⟨by omega, by dsimp only; omega, fun h => by dsimp only at h; omega, i4⟩, by dsimp only; omega, (EnvLe.of_list (by intro x hx; simp only [List.mem_cons, List.not_mem_nil, or_false] at hx; (repeat (rcases hx with rfl | hx; (focus rfl))); (try (subst hx; rfl)))), Picks.perm (by (repeat (first | exact Picks.nil _ | (apply Picks.cons; focus ((repeat (first | exact Pick.here _ | apply Pick.there)); (first | done | fail))))))⟩
      · rw [if_neg h1] at i4
        rw [decide_eq_false h1] at hb1
        have hd0 : d ≠ 0 := fun h0 => by
          obtain ⟨r', hr'⟩ := beg_shape (i3 h0)
          injection hr' with e1 e2
          injection e2 with e2 _
          exact h1 ⟨e1, e2⟩
        by_cases h2 : x = 42 ∧ y = 41
        · rw [if_pos h2] at i4
          rw [decide_eq_true h2] at hb2
          by_cases h3 : d = 1
          · rw [if_pos h3] at i4
            repeat (any_goals (first | refine s_at ?_ | refine s_skip ?_ | refine s_off ?_ | refine s_offn ?_ | refine s_move ?_ | refine s_assign ?_ | refine s_load ?_ | refine s_loade ?_ | refine s_loadd ?_ | refine s_pick1 ?_ | refine s_pick0 ?_ | refine s_pure ?_ | refine s_nil ?_ | refine aw_seq ?_ | refine aw_seqr ?_ | refine aw_block ?_ | refine aw_true ?_ | refine aw_false ?_ | refine s_alloc (fun _ => ?_) | refine s_allocd (fun _ => ?_) | refine s_box (fun _ => ?_) | refine s_box1 (fun _ => ?_) | refine s_store' ?_ | (refine s_cmp (fun h => ?_) (fun h => ?_) <;> try (exfalso; omega)) | refine s_call0 hb1 ?_ | refine s_call0 hb2 ?_ | refine s_add ?_ | refine s_sub ?_))
            refine aw_ret ?_; (repeat (first | refine then_ret ?_ | refine inb_ret ?_))
            refine (post_of ⟨?_, rfl⟩ (by (repeat' (first | exact ResVs.nil | apply ResVs.cons | (apply ResV.tmp; first | exact (rfl : _ = AV.sc _) | exact (rfl : _ = AV.ag _) | exact (rfl : _ = AV.sl _ _) | exact (rfl : _ = AV.os _ _ _) | exact (rfl : _ = AV.fn _ _ _)) | (apply ResV.cells; rfl; apply Pick.mem; (repeat (first | exact Pick.here _ | apply Pick.there)); rfl; rfl; rfl; (first | rfl | simp only [ones, List.all_cons, List.all_nil, Bool.and_true, one_int, one_bool, one_str, one_ptr, one_slice, one_sl, one_os, *])) | (apply ResV.cell; rfl; apply Pick.mem; (repeat (first | exact Pick.here _ | apply Pick.there)); rfl; rfl; rfl)))) (by (repeat (first | exact Picks.nil _ | (apply Picks.cons; focus ((repeat (first | exact Pick.here _ | apply Pick.there)); (first | done | fail)))))))
            rw [← i4]; rfl
          · rw [if_neg h3, comRes_add] at i4
            repeat (any_goals (first | refine s_at ?_ | refine s_skip ?_ | refine s_off ?_ | refine s_offn ?_ | refine s_move ?_ | refine s_assign ?_ | refine s_load ?_ | refine s_loade ?_ | refine s_loadd ?_ | refine s_pick1 ?_ | refine s_pick0 ?_ | refine s_pure ?_ | refine s_nil ?_ | refine aw_seq ?_ | refine aw_seqr ?_ | refine aw_block ?_ | refine aw_true ?_ | refine aw_false ?_ | refine s_alloc (fun _ => ?_) | refine s_allocd (fun _ => ?_) | refine s_box (fun _ => ?_) | refine s_box1 (fun _ => ?_) | refine s_store' ?_ | (refine s_cmp (fun h => ?_) (fun h => ?_) <;> try (exfalso; omega)) | refine s_call0 hb1 ?_ | refine s_call0 hb2 ?_ | refine s_add ?_ | refine s_sub ?_))
            have e1 : ((d : Int) - 1) = ((d - 1 : Nat) : Int) := by omega
            rw [e1]
            refine aw_skip ?_; (repeat (first | refine inb_nor ?_ | refine then_nor ?_)); refine ⟨(i + 2, d - 1), _, ⟨by omega, by dsimp only; omega, fun h => by dsimp only at h; omega, i4⟩, by dsimp only; omega, (EnvLe.of_list (by intro x hx; simp only [List.mem_cons, List.not_mem_nil, or_false] at hx; (repeat (rcases hx with rfl | hx; (focus rfl))); (try (subst hx; rfl)))), Picks.perm (by (repeat (first | exact Picks.nil _ | (apply Picks.cons; focus ((repeat (first | exact Pick.here _ | apply Pick.there)); (first | done | fail))))))⟩
        · rw [if_neg h2, comRes_add, ← hd2] at i4
          rw [decide_eq_false h2] at hb2
          repeat (any_goals (first | refine s_at ?_ | refine s_skip ?_ | refine s_off ?_ | refine s_offn ?_ | refine s_move ?_ | refine s_assign ?_ | refine s_load ?_ | refine s_loade ?_ | refine s_loadd ?_ | refine s_pick1 ?_ | refine s_pick0 ?_ | refine s_pure ?_ | refine s_nil ?_ | refine aw_seq ?_ | refine aw_seqr ?_ | refine aw_block ?_ | refine aw_true ?_ | refine aw_false ?_ | refine s_alloc (fun _ => ?_) | refine s_allocd (fun _ => ?_) | refine s_box (fun _ => ?_) | refine s_box1 (fun _ => ?_) | refine s_store' ?_ | (refine s_cmp (fun h => ?_) (fun h => ?_) <;> try (exfalso; omega)) | refine s_call0 hb1 ?_ | refine s_call0 hb2 ?_ | refine s_add ?_ | refine s_sub ?_))
          refine aw_skip ?_; (repeat (first | refine inb_nor ?_ | refine then_nor ?_)); refine ⟨(i + 1, d), _, ⟨by omega, by dsimp only; omega, fun h => absurd h hd0, i4⟩, by dsimp only; omega, (EnvLe.of_list (by intro x hx; simp only [List.mem_cons, List.not_mem_nil, or_false] at hx; (repeat (rcases hx with rfl | hx; (focus rfl))); (try (subst hx; rfl)))), Picks.perm (by (repeat (first | exact Picks.nil _ | (apply Picks.cons; focus ((repeat (first | exact Pick.here _ | apply Pick.there)); (first | done | fail))))))⟩
    · have hd2 := drop_end (a := a) (i := i + 1) (by omega)
      rw [hd, hd2] at hb1 hb2 i3 i4
      rw [show List.isPrefixOf (⟨#[40, 42]⟩ : ByteArray).data.toList [x] = false by simp [List.isPrefixOf]] at hb1
      rw [show List.isPrefixOf (⟨#[42, 41]⟩ : ByteArray).data.toList [x] = false by simp [List.isPrefixOf]] at hb2
      have hd0 : d ≠ 0 := fun h0 => by
        obtain ⟨r', hr'⟩ := beg_shape (i3 h0)
        injection hr' with e1 e2
        cases e2
      repeat (any_goals (first | refine s_at ?_ | refine s_skip ?_ | refine s_off ?_ | refine s_offn ?_ | refine s_move ?_ | refine s_assign ?_ | refine s_load ?_ | refine s_loade ?_ | refine s_loadd ?_ | refine s_pick1 ?_ | refine s_pick0 ?_ | refine s_pure ?_ | refine s_nil ?_ | refine aw_seq ?_ | refine aw_seqr ?_ | refine aw_block ?_ | refine aw_true ?_ | refine aw_false ?_ | refine s_alloc (fun _ => ?_) | refine s_allocd (fun _ => ?_) | refine s_box (fun _ => ?_) | refine s_box1 (fun _ => ?_) | refine s_store' ?_ | (refine s_cmp (fun h => ?_) (fun h => ?_) <;> try (exfalso; omega)) | refine s_call0 hb1 ?_ | refine s_call0 hb2 ?_ | refine s_add ?_ | refine s_sub ?_))
      refine aw_skip ?_; (repeat (first | refine inb_nor ?_ | refine then_nor ?_)); refine ⟨(i + 1, d), _, ⟨by omega, by dsimp only; omega, fun h => absurd h hd0, ?_⟩, by dsimp only; omega, (EnvLe.of_list (by intro x hx; simp only [List.mem_cons, List.not_mem_nil, or_false] at hx; (repeat (rcases hx with rfl | hx; (focus rfl))); (try (subst hx; rfl)))), Picks.perm (by (repeat (first | exact Picks.nil _ | (apply Picks.cons; focus ((repeat (first | exact Pick.here _ | apply Pick.there)); (first | done | fail))))))⟩
      dsimp only
      rw [hd2, ← i4]
      rfl
  · rw [drop_end (by omega)] at i4
    repeat (any_goals (first | refine s_at ?_ | refine s_skip ?_ | refine s_off ?_ | refine s_offn ?_ | refine s_move ?_ | refine s_assign ?_ | refine s_load ?_ | refine s_loade ?_ | refine s_loadd ?_ | refine s_pick1 ?_ | refine s_pick0 ?_ | refine s_pure ?_ | refine s_nil ?_ | refine aw_seq ?_ | refine aw_seqr ?_ | refine aw_block ?_ | refine aw_true ?_ | refine aw_false ?_ | refine s_alloc (fun _ => ?_) | refine s_allocd (fun _ => ?_) | refine s_box (fun _ => ?_) | refine s_box1 (fun _ => ?_) | refine s_store' ?_ | (refine s_cmp (fun h => ?_) (fun h => ?_) <;> try (exfalso; omega))))
    refine aw_exit ?_; (repeat refine then_exit ?_); refine inb_exit ?_; refine then_nor ?_
    repeat (any_goals (first | refine s_at ?_ | refine s_skip ?_ | refine s_off ?_ | refine s_offn ?_ | refine s_move ?_ | refine s_assign ?_ | refine s_load ?_ | refine s_loade ?_ | refine s_loadd ?_ | refine s_pick1 ?_ | refine s_pick0 ?_ | refine s_pure ?_ | refine s_nil ?_ | refine aw_seq ?_ | refine aw_seqr ?_ | refine aw_block ?_ | refine aw_true ?_ | refine aw_false ?_ | refine s_alloc (fun _ => ?_) | refine s_allocd (fun _ => ?_) | refine s_box (fun _ => ?_) | refine s_box1 (fun _ => ?_) | refine s_store' ?_))
    refine aw_ret ?_; (repeat (first | refine then_ret ?_ | refine inb_ret ?_))
    refine (post_of ⟨?_, rfl⟩ (by (repeat' (first | exact ResVs.nil | apply ResVs.cons | (apply ResV.tmp; first | exact (rfl : _ = AV.sc _) | exact (rfl : _ = AV.ag _) | exact (rfl : _ = AV.sl _ _) | exact (rfl : _ = AV.os _ _ _) | exact (rfl : _ = AV.fn _ _ _)) | (apply ResV.cells; rfl; apply Pick.mem; (repeat (first | exact Pick.here _ | apply Pick.there)); rfl; rfl; rfl; (first | rfl | simp only [ones, List.all_cons, List.all_nil, Bool.and_true, one_int, one_bool, one_str, one_ptr, one_slice, one_sl, one_os, *])) | (apply ResV.cell; rfl; apply Pick.mem; (repeat (first | exact Pick.here _ | apply Pick.there)); rfl; rfl; rfl)))) (by (repeat (first | exact Picks.nil _ | (apply Picks.cons; focus ((repeat (first | exact Pick.here _ | apply Pick.there)); (first | done | fail)))))))
    rw [← i4]; rfl
/-- What is passed over: blanks and comments. -/
def SkipIs (a : ByteArray) (i j : Nat) (fine : Bool) : Prop :=
  i ≤ j ∧ j ≤ a.size ∧ (∃ cs, Lex.Runs (a.data.toList.drop i) i [] cs (a.data.toList.drop j) j) ∧ (fine = true → a.data.toList.drop j = [] ∨ ∃ c r, a.data.toList.drop j = c :: r ∧ Lex.isBlank c = false ∧ Lex.begComment (c :: r) = false) ∧ (fine = false → a.data.toList.drop j ≠ [] ∧ Lex.step (a.data.toList.drop j) = .bad)
set_option maxRecDepth 20000 in set_option maxHeartbeats 4000000 in
theorem sim_Skip (a : ByteArray) (ha : Small a) (p : Nat) (hp : p ≤ a.size) : Sim Tryz.prog I 46 [str a, i64 (p : Int)] [] (fun o τ => (∃ j fine, o = .ret (.tu [i64 ((j : Nat) : Int), boo fine]) ∧ SkipIs a p j fine) ∧ τ = []) := by
  have ha' : a.size ≤ 140737488351232 := ha
  refine sim_body Tryz.func46 rfl rfl rfl ?_
  repeat (any_goals (first | refine s_at ?_ | refine s_skip ?_ | refine s_off ?_ | refine s_offn ?_ | refine s_move ?_ | refine s_assign ?_ | refine s_load ?_ | refine s_loade ?_ | refine s_loadd ?_ | refine s_pick1 ?_ | refine s_pick0 ?_ | refine s_pure ?_ | refine s_nil ?_ | refine aw_seq ?_ | refine aw_seqr ?_ | refine aw_block ?_ | refine aw_true ?_ | refine aw_false ?_ | refine s_alloc (fun _ => ?_) | refine s_allocd (fun _ => ?_) | refine s_box (fun _ => ?_) | refine s_box1 (fun _ => ?_) | refine s_store' ?_))
  refine aw_loop (fun i : Nat => [(0, str a), (1, i64 (i : Int))]) (fun _ => []) (fun i => p ≤ i ∧ i ≤ a.size ∧ ∃ cs, Lex.Runs (a.data.toList.drop p) p [] cs (a.data.toList.drop i) i) (fun i => a.size - i) p ⟨Nat.le_refl _, hp, [], .nil _ _⟩ (EnvLe.of_list (by intro x hx; simp only [List.mem_cons, List.not_mem_nil, or_false] at hx; (repeat (rcases hx with rfl | hx; (focus rfl))); (try (subst hx; rfl)))) [] (List.Perm.refl _) ?_
  rintro i ⟨i0, i1, cs, i2⟩
  by_cases hi : i < a.size
  · obtain ⟨x, hx, hd⟩ := drop_at hi
    have hc := sim_blank I x
    cases hb : Lex.isBlank x with
    | true =>
      rw [hb] at hc
      repeat (any_goals (first | refine s_at ?_ | refine s_skip ?_ | refine s_off ?_ | refine s_offn ?_ | refine s_move ?_ | refine s_assign ?_ | refine s_load ?_ | refine s_loade ?_ | refine s_loadd ?_ | refine s_pick1 ?_ | refine s_pick0 ?_ | refine s_pure ?_ | refine s_nil ?_ | refine aw_seq ?_ | refine aw_seqr ?_ | refine aw_block ?_ | refine aw_true ?_ | refine aw_false ?_ | refine s_alloc (fun _ => ?_) | refine s_allocd (fun _ => ?_) | refine s_box (fun _ => ?_) | refine s_box1 (fun _ => ?_) | refine s_store' ?_ | (refine s_cmp (fun h => ?_) (fun h => ?_) <;> try (exfalso; omega)) | refine s_index i hx ?_ | refine s_call0 hc ?_ | refine s_add ?_))
      refine aw_exit ?_
      repeat (first | refine then_exit ?_ | refine inb_exit ?_)
      refine then_nor (rnd_end (i + 1) (by (repeat (first | exact Picks.nil _ | (apply Picks.cons; focus ((repeat (first | exact Pick.here _ | apply Pick.there)); (first | done | fail)))))) ⟨by omega, by omega, cs ++ [], ?_⟩ (by omega) (EnvLe.of_list (by intro x hx; simp only [List.mem_cons, List.not_mem_nil, or_false] at hx; (repeat (rcases hx with rfl | hx; (focus rfl))); (try (subst hx; rfl)))))
      exact i2.trans (by rw [hd]; exact .skip (Lex.blank_step hb _) (.nil _ _))
    | false =>
      rw [hb] at hc
      have hb1 := sim_begins I a i ⟨#[40, 42]⟩ ha (by decide) i1
      rw [show List.isPrefixOf (⟨#[40, 42]⟩ : ByteArray).data.toList (a.data.toList.drop i) = Lex.begComment (a.data.toList.drop i) from beg_isPrefix _] at hb1
      cases hbeg : Lex.begComment (a.data.toList.drop i) with
      | false =>
        rw [hbeg] at hb1
        repeat (any_goals (first | refine s_at ?_ | refine s_skip ?_ | refine s_off ?_ | refine s_offn ?_ | refine s_move ?_ | refine s_assign ?_ | refine s_load ?_ | refine s_loade ?_ | refine s_loadd ?_ | refine s_pick1 ?_ | refine s_pick0 ?_ | refine s_pure ?_ | refine s_nil ?_ | refine aw_seq ?_ | refine aw_seqr ?_ | refine aw_block ?_ | refine aw_true ?_ | refine aw_false ?_ | refine s_alloc (fun _ => ?_) | refine s_allocd (fun _ => ?_) | refine s_box (fun _ => ?_) | refine s_box1 (fun _ => ?_) | refine s_store' ?_ | (refine s_cmp (fun h => ?_) (fun h => ?_) <;> try (exfalso; omega)) | refine s_index i hx ?_ | refine s_call0 hc ?_ | refine s_call0 hb1 ?_ | refine s_add ?_))
        refine aw_ret ?_; (repeat (first | refine then_ret ?_ | refine inb_ret ?_))
        refine (post_of ⟨⟨i, true, rfl, i0, i1, ⟨cs, i2⟩, fun _ => .inr ⟨x, _, hd, hb, by rw [← hd]; exact hbeg⟩, (fun h => by cases h)⟩, rfl⟩ (by (repeat' (first | exact ResVs.nil | apply ResVs.cons | (apply ResV.tmp; first | exact (rfl : _ = AV.sc _) | exact (rfl : _ = AV.ag _) | exact (rfl : _ = AV.sl _ _) | exact (rfl : _ = AV.os _ _ _) | exact (rfl : _ = AV.fn _ _ _)) | (apply ResV.cells; rfl; apply Pick.mem; (repeat (first | exact Pick.here _ | apply Pick.there)); rfl; rfl; rfl; (first | rfl | simp only [ones, List.all_cons, List.all_nil, Bool.and_true, one_int, one_bool, one_str, one_ptr, one_slice, one_sl, one_os, *])) | (apply ResV.cell; rfl; apply Pick.mem; (repeat (first | exact Pick.here _ | apply Pick.there)); rfl; rfl; rfl)))) (by (repeat (first | exact Picks.nil _ | (apply Picks.cons; focus ((repeat (first | exact Pick.here _ | apply Pick.there)); (first | done | fail)))))))
      | true =>
        rw [hbeg] at hb1
        have hst := step_beg hbeg
        have hcm := sim_comment I a ha i i1 hbeg
        cases hcl : Lex.comLen 0 (a.data.toList.drop i) with
        | none =>
          rw [hcl] at hst hcm
          rw [show comRes i none = -1 from rfl] at hcm
          repeat (any_goals (first | refine s_at ?_ | refine s_skip ?_ | refine s_off ?_ | refine s_offn ?_ | refine s_move ?_ | refine s_assign ?_ | refine s_load ?_ | refine s_loade ?_ | refine s_loadd ?_ | refine s_pick1 ?_ | refine s_pick0 ?_ | refine s_pure ?_ | refine s_nil ?_ | refine aw_seq ?_ | refine aw_seqr ?_ | refine aw_block ?_ | refine aw_true ?_ | refine aw_false ?_ | refine s_alloc (fun _ => ?_) | refine s_allocd (fun _ => ?_) | refine s_box (fun _ => ?_) | refine s_box1 (fun _ => ?_) | refine s_store' ?_ | (refine s_cmp (fun h => ?_) (fun h => ?_) <;> try (exfalso; omega)) | refine s_index i hx ?_ | refine s_call0 hc ?_ | refine s_call0 hb1 ?_ | refine s_call0 hcm ?_ | refine s_add ?_))
          refine aw_ret ?_; (repeat (first | refine then_ret ?_ | refine inb_ret ?_))
          refine (post_of ⟨⟨i, false, rfl, i0, i1, ⟨cs, i2⟩, (fun h => by cases h), fun _ => ⟨by rw [hd]; simp, hst⟩⟩, rfl⟩ (by (repeat' (first | exact ResVs.nil | apply ResVs.cons | (apply ResV.tmp; first | exact (rfl : _ = AV.sc _) | exact (rfl : _ = AV.ag _) | exact (rfl : _ = AV.sl _ _) | exact (rfl : _ = AV.os _ _ _) | exact (rfl : _ = AV.fn _ _ _)) | (apply ResV.cells; rfl; apply Pick.mem; (repeat (first | exact Pick.here _ | apply Pick.there)); rfl; rfl; rfl; (first | rfl | simp only [ones, List.all_cons, List.all_nil, Bool.and_true, one_int, one_bool, one_str, one_ptr, one_slice, one_sl, one_os, *])) | (apply ResV.cell; rfl; apply Pick.mem; (repeat (first | exact Pick.here _ | apply Pick.there)); rfl; rfl; rfl)))) (by (repeat (first | exact Picks.nil _ | (apply Picks.cons; focus ((repeat (first | exact Pick.here _ | apply Pick.there)); (first | done | fail)))))))
        | some m =>
          rw [hcl] at hst hcm
          have hm := Lex.comLen_bounds _ _ _ hcl
          rw [List.length_drop, size_l] at hm
          rw [show comRes i (some m) = ((i + m : Nat) : Int) from rfl] at hcm
          repeat (any_goals (first | refine s_at ?_ | refine s_skip ?_ | refine s_off ?_ | refine s_offn ?_ | refine s_move ?_ | refine s_assign ?_ | refine s_load ?_ | refine s_loade ?_ | refine s_loadd ?_ | refine s_pick1 ?_ | refine s_pick0 ?_ | refine s_pure ?_ | refine s_nil ?_ | refine aw_seq ?_ | refine aw_seqr ?_ | refine aw_block ?_ | refine aw_true ?_ | refine aw_false ?_ | refine s_alloc (fun _ => ?_) | refine s_allocd (fun _ => ?_) | refine s_box (fun _ => ?_) | refine s_box1 (fun _ => ?_) | refine s_store' ?_ | (refine s_cmp (fun h => ?_) (fun h => ?_) <;> try (exfalso; omega)) | refine s_index i hx ?_ | refine s_call0 hc ?_ | refine s_call0 hb1 ?_ | refine s_call0 hcm ?_ | refine s_add ?_))
          refine d_end fun env' he => inb_nor (then_nor (rnd_end (i + m) (by (repeat (first | exact Picks.nil _ | (apply Picks.cons; focus ((repeat (first | exact Pick.here _ | apply Pick.there)); (first | done | fail)))))) ⟨by omega, by omega, cs ++ [(i, i + m)], ?_⟩ (by omega) (EnvLe.of_eq he (EnvLe.of_list (by intro x hx; simp only [List.mem_cons, List.not_mem_nil, or_false] at hx; (repeat (rcases hx with rfl | hx; (focus rfl))); (try (subst hx; rfl)))))))
          exact i2.trans (.comm hst (by rw [List.drop_drop]; exact .nil _ _))
  · obtain rfl : i = a.size := by omega
    have hd := drop_end (a := a) (i := a.size) (Nat.le_refl _)
    repeat (any_goals (first | refine s_at ?_ | refine s_skip ?_ | refine s_off ?_ | refine s_offn ?_ | refine s_move ?_ | refine s_assign ?_ | refine s_load ?_ | refine s_loade ?_ | refine s_loadd ?_ | refine s_pick1 ?_ | refine s_pick0 ?_ | refine s_pure ?_ | refine s_nil ?_ | refine aw_seq ?_ | refine aw_seqr ?_ | refine aw_block ?_ | refine aw_true ?_ | refine aw_false ?_ | refine s_alloc (fun _ => ?_) | refine s_allocd (fun _ => ?_) | refine s_box (fun _ => ?_) | refine s_box1 (fun _ => ?_) | refine s_store' ?_ | (refine s_cmp (fun h => ?_) (fun h => ?_) <;> try (exfalso; omega))))
    refine aw_exit ?_; (repeat refine then_exit ?_); refine inb_exit ?_; refine then_nor ?_
    repeat (any_goals (first | refine s_at ?_ | refine s_skip ?_ | refine s_off ?_ | refine s_offn ?_ | refine s_move ?_ | refine s_assign ?_ | refine s_load ?_ | refine s_loade ?_ | refine s_loadd ?_ | refine s_pick1 ?_ | refine s_pick0 ?_ | refine s_pure ?_ | refine s_nil ?_ | refine aw_seq ?_ | refine aw_seqr ?_ | refine aw_block ?_ | refine aw_true ?_ | refine aw_false ?_ | refine s_alloc (fun _ => ?_) | refine s_allocd (fun _ => ?_) | refine s_box (fun _ => ?_) | refine s_box1 (fun _ => ?_) | refine s_store' ?_))
    refine aw_ret ?_; (repeat (first | refine then_ret ?_ | refine inb_ret ?_))
    refine (post_of ⟨⟨a.size, true, rfl, i0, i1, ⟨cs, i2⟩, fun _ => .inl hd, (fun h => by cases h)⟩, rfl⟩ (by (repeat' (first | exact ResVs.nil | apply ResVs.cons | (apply ResV.tmp; first | exact (rfl : _ = AV.sc _) | exact (rfl : _ = AV.ag _) | exact (rfl : _ = AV.sl _ _) | exact (rfl : _ = AV.os _ _ _) | exact (rfl : _ = AV.fn _ _ _)) | (apply ResV.cells; rfl; apply Pick.mem; (repeat (first | exact Pick.here _ | apply Pick.there)); rfl; rfl; rfl; (first | rfl | simp only [ones, List.all_cons, List.all_nil, Bool.and_true, one_int, one_bool, one_str, one_ptr, one_slice, one_sl, one_os, *])) | (apply ResV.cell; rfl; apply Pick.mem; (repeat (first | exact Pick.here _ | apply Pick.there)); rfl; rfl; rfl)))) (by (repeat (first | exact Picks.nil _ | (apply Picks.cons; focus ((repeat (first | exact Pick.here _ | apply Pick.there)); (first | done | fail)))))))
end
end Go.Proofs.YtglgppkjgodlkaaGreatDoor.J
