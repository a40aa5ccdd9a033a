/- The reference of package lex, walked over deep values: Place, Strip. Conditions: none. -/
import Derived.Test.YtglgppkjgodlkaaGreatDoorJG
import Derived.Test.YtglgppkjgodlkaaGreatDoorLT4
namespace Go.Proofs.YtglgppkjgodlkaaGreatDoor.J
open Go.Dp Rl
set_option linter.unusedVariables false
set_option linter.unusedSimpArgs false
/-- The line and the column behind bytes. -/
def placeL (l : Lex.Bytes) : Nat × Nat := l.foldl (fun s c => if c = 10 then (s.1 + 1, 1) else (s.1, s.2 + 1)) (1, 1)
theorem placeL_snoc (l : Lex.Bytes) (c : UInt8) : placeL (l ++ [c]) = if c = 10 then ((placeL l).1 + 1, 1) else ((placeL l).1, (placeL l).2 + 1) := by
  unfold placeL
  rw [List.foldl_append]
  rfl
theorem place_from : ∀ (l : Lex.Bytes) (s : Nat × Nat), 1 ≤ s.2 → (l.foldl (fun s c => if c = 10 then (s.1 + 1, 1) else (s.1, s.2 + 1)) s).1 ≤ s.1 + l.length ∧ (l.foldl (fun (s : Nat × Nat) c => if c = 10 then (s.1 + 1, 1) else (s.1, s.2 + 1)) s).2 ≤ s.2 + l.length
  | [], s, _ => ⟨Nat.le_refl _, Nat.le_refl _⟩
  | c :: l, s, h => by
    rw [List.foldl_cons, List.length_cons]
    by_cases hc : c = 10
    · rw [if_pos hc]
      have := place_from l (s.1 + 1, 1) (Nat.le_refl _)
      dsimp only at this
      omega
    · rw [if_neg hc]
      have := place_from l (s.1, s.2 + 1) (by dsimp only; omega)
      dsimp only at this
      omega
theorem placeL_le (l : Lex.Bytes) : (placeL l).1 ≤ l.length + 1 ∧ (placeL l).2 ≤ l.length + 1 := by
  have := place_from l (1, 1) (Nat.le_refl _)
  unfold placeL
  dsimp only at this
  omega
/-- What Place returns. -/
def placeV (a : ByteArray) (at_ : Int) : AV := if at_ < 0 ∨ (a.size : Int) < at_ then .tu [i64 0, i64 0, i64 1] else .tu [i64 ((placeL (a.data.toList.take at_.toNat)).1 : Int), i64 ((placeL (a.data.toList.take at_.toNat)).2 : Int), i64 0]
/-- What Strip returns. -/
def stripV (r : Lex.Bytes × Nat) : AV := .tu [str (bs r.1), i64 (r.2 : Int)]
section
variable (I : World → Prop)
set_option maxRecDepth 20000 in set_option maxHeartbeats 4000000 in
theorem sim_RPlace (a : ByteArray) (ha : Small a) (at_ : Int) : Sim Tryz.prog I 32 [str a, i64 at_] [] (fun o τ => o = .ret (placeV a at_) ∧ τ = []) := by
  have ha' : a.size ≤ 140737488351232 := ha
  unfold placeV
  refine sim_body Tryz.func32 rfl rfl rfl ?_
  by_cases hbad : at_ < 0 ∨ (a.size : Int) < at_
  · rw [if_pos hbad]
    repeat (any_goals (first | refine s_at ?_ | refine s_skip ?_ | refine s_off ?_ | refine s_offn ?_ | refine s_move ?_ | refine s_assign ?_ | refine s_load ?_ | refine s_loade ?_ | refine s_loadd ?_ | refine s_pick1 ?_ | refine s_pick0 ?_ | refine s_pure ?_ | refine s_nil ?_ | refine aw_seq ?_ | refine aw_seqr ?_ | refine aw_block ?_ | refine aw_true ?_ | refine aw_false ?_ | refine s_alloc (fun _ => ?_) | refine s_allocd (fun _ => ?_) | refine s_box (fun _ => ?_) | refine s_box1 (fun _ => ?_) | refine s_store' ?_ | (refine s_cmp (fun h => ?_) (fun h => ?_) <;> try (exfalso; omega))))
    all_goals
      refine aw_ret ?_; (repeat (first | refine then_ret ?_ | refine inb_ret ?_))
      refine post_of ⟨?_, rfl⟩ (by (repeat' (first | exact ResVs.nil | apply ResVs.cons | (apply ResV.tmp; first | exact (rfl : _ = AV.sc _) | exact (rfl : _ = AV.ag _) | exact (rfl : _ = AV.sl _ _) | exact (rfl : _ = AV.os _ _ _) | exact (rfl : _ = AV.fn _ _ _)) | (apply ResV.cells; rfl; apply Pick.mem; (repeat (first | exact Pick.here _ | apply Pick.there)); rfl; rfl; rfl; (first | rfl | simp only [ones, List.all_cons, List.all_nil, Bool.and_true, one_int, one_bool, one_str, one_ptr, one_slice, one_sl, one_os, *])) | (apply ResV.cell; rfl; apply Pick.mem; (repeat (first | exact Pick.here _ | apply Pick.there)); rfl; rfl; rfl)))) (by (repeat (first | exact Picks.nil _ | (apply Picks.cons; focus ((repeat (first | exact Pick.here _ | apply Pick.there)); (first | done | fail))))))
      rfl
  · rw [if_neg hbad]
    obtain ⟨p, rfl⟩ : ∃ p : Nat, at_ = (p : Int) := ⟨at_.toNat, by omega⟩
    rw [Int.toNat_natCast]
    repeat (any_goals (first | refine s_at ?_ | refine s_skip ?_ | refine s_off ?_ | refine s_offn ?_ | refine s_move ?_ | refine s_assign ?_ | refine s_load ?_ | refine s_loade ?_ | refine s_loadd ?_ | refine s_pick1 ?_ | refine s_pick0 ?_ | refine s_pure ?_ | refine s_nil ?_ | refine aw_seq ?_ | refine aw_seqr ?_ | refine aw_block ?_ | refine aw_true ?_ | refine aw_false ?_ | refine s_alloc (fun _ => ?_) | refine s_allocd (fun _ => ?_) | refine s_box (fun _ => ?_) | refine s_box1 (fun _ => ?_) | refine s_store' ?_ | (refine s_cmp (fun h => ?_) (fun h => ?_) <;> try (exfalso; omega))))
    refine aw_loop (fun i : Nat => [(0, str a), (1, i64 (p : Int)), (7, i64 ((placeL (a.data.toList.take i)).1 : Int)), (8, i64 ((placeL (a.data.toList.take i)).2 : Int)), (9, i64 (i : Int))]) (fun _ => [])
      (fun i => i ≤ p) (fun i => p - i) 0 (Nat.zero_le _) (EnvLe.of_list (by intro x hx; simp only [List.mem_cons, List.not_mem_nil, or_false] at hx; (repeat (rcases hx with rfl | hx; (focus rfl))); (try (subst hx; rfl)))) [] (List.Perm.refl _) ?_
    intro i i1
    try dsimp only at i1
    by_cases hi : i < p
    · obtain ⟨x, hx, hd⟩ := drop_at (a := a) (i := i) (by omega)
      have hts : a.data.toList.take (i + 1) = a.data.toList.take i ++ [x] := by rw [List.take_add_one, hx]; rfl
      have hpl := placeL_le (a.data.toList.take i)
      have hln : (a.data.toList.take i).length ≤ i := by rw [List.length_take]; omega
      have hsn := placeL_snoc (a.data.toList.take i) x
      rw [← hts] at hsn
      by_cases h10 : x = 10
      · have h10' : ((x.toNat : Nat) : Int) = 10 := by rw [h10]; rfl
        rw [if_pos h10] at hsn
        repeat (any_goals (first | refine s_at ?_ | refine s_skip ?_ | refine s_off ?_ | refine s_offn ?_ | refine s_move ?_ | refine s_assign ?_ | refine s_load ?_ | refine s_loade ?_ | refine s_loadd ?_ | refine s_pick1 ?_ | refine s_pick0 ?_ | refine s_pure ?_ | refine s_nil ?_ | refine aw_seq ?_ | refine aw_seqr ?_ | refine aw_block ?_ | refine aw_true ?_ | refine aw_false ?_ | refine s_alloc (fun _ => ?_) | refine s_allocd (fun _ => ?_) | refine s_box (fun _ => ?_) | refine s_box1 (fun _ => ?_) | refine s_store' ?_ | (refine s_cmp (fun h => ?_) (fun h => ?_) <;> try (exfalso; first | omega | exact h h10')) | refine s_index i hx ?_ | refine s_add ?_))
        refine d_end fun env' he => ?_
        (repeat (first | refine inb_nor ?_ | refine then_nor ?_))
        refine ⟨i + 1, _, by omega, by omega, EnvLe.of_eq he ?_, Picks.perm (by (repeat (first | exact Picks.nil _ | (apply Picks.cons; focus ((repeat (first | exact Pick.here _ | apply Pick.there)); (first | done | fail))))))⟩
        rw [hsn]
        exact (EnvLe.of_list (by intro x hx; simp only [List.mem_cons, List.not_mem_nil, or_false] at hx; (repeat (rcases hx with rfl | hx; (focus rfl))); (try (subst hx; rfl))))
      · have h10' : ¬ ((x.toNat : Nat) : Int) = 10 := fun h => h10 (byte_eq (c := 10) |>.1 h)
        rw [if_neg h10] at hsn
        repeat (any_goals (first | refine s_at ?_ | refine s_skip ?_ | refine s_off ?_ | refine s_offn ?_ | refine s_move ?_ | refine s_assign ?_ | refine s_load ?_ | refine s_loade ?_ | refine s_loadd ?_ | refine s_pick1 ?_ | refine s_pick0 ?_ | refine s_pure ?_ | refine s_nil ?_ | refine aw_seq ?_ | refine aw_seqr ?_ | refine aw_block ?_ | refine aw_true ?_ | refine aw_false ?_ | refine s_alloc (fun _ => ?_) | refine s_allocd (fun _ => ?_) | refine s_box (fun _ => ?_) | refine s_box1 (fun _ => ?_) | refine s_store' ?_ | (refine s_cmp (fun h => ?_) (fun h => ?_) <;> try (exfalso; first | omega | exact h10' h)) | refine s_index i hx ?_ | refine s_add ?_))
        refine d_end fun env' he => ?_
        (repeat (first | refine inb_nor ?_ | refine then_nor ?_))
        refine ⟨i + 1, _, by omega, by omega, EnvLe.of_eq he ?_, Picks.perm (by (repeat (first | exact Picks.nil _ | (apply Picks.cons; focus ((repeat (first | exact Pick.here _ | apply Pick.there)); (first | done | fail))))))⟩
        rw [hsn]
        exact (EnvLe.of_list (by intro x hx; simp only [List.mem_cons, List.not_mem_nil, or_false] at hx; (repeat (rcases hx with rfl | hx; (focus rfl))); (try (subst hx; rfl))))
    · obtain rfl : i = p := by omega
      repeat (any_goals (first | refine s_at ?_ | refine s_skip ?_ | refine s_off ?_ | refine s_offn ?_ | refine s_move ?_ | refine s_assign ?_ | refine s_load ?_ | refine s_loade ?_ | refine s_loadd ?_ | refine s_pick1 ?_ | refine s_pick0 ?_ | refine s_pure ?_ | refine s_nil ?_ | refine aw_seq ?_ | refine aw_seqr ?_ | refine aw_block ?_ | refine aw_true ?_ | refine aw_false ?_ | refine s_alloc (fun _ => ?_) | refine s_allocd (fun _ => ?_) | refine s_box (fun _ => ?_) | refine s_box1 (fun _ => ?_) | refine s_store' ?_ | (refine s_cmp (fun h => ?_) (fun h => ?_) <;> try (exfalso; omega))))
      refine aw_exit ?_; (repeat refine then_exit ?_); refine inb_exit ?_; refine then_nor ?_
      repeat (any_goals (first | refine s_at ?_ | refine s_skip ?_ | refine s_off ?_ | refine s_offn ?_ | refine s_move ?_ | refine s_assign ?_ | refine s_load ?_ | refine s_loade ?_ | refine s_loadd ?_ | refine s_pick1 ?_ | refine s_pick0 ?_ | refine s_pure ?_ | refine s_nil ?_ | refine aw_seq ?_ | refine aw_seqr ?_ | refine aw_block ?_ | refine aw_true ?_ | refine aw_false ?_ | refine s_alloc (fun _ => ?_) | refine s_allocd (fun _ => ?_) | refine s_box (fun _ => ?_) | refine s_box1 (fun _ => ?_) | refine s_store' ?_))
      refine aw_ret ?_; (repeat (first | refine then_ret ?_ | refine inb_ret ?_))
      refine post_of ⟨?_, rfl⟩ (by (repeat' (first | exact ResVs.nil | apply ResVs.cons | (apply ResV.tmp; first | exact (rfl : _ = AV.sc _) | exact (rfl : _ = AV.ag _) | exact (rfl : _ = AV.sl _ _) | exact (rfl : _ = AV.os _ _ _) | exact (rfl : _ = AV.fn _ _ _)) | (apply ResV.cells; rfl; apply Pick.mem; (repeat (first | exact Pick.here _ | apply Pick.there)); rfl; rfl; rfl; (first | rfl | simp only [ones, List.all_cons, List.all_nil, Bool.and_true, one_int, one_bool, one_str, one_ptr, one_slice, one_sl, one_os, *])) | (apply ResV.cell; rfl; apply Pick.mem; (repeat (first | exact Pick.here _ | apply Pick.there)); rfl; rfl; rfl)))) (by (repeat (first | exact Picks.nil _ | (apply Picks.cons; focus ((repeat (first | exact Pick.here _ | apply Pick.there)); (first | done | fail))))))
      rfl
end
end Go.Proofs.YtglgppkjgodlkaaGreatDoor.J
