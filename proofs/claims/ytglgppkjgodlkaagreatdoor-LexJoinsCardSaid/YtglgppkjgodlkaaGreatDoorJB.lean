/- The reference of package lex, walked over deep values: lists of texts, names, comments. Conditions: none. -/
import Derived.Test.YtglgppkjgodlkaaGreatDoorJA
namespace Go.Proofs.YtglgppkjgodlkaaGreatDoor.J
open Go.Dp
set_option linter.unusedVariables false
set_option linter.unusedSimpArgs false
theorem drop_at {a : ByteArray} {i : Nat} (hi : i < a.size) : ∃ c, a.data.toList[i]? = some c ∧ a.data.toList.drop i = c :: a.data.toList.drop (i + 1) := by
  have h : i < a.data.toList.length := by rw [size_l]; exact hi
  exact ⟨_, List.getElem?_eq_getElem h, List.drop_eq_getElem_cons h⟩
theorem drop_end {a : ByteArray} {i : Nat} (hi : a.size ≤ i) : a.data.toList.drop i = [] := List.drop_of_length_le (by rw [size_l]; exact hi)
theorem ext_l (a : ByteArray) (l h : Nat) : (a.extract l h).data.toList = (a.data.toList.take h).drop l := by
  simp [ByteArray.data_extract, Array.toList_extract, List.extract_eq_take_drop, List.drop_take]
theorem bytes_eq {a b : ByteArray} : a = b ↔ a.data.toList = b.data.toList := ⟨fun h => by rw [h], fun h => by
  cases a; cases b; simp at h; rw [h]⟩
theorem bs_l (l : Lex.Bytes) : (bs l).data.toList = l := rfl
theorem bs_size (l : Lex.Bytes) : (bs l).size = l.length := by rw [← size_l, bs_l]
/-- The cells of a list of texts. -/
def sl (L : List Lex.Bytes) : List AV := L.map fun l => str (bs l)
theorem sl_length (L : List Lex.Bytes) : (sl L).length = L.length := List.length_map ..
theorem sl_get {L : List Lex.Bytes} {i : Nat} {l : Lex.Bytes} (h : L[i]? = some l) : (sl L)[i]? = some (str (bs l)) := by rw [sl, List.getElem?_map, h]; rfl
section
variable (I : World → Prop)
set_option maxRecDepth 20000 in set_option maxHeartbeats 4000000 in
theorem sim_symbols (s : ByteArray) (hs : Small s) : Sim Tryz.prog I 91 [str s] [] (fun o τ => o = .ret (boo (s.data.toList.all Lex.isSym)) ∧ τ = []) := by
  have hs' : s.size ≤ 140737488351232 := hs
  refine sim_body Tryz.func91 rfl rfl rfl ?_
  repeat (any_goals (first | refine s_at ?_ | refine s_skip ?_ | refine s_off ?_ | refine s_offn ?_ | refine s_move ?_ | refine s_assign ?_ | refine s_load ?_ | refine s_loade ?_ | refine s_loadd ?_ | refine s_pick1 ?_ | refine s_pick0 ?_ | refine s_pure ?_ | refine s_nil ?_ | refine aw_seq ?_ | refine aw_seqr ?_ | refine aw_block ?_ | refine aw_true ?_ | refine aw_false ?_ | refine s_alloc (fun _ => ?_) | refine s_allocd (fun _ => ?_) | refine s_box (fun _ => ?_) | refine s_box1 (fun _ => ?_) | refine s_store' ?_))
  refine aw_loop (fun i : Nat => [(0, str s), (3, i64 (i : Int))]) (fun _ => []) (fun i => i ≤ s.size ∧ (s.data.toList.drop i).all Lex.isSym = s.data.toList.all Lex.isSym) (fun i => s.size - i) 0 ⟨by omega, rfl⟩ (EnvLe.of_list (by intro x hx; simp only [List.mem_cons, List.not_mem_nil, or_false] at hx; (repeat (rcases hx with rfl | hx; (focus rfl))); (try (subst hx; rfl)))) [] (List.Perm.refl _) ?_
  rintro i ⟨i1, i2⟩
  by_cases hi : i < s.size
  · obtain ⟨x, hx, hd⟩ := drop_at hi
    rw [hd, List.all_cons] at i2
    cases hb : Lex.isSym x with
    | false =>
      have hc := sim_Symbol I x
      rw [hb] at hc i2
      repeat (any_goals (first | refine s_at ?_ | refine s_skip ?_ | refine s_off ?_ | refine s_offn ?_ | refine s_move ?_ | refine s_assign ?_ | refine s_load ?_ | refine s_loade ?_ | refine s_loadd ?_ | refine s_pick1 ?_ | refine s_pick0 ?_ | refine s_pure ?_ | refine s_nil ?_ | refine aw_seq ?_ | refine aw_seqr ?_ | refine aw_block ?_ | refine aw_true ?_ | refine aw_false ?_ | refine s_alloc (fun _ => ?_) | refine s_allocd (fun _ => ?_) | refine s_box (fun _ => ?_) | refine s_box1 (fun _ => ?_) | refine s_store' ?_ | refine s_index i hx ?_ | (refine s_cmp (fun h => ?_) (fun h => ?_) <;> try (exfalso; omega)) | refine s_call0 hc ?_))
      refine aw_ret ?_; (repeat (first | refine then_ret ?_ | refine inb_ret ?_))
      refine (post_of ⟨ret_boo ?_, rfl⟩ (by (repeat' (first | exact ResVs.nil | apply ResVs.cons | (apply ResV.tmp; first | exact (rfl : _ = AV.sc _) | exact (rfl : _ = AV.ag _) | exact (rfl : _ = AV.sl _ _) | exact (rfl : _ = AV.os _ _ _) | exact (rfl : _ = AV.fn _ _ _)) | (apply ResV.cells; rfl; apply Pick.mem; (repeat (first | exact Pick.here _ | apply Pick.there)); rfl; rfl; rfl; (first | rfl | simp only [ones, List.all_cons, List.all_nil, Bool.and_true, one_int, one_bool, one_str, one_ptr, one_slice, one_sl, one_os, *])) | (apply ResV.cell; rfl; apply Pick.mem; (repeat (first | exact Pick.here _ | apply Pick.there)); rfl; rfl; rfl)))) (by (repeat (first | exact Picks.nil _ | (apply Picks.cons; focus ((repeat (first | exact Pick.here _ | apply Pick.there)); (first | done | fail)))))))
      rw [← i2]; rfl
    | true =>
      have hc := sim_Symbol I x
      rw [hb] at hc i2
      repeat (any_goals (first | refine s_at ?_ | refine s_skip ?_ | refine s_off ?_ | refine s_offn ?_ | refine s_move ?_ | refine s_assign ?_ | refine s_load ?_ | refine s_loade ?_ | refine s_loadd ?_ | refine s_pick1 ?_ | refine s_pick0 ?_ | refine s_pure ?_ | refine s_nil ?_ | refine aw_seq ?_ | refine aw_seqr ?_ | refine aw_block ?_ | refine aw_true ?_ | refine aw_false ?_ | refine s_alloc (fun _ => ?_) | refine s_allocd (fun _ => ?_) | refine s_box (fun _ => ?_) | refine s_box1 (fun _ => ?_) | refine s_store' ?_ | refine s_index i hx ?_ | (refine s_cmp (fun h => ?_) (fun h => ?_) <;> try (exfalso; omega)) | refine s_call0 hc ?_ | refine s_add ?_))
      refine d_end fun env' he => (then_nor (rnd_end (i + 1) (by (repeat (first | exact Picks.nil _ | (apply Picks.cons; focus ((repeat (first | exact Pick.here _ | apply Pick.there)); (first | done | fail)))))) ⟨by omega, ?_⟩ (by omega) (EnvLe.of_eq he (EnvLe.of_list (by intro x hx; simp only [List.mem_cons, List.not_mem_nil, or_false] at hx; (repeat (rcases hx with rfl | hx; (focus rfl))); (try (subst hx; rfl)))))))
      rw [← i2, Bool.true_and]
  · rw [drop_end (by omega)] at i2
    repeat (any_goals (first | refine s_at ?_ | refine s_skip ?_ | refine s_off ?_ | refine s_offn ?_ | refine s_move ?_ | refine s_assign ?_ | refine s_load ?_ | refine s_loade ?_ | refine s_loadd ?_ | refine s_pick1 ?_ | refine s_pick0 ?_ | refine s_pure ?_ | refine s_nil ?_ | refine aw_seq ?_ | refine aw_seqr ?_ | refine aw_block ?_ | refine aw_true ?_ | refine aw_false ?_ | refine s_alloc (fun _ => ?_) | refine s_allocd (fun _ => ?_) | refine s_box (fun _ => ?_) | refine s_box1 (fun _ => ?_) | refine s_store' ?_ | (refine s_cmp (fun h => ?_) (fun h => ?_) <;> try (exfalso; omega))))
    refine aw_exit ?_; (repeat refine then_exit ?_); refine inb_exit ?_; refine then_nor ?_
    repeat (any_goals (first | refine s_at ?_ | refine s_skip ?_ | refine s_off ?_ | refine s_offn ?_ | refine s_move ?_ | refine s_assign ?_ | refine s_load ?_ | refine s_loade ?_ | refine s_loadd ?_ | refine s_pick1 ?_ | refine s_pick0 ?_ | refine s_pure ?_ | refine s_nil ?_ | refine aw_seq ?_ | refine aw_seqr ?_ | refine aw_block ?_ | refine aw_true ?_ | refine aw_false ?_ | refine s_alloc (fun _ => ?_) | refine s_allocd (fun _ => ?_) | refine s_box (fun _ => ?_) | refine s_box1 (fun _ => ?_) | refine s_store' ?_))
    refine aw_ret ?_; (repeat (first | refine then_ret ?_ | refine inb_ret ?_))
    refine (post_of ⟨ret_boo ?_, rfl⟩ (by (repeat' (first | exact ResVs.nil | apply ResVs.cons | (apply ResV.tmp; first | exact (rfl : _ = AV.sc _) | exact (rfl : _ = AV.ag _) | exact (rfl : _ = AV.sl _ _) | exact (rfl : _ = AV.os _ _ _) | exact (rfl : _ = AV.fn _ _ _)) | (apply ResV.cells; rfl; apply Pick.mem; (repeat (first | exact Pick.here _ | apply Pick.there)); rfl; rfl; rfl; (first | rfl | simp only [ones, List.all_cons, List.all_nil, Bool.and_true, one_int, one_bool, one_str, one_ptr, one_slice, one_sl, one_os, *])) | (apply ResV.cell; rfl; apply Pick.mem; (repeat (first | exact Pick.here _ | apply Pick.there)); rfl; rfl; rfl)))) (by (repeat (first | exact Picks.nil _ | (apply Picks.cons; focus ((repeat (first | exact Pick.here _ | apply Pick.there)); (first | done | fail)))))))
    rw [← i2]; rfl
theorem prefix_cut {s l : Lex.Bytes} (h : s.length ≤ l.length) : (l.take s.length = s) ↔ s.isPrefixOf l = true := by
  rw [List.isPrefixOf_iff_prefix, List.prefix_iff_eq_take]
  exact eq_comm
theorem prefix_long {s l : Lex.Bytes} (h : l.length < s.length) : s.isPrefixOf l = false := by
  cases hb : s.isPrefixOf l with
  | false => rfl
  | true => exact absurd (List.isPrefixOf_iff_prefix.1 hb).length_le (by omega)
set_option maxRecDepth 20000 in set_option maxHeartbeats 4000000 in
theorem sim_begins (a : ByteArray) (i : Nat) (s : ByteArray) (ha : Small a) (hs : Small s) (hi : i ≤ a.size) : Sim Tryz.prog I 65 [str a, i64 (i : Int), str s] [] (fun o τ => o = .ret (boo (s.data.toList.isPrefixOf (a.data.toList.drop i))) ∧ τ = []) := by
  have ha' : a.size ≤ 140737488351232 := ha
  have hs' : s.size ≤ 140737488351232 := hs
  have hl : (a.data.toList.drop i).length = a.size - i := by rw [List.length_drop, size_l]
  refine sim_body Tryz.func65 rfl rfl rfl ?_
  by_cases hc : s.size ≤ a.size - i
  · have key : (a.extract i (i + s.size) = s) ↔ s.data.toList.isPrefixOf (a.data.toList.drop i) = true := by
      rw [← prefix_cut (by rw [hl, size_l]; exact hc), bytes_eq, ext_l, size_l, List.drop_take, show i + s.size - i = s.size by omega]
    repeat (any_goals (first | refine s_at ?_ | refine s_skip ?_ | refine s_off ?_ | refine s_offn ?_ | refine s_move ?_ | refine s_assign ?_ | refine s_load ?_ | refine s_loade ?_ | refine s_loadd ?_ | refine s_pick1 ?_ | refine s_pick0 ?_ | refine s_pure ?_ | refine s_nil ?_ | refine aw_seq ?_ | refine aw_seqr ?_ | refine aw_block ?_ | refine aw_true ?_ | refine aw_false ?_ | refine s_alloc (fun _ => ?_) | refine s_allocd (fun _ => ?_) | refine s_box (fun _ => ?_) | refine s_box1 (fun _ => ?_) | refine s_store' ?_ | (refine s_cmp (fun h => ?_) (fun h => ?_) <;> try (exfalso; omega)) | refine s_sub ?_ | refine s_add ?_ | refine s_cut i (i + s.size) ?_ | refine s_cmps (fun h => ?_) (fun h => ?_)))
    · refine aw_ret ?_; (repeat (first | refine then_ret ?_ | refine inb_ret ?_))
      exact (post_of ⟨ret_boo (key.1 h).symm, rfl⟩ (by (repeat' (first | exact ResVs.nil | apply ResVs.cons | (apply ResV.tmp; first | exact (rfl : _ = AV.sc _) | exact (rfl : _ = AV.ag _) | exact (rfl : _ = AV.sl _ _) | exact (rfl : _ = AV.os _ _ _) | exact (rfl : _ = AV.fn _ _ _)) | (apply ResV.cells; rfl; apply Pick.mem; (repeat (first | exact Pick.here _ | apply Pick.there)); rfl; rfl; rfl; (first | rfl | simp only [ones, List.all_cons, List.all_nil, Bool.and_true, one_int, one_bool, one_str, one_ptr, one_slice, one_sl, one_os, *])) | (apply ResV.cell; rfl; apply Pick.mem; (repeat (first | exact Pick.here _ | apply Pick.there)); rfl; rfl; rfl)))) (by (repeat (first | exact Picks.nil _ | (apply Picks.cons; focus ((repeat (first | exact Pick.here _ | apply Pick.there)); (first | done | fail)))))))
    · refine aw_ret ?_; (repeat (first | refine then_ret ?_ | refine inb_ret ?_))
      refine (post_of ⟨ret_boo ?_, rfl⟩ (by (repeat' (first | exact ResVs.nil | apply ResVs.cons | (apply ResV.tmp; first | exact (rfl : _ = AV.sc _) | exact (rfl : _ = AV.ag _) | exact (rfl : _ = AV.sl _ _) | exact (rfl : _ = AV.os _ _ _) | exact (rfl : _ = AV.fn _ _ _)) | (apply ResV.cells; rfl; apply Pick.mem; (repeat (first | exact Pick.here _ | apply Pick.there)); rfl; rfl; rfl; (first | rfl | simp only [ones, List.all_cons, List.all_nil, Bool.and_true, one_int, one_bool, one_str, one_ptr, one_slice, one_sl, one_os, *])) | (apply ResV.cell; rfl; apply Pick.mem; (repeat (first | exact Pick.here _ | apply Pick.there)); rfl; rfl; rfl)))) (by (repeat (first | exact Picks.nil _ | (apply Picks.cons; focus ((repeat (first | exact Pick.here _ | apply Pick.there)); (first | done | fail)))))))
      cases hb : s.data.toList.isPrefixOf (a.data.toList.drop i) with
      | false => rfl
      | true => exact absurd (key.2 hb) h
  · repeat (any_goals (first | refine s_at ?_ | refine s_skip ?_ | refine s_off ?_ | refine s_offn ?_ | refine s_move ?_ | refine s_assign ?_ | refine s_load ?_ | refine s_loade ?_ | refine s_loadd ?_ | refine s_pick1 ?_ | refine s_pick0 ?_ | refine s_pure ?_ | refine s_nil ?_ | refine aw_seq ?_ | refine aw_seqr ?_ | refine aw_block ?_ | refine aw_true ?_ | refine aw_false ?_ | refine s_alloc (fun _ => ?_) | refine s_allocd (fun _ => ?_) | refine s_box (fun _ => ?_) | refine s_box1 (fun _ => ?_) | refine s_store' ?_ | (refine s_cmp (fun h => ?_) (fun h => ?_) <;> try (exfalso; omega)) | refine s_sub ?_ | refine s_add ?_ | refine s_cut i (i + s.size) ?_ | refine s_cmps (fun h => ?_) (fun h => ?_)))
    refine aw_ret ?_; (repeat (first | refine then_ret ?_ | refine inb_ret ?_))
    refine (post_of ⟨ret_boo ?_, rfl⟩ (by (repeat' (first | exact ResVs.nil | apply ResVs.cons | (apply ResV.tmp; first | exact (rfl : _ = AV.sc _) | exact (rfl : _ = AV.ag _) | exact (rfl : _ = AV.sl _ _) | exact (rfl : _ = AV.os _ _ _) | exact (rfl : _ = AV.fn _ _ _)) | (apply ResV.cells; rfl; apply Pick.mem; (repeat (first | exact Pick.here _ | apply Pick.there)); rfl; rfl; rfl; (first | rfl | simp only [ones, List.all_cons, List.all_nil, Bool.and_true, one_int, one_bool, one_str, one_ptr, one_slice, one_sl, one_os, *])) | (apply ResV.cell; rfl; apply Pick.mem; (repeat (first | exact Pick.here _ | apply Pick.there)); rfl; rfl; rfl)))) (by (repeat (first | exact Picks.nil _ | (apply Picks.cons; focus ((repeat (first | exact Pick.here _ | apply Pick.there)); (first | done | fail)))))))
    exact (prefix_long (by rw [hl, size_l]; omega)).symm
set_option maxRecDepth 20000 in set_option maxHeartbeats 4000000 in
theorem sim_In (L : List Lex.Bytes) (hL : L.length ≤ 1000) (s : ByteArray) : Sim Tryz.prog I 68 [.sl 1 (sl L), str s] [] (fun o τ => o = .ret (boo (L.contains s.data.toList)) ∧ τ = []) := by
  have hlen := sl_length L
  refine sim_body Tryz.func68 rfl rfl rfl ?_
  repeat (any_goals (first | refine s_at ?_ | refine s_skip ?_ | refine s_off ?_ | refine s_offn ?_ | refine s_move ?_ | refine s_assign ?_ | refine s_load ?_ | refine s_loade ?_ | refine s_loadd ?_ | refine s_pick1 ?_ | refine s_pick0 ?_ | refine s_pure ?_ | refine s_nil ?_ | refine aw_seq ?_ | refine aw_seqr ?_ | refine aw_block ?_ | refine aw_true ?_ | refine aw_false ?_ | refine s_alloc (fun _ => ?_) | refine s_allocd (fun _ => ?_) | refine s_box (fun _ => ?_) | refine s_box1 (fun _ => ?_) | refine s_store' ?_))
  refine aw_loop (fun i : Nat => [(0, .sl 1 (sl L)), (1, str s), (5, i64 (i : Int))]) (fun _ => []) (fun i => i ≤ L.length ∧ (L.drop i).contains s.data.toList = L.contains s.data.toList) (fun i => L.length - i) 0 ⟨by omega, rfl⟩ (EnvLe.of_list (by intro x hx; simp only [List.mem_cons, List.not_mem_nil, or_false] at hx; (repeat (rcases hx with rfl | hx; (focus rfl))); (try (subst hx; rfl)))) [] (List.Perm.refl _) ?_
  rintro i ⟨i1, i2⟩
  by_cases hi : i < L.length
  · have hx : L[i]? = some (L[i]'hi) := List.getElem?_eq_getElem hi
    rw [List.drop_eq_getElem_cons hi, List.contains_cons] at i2
    generalize L[i]'hi = x at hx i2
    repeat (any_goals (first | refine s_at ?_ | refine s_skip ?_ | refine s_off ?_ | refine s_offn ?_ | refine s_move ?_ | refine s_assign ?_ | refine s_load ?_ | refine s_loade ?_ | refine s_loadd ?_ | refine s_pick1 ?_ | refine s_pick0 ?_ | refine s_pure ?_ | refine s_nil ?_ | refine aw_seq ?_ | refine aw_seqr ?_ | refine aw_block ?_ | refine aw_true ?_ | refine aw_false ?_ | refine s_alloc (fun _ => ?_) | refine s_allocd (fun _ => ?_) | refine s_box (fun _ => ?_) | refine s_box1 (fun _ => ?_) | refine s_store' ?_ | refine s_elem i (sl_get hx) ?_ | (refine s_cmp (fun h => ?_) (fun h => ?_) <;> try (exfalso; omega)) | refine s_cmps (fun h => ?_) (fun h => ?_) | refine s_add ?_))
    · refine aw_ret ?_; (repeat (first | refine then_ret ?_ | refine inb_ret ?_))
      refine (post_of ⟨ret_boo ?_, rfl⟩ (by (repeat' (first | exact ResVs.nil | apply ResVs.cons | (apply ResV.tmp; first | exact (rfl : _ = AV.sc _) | exact (rfl : _ = AV.ag _) | exact (rfl : _ = AV.sl _ _) | exact (rfl : _ = AV.os _ _ _) | exact (rfl : _ = AV.fn _ _ _)) | (apply ResV.cells; rfl; apply Pick.mem; (repeat (first | exact Pick.here _ | apply Pick.there)); rfl; rfl; rfl; (first | rfl | simp only [ones, List.all_cons, List.all_nil, Bool.and_true, one_int, one_bool, one_str, one_ptr, one_slice, one_sl, one_os, *])) | (apply ResV.cell; rfl; apply Pick.mem; (repeat (first | exact Pick.here _ | apply Pick.there)); rfl; rfl; rfl)))) (by (repeat (first | exact Picks.nil _ | (apply Picks.cons; focus ((repeat (first | exact Pick.here _ | apply Pick.there)); (first | done | fail)))))))
      rw [← i2, ← h, bs_l]
      simp
    · refine d_end fun env' he => (then_nor (rnd_end (i + 1) (by (repeat (first | exact Picks.nil _ | (apply Picks.cons; focus ((repeat (first | exact Pick.here _ | apply Pick.there)); (first | done | fail)))))) ⟨by omega, ?_⟩ (by omega) (EnvLe.of_eq he (EnvLe.of_list (by intro x hx; simp only [List.mem_cons, List.not_mem_nil, or_false] at hx; (repeat (rcases hx with rfl | hx; (focus rfl))); (try (subst hx; rfl)))))))
      rw [← i2, show (s.data.toList == x) = false from beq_eq_false_iff_ne.2 (fun e => h (bytes_eq.2 (by rw [bs_l, e]))), Bool.false_or]
  · rw [List.drop_of_length_le (by omega)] at i2
    repeat (any_goals (first | refine s_at ?_ | refine s_skip ?_ | refine s_off ?_ | refine s_offn ?_ | refine s_move ?_ | refine s_assign ?_ | refine s_load ?_ | refine s_loade ?_ | refine s_loadd ?_ | refine s_pick1 ?_ | refine s_pick0 ?_ | refine s_pure ?_ | refine s_nil ?_ | refine aw_seq ?_ | refine aw_seqr ?_ | refine aw_block ?_ | refine aw_true ?_ | refine aw_false ?_ | refine s_alloc (fun _ => ?_) | refine s_allocd (fun _ => ?_) | refine s_box (fun _ => ?_) | refine s_box1 (fun _ => ?_) | refine s_store' ?_ | (refine s_cmp (fun h => ?_) (fun h => ?_) <;> try (exfalso; omega))))
    refine aw_exit ?_; (repeat refine then_exit ?_); refine inb_exit ?_; refine then_nor ?_
    repeat (any_goals (first | refine s_at ?_ | refine s_skip ?_ | refine s_off ?_ | refine s_offn ?_ | refine s_move ?_ | refine s_assign ?_ | refine s_load ?_ | refine s_loade ?_ | refine s_loadd ?_ | refine s_pick1 ?_ | refine s_pick0 ?_ | refine s_pure ?_ | refine s_nil ?_ | refine aw_seq ?_ | refine aw_seqr ?_ | refine aw_block ?_ | refine aw_true ?_ | refine aw_false ?_ | refine s_alloc (fun _ => ?_) | refine s_allocd (fun _ => ?_) | refine s_box (fun _ => ?_) | refine s_box1 (fun _ => ?_) | refine s_store' ?_))
    refine aw_ret ?_; (repeat (first | refine then_ret ?_ | refine inb_ret ?_))
    refine (post_of ⟨ret_boo ?_, rfl⟩ (by (repeat' (first | exact ResVs.nil | apply ResVs.cons | (apply ResV.tmp; first | exact (rfl : _ = AV.sc _) | exact (rfl : _ = AV.ag _) | exact (rfl : _ = AV.sl _ _) | exact (rfl : _ = AV.os _ _ _) | exact (rfl : _ = AV.fn _ _ _)) | (apply ResV.cells; rfl; apply Pick.mem; (repeat (first | exact Pick.here _ | apply Pick.there)); rfl; rfl; rfl; (first | rfl | simp only [ones, List.all_cons, List.all_nil, Bool.and_true, one_int, one_bool, one_str, one_ptr, one_slice, one_sl, one_os, *])) | (apply ResV.cell; rfl; apply Pick.mem; (repeat (first | exact Pick.here _ | apply Pick.there)); rfl; rfl; rfl)))) (by (repeat (first | exact Picks.nil _ | (apply Picks.cons; focus ((repeat (first | exact Pick.here _ | apply Pick.there)); (first | done | fail)))))))
    rw [← i2]; rfl
set_option maxRecDepth 20000 in set_option maxHeartbeats 4000000 in
theorem sim_Words : Sim Tryz.prog I 20 [] [] (fun o τ => o = .ret (.sl 1 (sl Lex.wordsL)) ∧ τ = []) := by
  refine sim_body' Tryz.func20 rfl rfl rfl ?_
  repeat (any_goals (first | refine s_at ?_ | refine s_skip ?_ | refine s_off ?_ | refine s_offn ?_ | refine s_move ?_ | refine s_assign ?_ | refine s_load ?_ | refine s_loade ?_ | refine s_loadd ?_ | refine s_pick1 ?_ | refine s_pick0 ?_ | refine s_pure ?_ | refine s_nil ?_ | refine aw_seq ?_ | refine aw_seqr ?_ | refine aw_block ?_ | refine aw_true ?_ | refine aw_false ?_ | refine s_alloc (fun _ => ?_) | refine s_allocd (fun _ => ?_) | refine s_box (fun _ => ?_) | refine s_box1 (fun _ => ?_) | refine s_store' ?_ | refine s_lit (fun kk => ?_)))
  refine aw_ret ?_; (repeat (first | refine then_ret ?_ | refine inb_ret ?_))
  refine post_of ⟨_, .ret _ _ ?_, rfl, rfl⟩ (by (repeat' (first | exact ResVs.nil | apply ResVs.cons | (apply ResV.tmp; first | exact (rfl : _ = AV.sc _) | exact (rfl : _ = AV.ag _) | exact (rfl : _ = AV.sl _ _) | exact (rfl : _ = AV.os _ _ _) | exact (rfl : _ = AV.fn _ _ _)) | (apply ResV.cells; rfl; apply Pick.mem; (repeat (first | exact Pick.here _ | apply Pick.there)); rfl; rfl; rfl; (first | rfl | simp only [ones, List.all_cons, List.all_nil, Bool.and_true, one_int, one_bool, one_str, one_ptr, one_slice, one_sl, one_os, *])) | (apply ResV.cell; rfl; apply Pick.mem; (repeat (first | exact Pick.here _ | apply Pick.there)); rfl; rfl; rfl)))) (by (repeat (first | exact Picks.nil _ | (apply Picks.cons; focus ((repeat (first | exact Pick.here _ | apply Pick.there)); (first | done | fail))))))
  exact .os _ _ _ _ (Subs.refl _)
set_option maxRecDepth 20000 in set_option maxHeartbeats 4000000 in
theorem sim_Signs : Sim Tryz.prog I 22 [] [] (fun o τ => o = .ret (.sl 1 (sl Lex.signsL)) ∧ τ = []) := by
  refine sim_body' Tryz.func22 rfl rfl rfl ?_
  repeat (any_goals (first | refine s_at ?_ | refine s_skip ?_ | refine s_off ?_ | refine s_offn ?_ | refine s_move ?_ | refine s_assign ?_ | refine s_load ?_ | refine s_loade ?_ | refine s_loadd ?_ | refine s_pick1 ?_ | refine s_pick0 ?_ | refine s_pure ?_ | refine s_nil ?_ | refine aw_seq ?_ | refine aw_seqr ?_ | refine aw_block ?_ | refine aw_true ?_ | refine aw_false ?_ | refine s_alloc (fun _ => ?_) | refine s_allocd (fun _ => ?_) | refine s_box (fun _ => ?_) | refine s_box1 (fun _ => ?_) | refine s_store' ?_ | refine s_lit (fun kk => ?_)))
  refine aw_ret ?_; (repeat (first | refine then_ret ?_ | refine inb_ret ?_))
  refine post_of ⟨_, .ret _ _ ?_, rfl, rfl⟩ (by (repeat' (first | exact ResVs.nil | apply ResVs.cons | (apply ResV.tmp; first | exact (rfl : _ = AV.sc _) | exact (rfl : _ = AV.ag _) | exact (rfl : _ = AV.sl _ _) | exact (rfl : _ = AV.os _ _ _) | exact (rfl : _ = AV.fn _ _ _)) | (apply ResV.cells; rfl; apply Pick.mem; (repeat (first | exact Pick.here _ | apply Pick.there)); rfl; rfl; rfl; (first | rfl | simp only [ones, List.all_cons, List.all_nil, Bool.and_true, one_int, one_bool, one_str, one_ptr, one_slice, one_sl, one_os, *])) | (apply ResV.cell; rfl; apply Pick.mem; (repeat (first | exact Pick.here _ | apply Pick.there)); rfl; rfl; rfl)))) (by (repeat (first | exact Picks.nil _ | (apply Picks.cons; focus ((repeat (first | exact Pick.here _ | apply Pick.there)); (first | done | fail))))))
  exact .os _ _ _ _ (Subs.refl _)
theorem inName_split (c : UInt8) : Lex.inName c = (Lex.isLetter c || (Lex.isDigit c || c == 39)) := by
  revert c; exact Lex.all_bytes (by decide +kernel)
theorem c39 {c : UInt8} : ((c.toNat : Int) = 39) ↔ c = 39 := byte_eq (c := 39)
set_option maxRecDepth 20000 in set_option maxHeartbeats 4000000 in
theorem sim_name (a : ByteArray) (ha : Small a) (p : Nat) (hp : p ≤ a.size) : Sim Tryz.prog I 67 [str a, i64 (p : Int)] [] (fun o τ => o = .ret (i64 ((p + ((a.data.toList.drop p).takeWhile Lex.inName).length : Nat) : Int)) ∧ τ = []) := by
  have ha' : a.size ≤ 140737488351232 := ha
  generalize hr : p + ((a.data.toList.drop p).takeWhile Lex.inName).length = r
  refine sim_body Tryz.func67 rfl rfl rfl ?_
  repeat (any_goals (first | refine s_at ?_ | refine s_skip ?_ | refine s_off ?_ | refine s_offn ?_ | refine s_move ?_ | refine s_assign ?_ | refine s_load ?_ | refine s_loade ?_ | refine s_loadd ?_ | refine s_pick1 ?_ | refine s_pick0 ?_ | refine s_pure ?_ | refine s_nil ?_ | refine aw_seq ?_ | refine aw_seqr ?_ | refine aw_block ?_ | refine aw_true ?_ | refine aw_false ?_ | refine s_alloc (fun _ => ?_) | refine s_allocd (fun _ => ?_) | refine s_box (fun _ => ?_) | refine s_box1 (fun _ => ?_) | refine s_store' ?_))
  refine aw_loop (fun i : Nat => [(0, str a), (1, i64 (i : Int))]) (fun _ => []) (fun i => i ≤ a.size ∧ i + ((a.data.toList.drop i).takeWhile Lex.inName).length = r) (fun i => a.size - i) p ⟨hp, hr⟩ (EnvLe.of_list (by intro x hx; simp only [List.mem_cons, List.not_mem_nil, or_false] at hx; (repeat (rcases hx with rfl | hx; (focus rfl))); (try (subst hx; rfl)))) [] (List.Perm.refl _) ?_
  rintro i ⟨i1, i2⟩
  by_cases hi : i < a.size
  · obtain ⟨x, hx, hd⟩ := drop_at hi
    have hc1 := sim_letter I x
    have hc2 := sim_digit I x
    have hsp := inName_split x
    rw [hd, List.takeWhile_cons] at i2
    cases hb : Lex.inName x with
    | true =>
      rw [hb, if_pos rfl, List.length_cons] at i2
      rw [hb] at hsp
      cases hb1 : Lex.isLetter x <;> rw [hb1] at hc1 hsp <;> cases hb2 : Lex.isDigit x <;> rw [hb2] at hc2 hsp
      all_goals
        repeat (any_goals (first | refine s_at ?_ | refine s_skip ?_ | refine s_off ?_ | refine s_offn ?_ | refine s_move ?_ | refine s_assign ?_ | refine s_load ?_ | refine s_loade ?_ | refine s_loadd ?_ | refine s_pick1 ?_ | refine s_pick0 ?_ | refine s_pure ?_ | refine s_nil ?_ | refine aw_seq ?_ | refine aw_seqr ?_ | refine aw_block ?_ | refine aw_true ?_ | refine aw_false ?_ | refine s_alloc (fun _ => ?_) | refine s_allocd (fun _ => ?_) | refine s_box (fun _ => ?_) | refine s_box1 (fun _ => ?_) | refine s_store' ?_ | refine s_index i hx ?_ | (refine s_cmp (fun h => ?_) (fun h => ?_) <;> try (exfalso; omega)) | refine s_call0 hc1 ?_ | refine s_call0 hc2 ?_ | refine s_add ?_))
        all_goals (try (exfalso; exact h (c39.2 (by simpa using hsp))))
        refine d_end fun env' he => inb_nor (then_nor (rnd_end (i + 1) (by (repeat (first | exact Picks.nil _ | (apply Picks.cons; focus ((repeat (first | exact Pick.here _ | apply Pick.there)); (first | done | fail)))))) ⟨by omega, by omega⟩ (by omega) (EnvLe.of_eq he (EnvLe.of_list (by intro x hx; simp only [List.mem_cons, List.not_mem_nil, or_false] at hx; (repeat (rcases hx with rfl | hx; (focus rfl))); (try (subst hx; rfl)))))))
    | false =>
      rw [hb, if_neg (by simp)] at i2
      rw [hb] at hsp
      have h1 : Lex.isLetter x = false := by cases h : Lex.isLetter x with | false => rfl | true => rw [h] at hsp; simp at hsp
      have h2 : Lex.isDigit x = false := by cases h : Lex.isDigit x with | false => rfl | true => rw [h, h1] at hsp; simp at hsp
      have h3 : ¬ (x.toNat : Int) = 39 := fun h => by rw [c39.1 h] at hsp; simp at hsp
      rw [h1] at hc1
      rw [h2] at hc2
      repeat (any_goals (first | refine s_at ?_ | refine s_skip ?_ | refine s_off ?_ | refine s_offn ?_ | refine s_move ?_ | refine s_assign ?_ | refine s_load ?_ | refine s_loade ?_ | refine s_loadd ?_ | refine s_pick1 ?_ | refine s_pick0 ?_ | refine s_pure ?_ | refine s_nil ?_ | refine aw_seq ?_ | refine aw_seqr ?_ | refine aw_block ?_ | refine aw_true ?_ | refine aw_false ?_ | refine s_alloc (fun _ => ?_) | refine s_allocd (fun _ => ?_) | refine s_box (fun _ => ?_) | refine s_box1 (fun _ => ?_) | refine s_store' ?_ | refine s_index i hx ?_ | (refine s_cmp (fun h => ?_) (fun h => ?_) <;> try (exfalso; omega)) | refine s_call0 hc1 ?_ | refine s_call0 hc2 ?_ | refine s_add ?_))
      refine aw_exit ?_; (repeat refine then_exit ?_); refine inb_exit ?_; refine then_nor ?_
      repeat (any_goals (first | refine s_at ?_ | refine s_skip ?_ | refine s_off ?_ | refine s_offn ?_ | refine s_move ?_ | refine s_assign ?_ | refine s_load ?_ | refine s_loade ?_ | refine s_loadd ?_ | refine s_pick1 ?_ | refine s_pick0 ?_ | refine s_pure ?_ | refine s_nil ?_ | refine aw_seq ?_ | refine aw_seqr ?_ | refine aw_block ?_ | refine aw_true ?_ | refine aw_false ?_ | refine s_alloc (fun _ => ?_) | refine s_allocd (fun _ => ?_) | refine s_box (fun _ => ?_) | refine s_box1 (fun _ => ?_) | refine s_store' ?_))
      refine aw_ret ?_; (repeat (first | refine then_ret ?_ | refine inb_ret ?_))
      refine (post_of ⟨?_, rfl⟩ (by (repeat' (first | exact ResVs.nil | apply ResVs.cons | (apply ResV.tmp; first | exact (rfl : _ = AV.sc _) | exact (rfl : _ = AV.ag _) | exact (rfl : _ = AV.sl _ _) | exact (rfl : _ = AV.os _ _ _) | exact (rfl : _ = AV.fn _ _ _)) | (apply ResV.cells; rfl; apply Pick.mem; (repeat (first | exact Pick.here _ | apply Pick.there)); rfl; rfl; rfl; (first | rfl | simp only [ones, List.all_cons, List.all_nil, Bool.and_true, one_int, one_bool, one_str, one_ptr, one_slice, one_sl, one_os, *])) | (apply ResV.cell; rfl; apply Pick.mem; (repeat (first | exact Pick.here _ | apply Pick.there)); rfl; rfl; rfl)))) (by (repeat (first | exact Picks.nil _ | (apply Picks.cons; focus ((repeat (first | exact Pick.here _ | apply Pick.there)); (first | done | fail)))))))
      rw [← i2]; rfl
  · rw [drop_end (by omega)] at i2
    repeat (any_goals (first | refine s_at ?_ | refine s_skip ?_ | refine s_off ?_ | refine s_offn ?_ | refine s_move ?_ | refine s_assign ?_ | refine s_load ?_ | refine s_loade ?_ | refine s_loadd ?_ | refine s_pick1 ?_ | refine s_pick0 ?_ | refine s_pure ?_ | refine s_nil ?_ | refine aw_seq ?_ | refine aw_seqr ?_ | refine aw_block ?_ | refine aw_true ?_ | refine aw_false ?_ | refine s_alloc (fun _ => ?_) | refine s_allocd (fun _ => ?_) | refine s_box (fun _ => ?_) | refine s_box1 (fun _ => ?_) | refine s_store' ?_ | (refine s_cmp (fun h => ?_) (fun h => ?_) <;> try (exfalso; omega))))
    refine aw_exit ?_; (repeat refine then_exit ?_); refine inb_exit ?_; refine then_nor ?_
    repeat (any_goals (first | refine s_at ?_ | refine s_skip ?_ | refine s_off ?_ | refine s_offn ?_ | refine s_move ?_ | refine s_assign ?_ | refine s_load ?_ | refine s_loade ?_ | refine s_loadd ?_ | refine s_pick1 ?_ | refine s_pick0 ?_ | refine s_pure ?_ | refine s_nil ?_ | refine aw_seq ?_ | refine aw_seqr ?_ | refine aw_block ?_ | refine aw_true ?_ | refine aw_false ?_ | refine s_alloc (fun _ => ?_) | refine s_allocd (fun _ => ?_) | refine s_box (fun _ => ?_) | refine s_box1 (fun _ => ?_) | refine s_store' ?_))
    refine aw_ret ?_; (repeat (first | refine then_ret ?_ | refine inb_ret ?_))
    refine (post_of ⟨?_, rfl⟩ (by (repeat' (first | exact ResVs.nil | apply ResVs.cons | (apply ResV.tmp; first | exact (rfl : _ = AV.sc _) | exact (rfl : _ = AV.ag _) | exact (rfl : _ = AV.sl _ _) | exact (rfl : _ = AV.os _ _ _) | exact (rfl : _ = AV.fn _ _ _)) | (apply ResV.cells; rfl; apply Pick.mem; (repeat (first | exact Pick.here _ | apply Pick.there)); rfl; rfl; rfl; (first | rfl | simp only [ones, List.all_cons, List.all_nil, Bool.and_true, one_int, one_bool, one_str, one_ptr, one_slice, one_sl, one_os, *])) | (apply ResV.cell; rfl; apply Pick.mem; (repeat (first | exact Pick.here _ | apply Pick.there)); rfl; rfl; rfl)))) (by (repeat (first | exact Picks.nil _ | (apply Picks.cons; focus ((repeat (first | exact Pick.here _ | apply Pick.there)); (first | done | fail)))))))
    rw [← i2]; rfl
end
end Go.Proofs.YtglgppkjgodlkaaGreatDoor.J
