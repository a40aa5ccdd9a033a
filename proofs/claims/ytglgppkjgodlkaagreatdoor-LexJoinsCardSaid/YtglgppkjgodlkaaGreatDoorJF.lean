/- The reference of package lex, walked over deep values: symbols, one token. Conditions: none. -/
import Derived.Test.YtglgppkjgodlkaaGreatDoorJE
namespace Go.Proofs.YtglgppkjgodlkaaGreatDoor.J
open Go.Dp Rl
set_option linter.unusedVariables false
set_option linter.unusedSimpArgs false
/-- What One makes of symbols. -/
def symTok (p : Nat) (w : Lex.Bytes) : AV := .tu [etkB (if Lex.signsL.contains w then 5 else 4) 0 (bs w) (p : Int) ((p + w.length : Nat) : Int), boo (decide (0 < w.length ∧ w.length ≤ 32))]
section
variable (I : World → Prop)
set_option maxRecDepth 20000 in set_option maxHeartbeats 4000000 in
theorem one_syms (a : ByteArray) (ha : Small a) (p : Nat) {c : UInt8} {r : Lex.Bytes} (hx : a.data.toList[p]? = some c) (hl : a.data.toList.drop p = c :: r) (hp : p < a.size) (h1 : Lex.isLetter c = false) (h2 : Lex.isDigit c = false)
    (hs : Lex.signPick (c :: r) [] Lex.signsL = []) :
    Sim Tryz.prog I 47 [str a, i64 (p : Int)] [] (fun o τ => o = .ret (symTok p ((c :: r).takeWhile Lex.isSym)) ∧ τ = []) := by
  have ha' : a.size ≤ 140737488351232 := ha
  have hc := sim_letter I c
  have hc2 := sim_digit I c
  have hn := sim_sign I a ha p (by omega)
  rw [h1] at hc
  rw [h2] at hc2
  rw [hl, hs] at hn
  have hlen : (c :: r).length = a.size - p := by rw [← hl, List.length_drop, size_l]
  have hw := Lex.takeWhile_len Lex.isSym (c :: r)
  have hct := cut_at (a := a) (p := p) (m := ((c :: r).takeWhile Lex.isSym).length) (by omega)
  rw [hl, tw_take] at hct
  have hin := sim_In I Lex.signsL (by decide) (bs ((c :: r).takeWhile Lex.isSym))
  rw [bs_l] at hin
  have h0 : p + ((a.data.toList.drop p).takeWhile Lex.isSym).length = p + ((c :: r).takeWhile Lex.isSym).length := by rw [hl]
  unfold symTok
  generalize (c :: r).takeWhile Lex.isSym = w at *
  refine sim_body Tryz.func47 rfl rfl rfl ?_
  repeat (any_goals (first | refine s_at ?_ | refine s_skip ?_ | refine s_off ?_ | refine s_offn ?_ | refine s_move ?_ | refine s_assign ?_ | refine s_load ?_ | refine s_loade ?_ | refine s_loadd ?_ | refine s_pick1 ?_ | refine s_pick0 ?_ | refine s_pure ?_ | refine s_nil ?_ | refine aw_seq ?_ | refine aw_seqr ?_ | refine aw_block ?_ | refine aw_true ?_ | refine aw_false ?_ | refine s_alloc (fun _ => ?_) | refine s_allocd (fun _ => ?_) | refine s_box (fun _ => ?_) | refine s_box1 (fun _ => ?_) | refine s_store' ?_ | (refine s_cmp (fun h => ?_) (fun h => ?_) <;> try (exfalso; omega)) | refine s_index p hx ?_ | refine s_call0 hc ?_ | refine s_call0 hc2 ?_ | refine s_call0 hn ?_ | (refine s_cmps (fun h => ?_) (fun h => ?_) <;> try (exact absurd rfl h)) | refine s_add ?_))
  rename_i b4
  refine aw_loop (fun j : Nat => [(0, str a), (1, i64 (p : Int)), (4, .sc (.pointer (some ⟨b4, 0, none⟩))), (9, i64 (j : Int))]) (fun _ => [.box b4 ty38.zl 38])
    (fun j => p ≤ j ∧ j ≤ a.size ∧ j + ((a.data.toList.drop j).takeWhile Lex.isSym).length = p + w.length) (fun j => a.size - j) p ⟨Nat.le_refl _, by omega, h0⟩ (EnvLe.of_list (by intro x hx; simp only [List.mem_cons, List.not_mem_nil, or_false] at hx; (repeat (rcases hx with rfl | hx; (focus rfl))); (try (subst hx; rfl)))) [] (List.Perm.refl _) ?_
  rintro j ⟨j1, j2, j3⟩
  by_cases hj : j < a.size ∧ ∃ x, a.data.toList[j]? = some x ∧ Lex.isSym x = true
  · obtain ⟨hj, x, hxj, hsx⟩ := hj
    have hcs := sim_Symbol I x
    rw [hsx] at hcs
    obtain ⟨y, hy, hd⟩ := drop_at hj
    rw [hxj] at hy
    cases hy
    rw [hd, List.takeWhile_cons, if_pos hsx, List.length_cons] at j3
    repeat (any_goals (first | refine s_at ?_ | refine s_skip ?_ | refine s_off ?_ | refine s_offn ?_ | refine s_move ?_ | refine s_assign ?_ | refine s_load ?_ | refine s_loade ?_ | refine s_loadd ?_ | refine s_pick1 ?_ | refine s_pick0 ?_ | refine s_pure ?_ | refine s_nil ?_ | refine aw_seq ?_ | refine aw_seqr ?_ | refine aw_block ?_ | refine aw_true ?_ | refine aw_false ?_ | refine s_alloc (fun _ => ?_) | refine s_allocd (fun _ => ?_) | refine s_box (fun _ => ?_) | refine s_box1 (fun _ => ?_) | refine s_store' ?_ | (refine s_cmp (fun h => ?_) (fun h => ?_) <;> try (exfalso; omega)) | refine s_index j hxj ?_ | refine s_call0 hcs ?_ | refine s_add ?_))
    refine d_end fun env' he => ?_
    (repeat (first | refine inb_nor ?_ | refine then_nor ?_))
    refine ⟨j + 1, _, ⟨by omega, by omega, by omega⟩, by omega, EnvLe.of_eq he (EnvLe.of_list (by intro x hx; simp only [List.mem_cons, List.not_mem_nil, or_false] at hx; (repeat (rcases hx with rfl | hx; (focus rfl))); (try (subst hx; rfl)))), Picks.perm (by (repeat (first | exact Picks.nil _ | (apply Picks.cons; focus ((repeat (first | exact Pick.here _ | apply Pick.there)); (first | done | fail))))))⟩
  · have hend : j = p + w.length := by
      by_cases hlt : j < a.size
      · obtain ⟨y, hy, hd⟩ := drop_at hlt
        have hny : Lex.isSym y = false := by
          cases h : Lex.isSym y with
          | false => rfl
          | true => exact absurd ⟨hlt, y, hy, h⟩ hj
        rw [hd, List.takeWhile_cons, if_neg (by rw [hny]; simp)] at j3
        simpa using j3
      · rw [drop_end (by omega)] at j3
        simpa using j3
    by_cases hlt : j < a.size
    · obtain ⟨y, hy, hd⟩ := drop_at hlt
      have hny : Lex.isSym y = false := by
        cases h : Lex.isSym y with
        | false => rfl
        | true => exact absurd ⟨hlt, y, hy, h⟩ hj
      have hcs := sim_Symbol I y
      rw [hny] at hcs
      clear hj
      repeat (any_goals (first | refine s_at ?_ | refine s_skip ?_ | refine s_off ?_ | refine s_offn ?_ | refine s_move ?_ | refine s_assign ?_ | refine s_load ?_ | refine s_loade ?_ | refine s_loadd ?_ | refine s_pick1 ?_ | refine s_pick0 ?_ | refine s_pure ?_ | refine s_nil ?_ | refine aw_seq ?_ | refine aw_seqr ?_ | refine aw_block ?_ | refine aw_true ?_ | refine aw_false ?_ | refine s_alloc (fun _ => ?_) | refine s_allocd (fun _ => ?_) | refine s_box (fun _ => ?_) | refine s_box1 (fun _ => ?_) | refine s_store' ?_ | (refine s_cmp (fun h => ?_) (fun h => ?_) <;> try (exfalso; omega)) | refine s_index j hy ?_ | refine s_call0 hcs ?_))
      refine aw_exit ?_; (repeat refine then_exit ?_); refine inb_exit ?_; refine then_nor ?_
      subst hend
      cases hiw : Lex.signsL.contains w <;> rw [hiw] at hin
      all_goals
        repeat (any_goals (first | refine s_at ?_ | refine s_skip ?_ | refine s_off ?_ | refine s_offn ?_ | refine s_move ?_ | refine s_assign ?_ | refine s_load ?_ | refine s_loade ?_ | refine s_loadd ?_ | refine s_pick1 ?_ | refine s_pick0 ?_ | refine s_pure ?_ | refine s_nil ?_ | refine aw_seq ?_ | refine aw_seqr ?_ | refine aw_block ?_ | refine aw_true ?_ | refine aw_false ?_ | refine s_alloc (fun _ => ?_) | refine s_allocd (fun _ => ?_) | refine s_box (fun _ => ?_) | refine s_box1 (fun _ => ?_) | refine s_store' ?_ | (refine s_cmp (fun h => ?_) (fun h => ?_) <;> try (exfalso; omega)) | (refine s_cut p (p + w.length) ?_; rw [hct]) | refine s_call0 (sim_Signs I) ?_ | refine s_call0 hin ?_ | refine s_draw [] ?_ | refine s_sub ?_))
        all_goals
          refine aw_ret ?_; (repeat (first | refine then_ret ?_ | refine inb_ret ?_))
          refine post_of ⟨?_, rfl⟩ (by (repeat' (first | exact ResVs.nil | apply ResVs.cons | (apply ResV.tmp; first | exact (rfl : _ = AV.sc _) | exact (rfl : _ = AV.ag _) | exact (rfl : _ = AV.sl _ _) | exact (rfl : _ = AV.os _ _ _) | exact (rfl : _ = AV.fn _ _ _)) | (apply ResV.cells; rfl; apply Pick.mem; (repeat (first | exact Pick.here _ | apply Pick.there)); rfl; rfl; rfl; (first | rfl | simp only [ones, List.all_cons, List.all_nil, Bool.and_true, one_int, one_bool, one_str, one_ptr, one_slice, one_sl, one_os, *])) | (apply ResV.cell; rfl; apply Pick.mem; (repeat (first | exact Pick.here _ | apply Pick.there)); rfl; rfl; rfl)))) (by (repeat (first | exact Picks.nil _ | (apply Picks.cons; focus ((repeat (first | exact Pick.here _ | apply Pick.there)); (first | done | fail))))))
          first | (rw [show decide (0 < w.length ∧ w.length ≤ 32) = true from decide_eq_true ⟨by omega, by omega⟩]; rfl) | (rw [show decide (0 < w.length ∧ w.length ≤ 32) = false from decide_eq_false (fun h => by omega)]; rfl)
    · clear hj
      repeat (any_goals (first | refine s_at ?_ | refine s_skip ?_ | refine s_off ?_ | refine s_offn ?_ | refine s_move ?_ | refine s_assign ?_ | refine s_load ?_ | refine s_loade ?_ | refine s_loadd ?_ | refine s_pick1 ?_ | refine s_pick0 ?_ | refine s_pure ?_ | refine s_nil ?_ | refine aw_seq ?_ | refine aw_seqr ?_ | refine aw_block ?_ | refine aw_true ?_ | refine aw_false ?_ | refine s_alloc (fun _ => ?_) | refine s_allocd (fun _ => ?_) | refine s_box (fun _ => ?_) | refine s_box1 (fun _ => ?_) | refine s_store' ?_ | (refine s_cmp (fun h => ?_) (fun h => ?_) <;> try (exfalso; omega))))
      refine aw_exit ?_; (repeat refine then_exit ?_); refine inb_exit ?_; refine then_nor ?_
      subst hend
      cases hiw : Lex.signsL.contains w <;> rw [hiw] at hin
      all_goals
        repeat (any_goals (first | refine s_at ?_ | refine s_skip ?_ | refine s_off ?_ | refine s_offn ?_ | refine s_move ?_ | refine s_assign ?_ | refine s_load ?_ | refine s_loade ?_ | refine s_loadd ?_ | refine s_pick1 ?_ | refine s_pick0 ?_ | refine s_pure ?_ | refine s_nil ?_ | refine aw_seq ?_ | refine aw_seqr ?_ | refine aw_block ?_ | refine aw_true ?_ | refine aw_false ?_ | refine s_alloc (fun _ => ?_) | refine s_allocd (fun _ => ?_) | refine s_box (fun _ => ?_) | refine s_box1 (fun _ => ?_) | refine s_store' ?_ | (refine s_cmp (fun h => ?_) (fun h => ?_) <;> try (exfalso; omega)) | (refine s_cut p (p + w.length) ?_; rw [hct]) | refine s_call0 (sim_Signs I) ?_ | refine s_call0 hin ?_ | refine s_draw [] ?_ | refine s_sub ?_))
        all_goals
          refine aw_ret ?_; (repeat (first | refine then_ret ?_ | refine inb_ret ?_))
          refine post_of ⟨?_, rfl⟩ (by (repeat' (first | exact ResVs.nil | apply ResVs.cons | (apply ResV.tmp; first | exact (rfl : _ = AV.sc _) | exact (rfl : _ = AV.ag _) | exact (rfl : _ = AV.sl _ _) | exact (rfl : _ = AV.os _ _ _) | exact (rfl : _ = AV.fn _ _ _)) | (apply ResV.cells; rfl; apply Pick.mem; (repeat (first | exact Pick.here _ | apply Pick.there)); rfl; rfl; rfl; (first | rfl | simp only [ones, List.all_cons, List.all_nil, Bool.and_true, one_int, one_bool, one_str, one_ptr, one_slice, one_sl, one_os, *])) | (apply ResV.cell; rfl; apply Pick.mem; (repeat (first | exact Pick.here _ | apply Pick.there)); rfl; rfl; rfl)))) (by (repeat (first | exact Picks.nil _ | (apply Picks.cons; focus ((repeat (first | exact Pick.here _ | apply Pick.there)); (first | done | fail))))))
          first | (rw [show decide (0 < w.length ∧ w.length ≤ 32) = true from decide_eq_true ⟨by omega, by omega⟩]; rfl) | (rw [show decide (0 < w.length ∧ w.length ≤ 32) = false from decide_eq_false (fun h => by omega)]; rfl)
end
end Go.Proofs.YtglgppkjgodlkaaGreatDoor.J
